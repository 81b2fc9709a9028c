import Derived.Test.YtobfngpkemkojaaGreatDoorG1A
set_option linter.unusedVariables false
set_option linter.unusedSimpArgs false
namespace Go.Proofs.YtobfngpkemkojaaGreatDoor
open Go.RowKit
open Option renaming bind → oB
def k__slices_xorshift_Next_m (N : Nat) (a : Int) : Option (Int × Int) :=
 (if 0 ≤ (13 : Int) then if 0 ≤ (7 : Int) then if 0 ≤ (17 : Int) then some ((bitsI .xor .u64 (bitsI .xor .u64 (bitsI .xor .u64 a (IntKind.u64.wrap (a * 2 ^ (min (13 : Int).toNat (IntKind.bits .u64))))) ((bitsI .xor .u64 a (IntKind.u64.wrap (a * 2 ^ (min (13 : Int).toNat (IntKind.bits .u64))))).fdiv (2 ^ (min (7 : Int).toNat (IntKind.bits .u64))))) (IntKind.u64.wrap ((bitsI .xor .u64 (bitsI .xor .u64 a (IntKind.u64.wrap (a * 2 ^ (min (13 : Int).toNat (IntKind.bits .u64))))) ((bitsI .xor .u64 a (IntKind.u64.wrap (a * 2 ^ (min (13 : Int).toNat (IntKind.bits .u64))))).fdiv (2 ^ (min (7 : Int).toNat (IntKind.bits .u64))))) * 2 ^ (min (17 : Int).toNat (IntKind.bits .u64))))), (bitsI .xor .u64 (bitsI .xor .u64 (bitsI .xor .u64 a (IntKind.u64.wrap (a * 2 ^ (min (13 : Int).toNat (IntKind.bits .u64))))) ((bitsI .xor .u64 a (IntKind.u64.wrap (a * 2 ^ (min (13 : Int).toNat (IntKind.bits .u64))))).fdiv (2 ^ (min (7 : Int).toNat (IntKind.bits .u64))))) (IntKind.u64.wrap ((bitsI .xor .u64 (bitsI .xor .u64 a (IntKind.u64.wrap (a * 2 ^ (min (13 : Int).toNat (IntKind.bits .u64))))) ((bitsI .xor .u64 a (IntKind.u64.wrap (a * 2 ^ (min (13 : Int).toNat (IntKind.bits .u64))))).fdiv (2 ^ (min (7 : Int).toNat (IntKind.bits .u64))))) * 2 ^ (min (17 : Int).toNat (IntKind.bits .u64)))))) else none else none else none)
theorem jet (N : Nat) : mK 256 ⟨⟨[.box 900000 0], [(900000, false, [.pv (.int .u64)])]⟩, ⟨[.pv (.int .u64)], [(900000, false, [.pv (.int .u64)])]⟩, c1A (k__slices_xorshift_Next_m N)⟩ :=
 mO ja Tryz.func256 rfl N .no _ (rs := [900000])
section
variable {α γ ρ : Type} (c : γ → α → α → Option Int)
def swpG (d : List α) (i j : Int) (k : List α → Option ρ) : Option ρ :=
 if 0 ≤ j ∧ j < (d.length : Int) then oB (d[j.toNat]?) fun e => if 0 ≤ i ∧ i < (d.length : Int) then oB (d[i.toNat]?) fun e2 =>
  if 0 ≤ i ∧ i < (d.length : Int) then oB (d[i.toNat]?) fun e3 => if 0 ≤ j ∧ j < ((d.set i.toNat e).length : Int) then oB ((d.set i.toNat e)[j.toNat]?) fun e4 => k ((d.set i.toNat e).set j.toNat e2)
  else none else none else none else none
def cmpG (ks : γ) (d : List α) (i j : Int) (k : Int → Option ρ) : Option ρ :=
 if 0 ≤ i ∧ i < (d.length : Int) then oB (d[i.toNat]?) fun e => if 0 ≤ j ∧ j < (d.length : Int) then oB (d[j.toNat]?) fun e2 => oB (c ks e e2) k else none else none
def cmpP (ks : γ) (d : List α) (j : Int) (k : Int → Option ρ) : Option ρ :=
 if 0 ≤ j ∧ j < (d.length : Int) then oB (d[j.toNat]?) fun e => if fits (j - 1) then if 0 ≤ (j - 1) ∧ (j - 1) < (d.length : Int) then oB (d[(j - 1).toNat]?) fun e2 => oB (c ks e e2) k else none else none else none
def swpP (d : List α) (j : Int) (k : List α → Option ρ) : Option ρ := if fits (j - 1) then if fits (j - 1) then swpG d j (j - 1) k else none else none
def insG (N : Nat) (d : List α) (a b : Int) (ks : γ) : Option (List α) :=
 if fits (a + 1) then iter (fun go (g : List α × Int × Int × γ × Int) =>
  match g with
  | (d2, a2, b2, ks2, i) =>
  bif decide (i < b2) then
   iter (fun go2 (g : List α × Int × Int × γ × Int × Int) =>
    match g with
    | (d3, a3, b3, ks3, i2, j) =>
    bif decide (a3 < j) then cmpP c ks3 d3 j fun r => bif decide (r < 0) then swpP d3 j fun d => if fits (j - 1) then go2 (d, a3, b3, ks3, i2, j - 1) else none
     else if fits (i2 + 1) then go (d3, a3, b3, ks3, i2 + 1) else none
    else if fits (i2 + 1) then go (d3, a3, b3, ks3, i2 + 1) else none) N (d2, a2, b2, ks2, i, i)
  else some d2) N (d, a, b, ks, a + 1) else none
def siftG (N : Nat) (data : List α) (lo : Int) (hi : Int) (first : Int) (cmp : γ) : Option ((List α)) :=
 (iter (fun go (g : (List α) × Int × Int × γ × Int) => 
   match g with
   | (data2, hi2, first2, cmp2, root) =>
   (if fits (2 * root) then (if fits ((2 * root) + 1) then (bif (decide (hi2 ≤ ((2 * root) + 1))) then
      (some data2)
      else
      (meet (fun (g : (List α) × Int × Int × γ × Int × Int) => 
        match g with
        | (data3, hi3, first3, cmp3, root2, child) =>
        (if fits (first3 + root2) then (if 0 ≤ (first3 + root2) ∧ (first3 + root2) < (data3.length : Int) then
          (oB (data3[(first3 + root2).toNat]?) fun e3 =>
           (if fits (first3 + child) then (if 0 ≤ (first3 + child) ∧ (first3 + child) < (data3.length : Int) then
             (oB (data3[(first3 + child).toNat]?) fun e4 =>
              (oB (c cmp3 e3 e4) fun r2 =>
               (bif (!(decide (r2 < 0))) then
                (some data3)
                else
                (if fits (first3 + root2) then (if fits (first3 + child) then (if fits (first3 + child) then (if 0 ≤ (first3 + child) ∧ (first3 + child) < (data3.length : Int) then
                    (oB (data3[(first3 + child).toNat]?) fun e5 =>
                     (if fits (first3 + root2) then (if 0 ≤ (first3 + root2) ∧ (first3 + root2) < (data3.length : Int) then
                       (oB (data3[(first3 + root2).toNat]?) fun e6 =>
                        (if 0 ≤ (first3 + root2) ∧ (first3 + root2) < (data3.length : Int) then
                         (oB (data3[(first3 + root2).toNat]?) fun e7 =>
                          (if 0 ≤ (first3 + child) ∧ (first3 + child) < ((data3.set (first3 + root2).toNat e5).length : Int) then
                           (oB ((data3.set (first3 + root2).toNat e5)[(first3 + child).toNat]?) fun e8 =>
                            (go (((data3.set (first3 + root2).toNat e5).set (first3 + child).toNat e6), hi3, first3, cmp3, child)))
                           else none))
                         else none))
                       else none) else none))
                    else none) else none) else none) else none))))
             else none) else none))
          else none) else none)) fun J =>
       (if fits (((2 * root) + 1) + 1) then (bif (decide ((((2 * root) + 1) + 1) < hi2)) then
         (if fits (first2 + ((2 * root) + 1)) then (if 0 ≤ (first2 + ((2 * root) + 1)) ∧ (first2 + ((2 * root) + 1)) < (data2.length : Int) then
           (oB (data2[(first2 + ((2 * root) + 1)).toNat]?) fun e =>
            (if fits (first2 + ((2 * root) + 1)) then (if fits ((first2 + ((2 * root) + 1)) + 1) then (if 0 ≤ ((first2 + ((2 * root) + 1)) + 1) ∧ ((first2 + ((2 * root) + 1)) + 1) < (data2.length : Int) then
               (oB (data2[((first2 + ((2 * root) + 1)) + 1).toNat]?) fun e2 =>
                (oB (c cmp2 e e2) fun r =>
                 (bif (decide (r < 0)) then
                  (if fits (((2 * root) + 1) + 1) then (J (data2, hi2, first2, cmp2, root, (((2 * root) + 1) + 1))) else none)
                  else
                  (J (data2, hi2, first2, cmp2, root, ((2 * root) + 1))))))
               else none) else none) else none))
           else none) else none)
         else
         (J (data2, hi2, first2, cmp2, root, ((2 * root) + 1)))) else none))) else none) else none)) N (data, hi, first, cmp, lo))
def heapG (N : Nat) (data : List α) (a : Int) (b : Int) (cmp : γ) : Option ((List α)) :=
 (if fits (b - a) then (if fits ((b - a) - 1) then (if 2 ≠ 0 then
    (if fits (((b - a) - 1).tdiv 2) then (iter (fun go (g : (List α) × γ × Int × Int × Int × Int) => 
       match g with
       | (data2, cmp2, first, lo, hi, i) =>
       (bif (decide ((0 : Int) ≤ i)) then
        (oB (siftG c N data2 i hi first cmp2) fun r =>
         (if fits (i - 1) then (go (r, cmp2, first, lo, hi, (i - 1))) else none))
        else
        (if fits (hi - 1) then (iter (fun go2 (g : (List α) × γ × Int × Int × Int) => 
           match g with
           | (data3, cmp3, first2, lo2, i2) =>
           (bif (decide ((0 : Int) ≤ i2)) then
            (if fits (first2 + i2) then (if fits (first2 + i2) then swpG data3 first2 (first2 + i2) fun d => (oB (siftG c N d lo2 i2 first2 cmp3) fun r2 =>
                       (if fits (i2 - 1) then (go2 (r2, cmp3, first2, lo2, (i2 - 1))) else none)) else none) else none)
            else
            (some data3))) N (data2, cmp2, first, lo, (hi - 1))) else none))) N (data, cmp, a, 0, (b - a), (((b - a) - 1).tdiv 2))) else none)
    else none) else none) else none)
def breakG (N : Nat) (data : List α) (a : Int) (b : Int) (cmp : γ) : Option (List α) :=
 (if fits (b - a) then (bif (decide ((8 : Int) ≤ (b - a))) then
   (oB (k_slices_nextPowerOfTwo_m N (b - a)) fun r =>
    (if 4 ≠ 0 then
     (if fits ((b - a).tdiv 4) then (if fits (((b - a).tdiv 4) * 2) then (if fits (a + (((b - a).tdiv 4) * 2)) then (if fits ((a + (((b - a).tdiv 4) * 2)) - 1) then (iter (fun go (g : (List α) × Int × Int × Int × Int × Int) => 
           match g with
           | (data2, a2, length, modulus, idx0, random) =>
           (if 4 ≠ 0 then
            (if fits (length.tdiv 4) then (if fits ((length.tdiv 4) * 2) then (if fits (a2 + ((length.tdiv 4) * 2)) then (if fits ((a2 + ((length.tdiv 4) * 2)) + 1) then (bif (decide (idx0 ≤ ((a2 + ((length.tdiv 4) * 2)) + 1))) then
                 (oB (k__slices_xorshift_Next_m N random) fun r2 =>
                  (meet (fun (g : (List α) × Int × Int × Int × Int × Int × Int) => 
                    match g with
                    | (data3, a3, length2, modulus2, idx02, other, random2) =>
                    (if fits (a3 + other) then (if fits (a3 + other) then swpG data3 idx02 (a3 + other) fun d => (if fits (idx02 + 1) then (go (d, a3, length2, modulus2, (idx02 + 1), random2)) else none) else none) else none)) fun J =>
                   (bif (decide (length ≤ (IntKind.i64.wrap (bitsI .and .u64 r2.1 (IntKind.u64.wrap (modulus - 1)))))) then
                    (if fits ((IntKind.i64.wrap (bitsI .and .u64 r2.1 (IntKind.u64.wrap (modulus - 1)))) - length) then (J (data2, a2, length, modulus, idx0, ((IntKind.i64.wrap (bitsI .and .u64 r2.1 (IntKind.u64.wrap (modulus - 1)))) - length), r2.2)) else none)
                    else
                    (J (data2, a2, length, modulus, idx0, (IntKind.i64.wrap (bitsI .and .u64 r2.1 (IntKind.u64.wrap (modulus - 1)))), r2.2)))))
                 else
                 (some data2)) else none) else none) else none) else none)
            else none)) N (data, a, (b - a), r, ((a + (((b - a).tdiv 4) * 2)) - 1), (IntKind.u64.wrap (b - a)))) else none) else none) else none) else none)
     else none))
   else
   (some data)) else none)
def order2G (N : Nat) (data : List α) (a : Int) (b : Int) (cmp : γ) (b2 : Int) : Option (Int × Int × (List α) × Int) :=
 cmpG c cmp data b a fun r => (bif (decide (r < 0)) then (if fits (b2 + 1) then (some (b, a, data, (b2 + 1))) else none) else (some (a, b, data, b2)))
def medianG (N : Nat) (data : List α) (a : Int) (b : Int) (c0 : Int) (cmp : γ) (b2 : Int) : Option (Int × (List α) × Int) :=
 (oB (order2G c N data a b cmp b2) fun r =>
  (oB (order2G c N r.2.2.1 r.2.1 c0 cmp r.2.2.2) fun r2 =>
   (oB (order2G c N r2.2.2.1 r.1 r2.1 cmp r2.2.2.2) fun r3 =>
    (some (r3.2.1, r3.2.2.1, r3.2.2.2)))))
def medianAdjacentG (N : Nat) (data : List α) (a : Int) (cmp : γ) (b : Int) : Option (Int × (List α) × Int) :=
 (if fits (a - 1) then (if fits (a + 1) then (oB (medianG c N data (a - 1) a (a + 1) cmp b) fun r =>
    (some (r.1, r.2.1, r.2.2))) else none) else none)
def choosePivotG (N : Nat) (data : List α) (a : Int) (b : Int) (cmp : γ) : Option (Int × Int × (List α)) :=
 (if fits (b - a) then (if 4 ≠ 0 then
   (if fits ((b - a).tdiv 4) then (if fits (((b - a).tdiv 4) * 1) then (if fits (a + (((b - a).tdiv 4) * 1)) then (if 4 ≠ 0 then
       (if fits ((b - a).tdiv 4) then (if fits (((b - a).tdiv 4) * 2) then (if fits (a + (((b - a).tdiv 4) * 2)) then (if 4 ≠ 0 then
           (if fits ((b - a).tdiv 4) then (if fits (((b - a).tdiv 4) * 3) then (if fits (a + (((b - a).tdiv 4) * 3)) then (meet (fun (g : (List α) × Int × Int) => 
                match g with
                | (data3, j2, swaps2) =>
                (bif (decide (swaps2 = 0)) then
                 (some (j2, 1, data3))
                 else
                 (bif (decide (swaps2 = 12)) then
                  (some (j2, 2, data3))
                  else
                  (some (j2, 0, data3))))) fun J =>
               (bif (decide ((8 : Int) ≤ (b - a))) then
                (meet (fun (g : (List α) × γ × Int × Int × Int × Int) => 
                  match g with
                  | (data2, cmp2, i, j, k, swaps) =>
                  (oB (medianG c N data2 i j k cmp2 swaps) fun r4 =>
                   (J (r4.2.1, r4.1, r4.2.2)))) fun J2 =>
                 (bif (decide ((50 : Int) ≤ (b - a))) then
                  (oB (medianAdjacentG c N data (a + (((b - a).tdiv 4) * 1)) cmp 0) fun r =>
                   (oB (medianAdjacentG c N r.2.1 (a + (((b - a).tdiv 4) * 2)) cmp r.2.2) fun r2 =>
                    (oB (medianAdjacentG c N r2.2.1 (a + (((b - a).tdiv 4) * 3)) cmp r2.2.2) fun r3 =>
                     (J2 (r3.2.1, cmp, r.1, r2.1, r3.1, r3.2.2)))))
                  else
                  (J2 (data, cmp, (a + (((b - a).tdiv 4) * 1)), (a + (((b - a).tdiv 4) * 2)), (a + (((b - a).tdiv 4) * 3)), 0))))
                else
                (J (data, (a + (((b - a).tdiv 4) * 2)), 0)))) else none) else none) else none)
           else none) else none) else none) else none)
       else none) else none) else none) else none)
   else none) else none)
def reverseRangeG (N : Nat) (data : List α) (a : Int) (b : Int) (cmp : γ) : Option ((List α)) :=
 (if fits (b - 1) then (iter (fun go (g : (List α) × Int × Int) => 
    match g with
    | (data2, i, j) =>
    (bif (decide (i < j)) then swpG data2 i j fun d => (if fits (i + 1) then (if fits (j - 1) then (go (d, (i + 1), (j - 1))) else none) else none)
     else
     (some data2))) N (data, a, (b - 1))) else none)
def shDown (k : (List α × Int × Int × γ × Int × Int) → Option ρ) (N : Nat) (g : List α × Int × Int × γ × Int × Int × Int) : Option ρ :=
 iter (fun go3 (g : (List α) × Int × Int × γ × Int × Int × Int) =>
  match g with
  | (d, a, b, ks, i, j, j4) =>
  bif decide ((1 : Int) ≤ j4) then cmpP c ks d j4 fun r => bif !decide (r < 0) then k (d, a, b, ks, i, j) else swpP d j4 fun d' => if fits (j4 - 1) then go3 (d', a, b, ks, i, j, j4 - 1) else none
  else k (d, a, b, ks, i, j)) N g
def shUp (k : (List α × Int × Int × γ × Int × Int) → Option ρ) (N : Nat) (g : List α × Int × Int × γ × Int × Int × Int) : Option ρ :=
 iter (fun go4 (g : (List α) × Int × Int × γ × Int × Int × Int) =>
  match g with
  | (d, a, b, ks, i, j, j4) =>
  bif decide (j4 < b) then cmpP c ks d j4 fun r => bif !decide (r < 0) then (if fits (j + 1) then k (d, a, b, ks, i, j + 1) else none) else swpP d j4 fun d' => if fits (j4 + 1) then go4 (d', a, b, ks, i, j, j4 + 1) else none
  else if fits (j + 1) then k (d, a, b, ks, i, j + 1) else none) N g
def pisX (N : Nat) (go : (List α × Int × Int × γ × Int × Int) → Option (Bool × List α)) (d : List α) (a b : Int) (ks : γ) (i j : Int) : Option (Bool × List α) :=
 bif decide (i = b) then some (true, d) else if fits (b - a) then bif decide ((b - a) < 50) then some (false, d) else
  swpP d i fun d' => meet (fun (g : List α × Int × Int × γ × Int × Int) =>
   match g with
   | (d5, a5, b5, ks5, i4, j5) =>
   if fits (b5 - i4) then bif decide ((2 : Int) ≤ (b5 - i4)) then if fits (i4 + 1) then shUp c go N (d5, a5, b5, ks5, i4, j5, i4 + 1) else none
    else (if fits (j5 + 1) then go (d5, a5, b5, ks5, i4, j5 + 1) else none) else none) fun J =>
   if fits (i - a) then bif decide ((2 : Int) ≤ (i - a)) then if fits (i - 1) then shDown c J N (d', a, b, ks, i, j, i - 1) else none else J (d', a, b, ks, i, j) else none
 else none
def pisG (N : Nat) (d : List α) (a b : Int) (ks : γ) : Option (Bool × List α) :=
 if fits (a + 1) then iter (fun go (g : List α × Int × Int × γ × Int × Int) =>
  match g with
  | (d2, a2, b2, ks2, i, j) =>
  bif decide (j < 5) then
   iter (fun go2 (g : List α × Int × Int × γ × Int × Int) =>
    match g with
    | (d3, a3, b3, ks3, i2, j2) =>
    bif decide (i2 < b3) then cmpP c ks3 d3 i2 fun r => bif !decide (r < 0) then (if fits (i2 + 1) then go2 (d3, a3, b3, ks3, i2 + 1, j2) else none) else pisX c N go d3 a3 b3 ks3 i2 j2
    else pisX c N go d3 a3 b3 ks3 i2 j2) N (d2, a2, b2, ks2, i, j)
  else some (false, d2)) N (d, a, b, ks, a + 1, 0) else none
def partE (go3 : (List α × Int × γ × Int × Int) → Option (Int × Bool × List α)) (fl : Bool) (g : List α × Int × γ × Int × Int) : Option (Int × Bool × List α) :=
 match g with
 | (d, a, ks, i, j) =>
 bif decide (j < i) then swpG d j a fun d' => some (j, fl, d') else swpG d i j fun d' => if fits (i + 1) then if fits (j - 1) then go3 (d', a, ks, i + 1, j - 1) else none else none
def partD (k : (List α × Int × γ × Int × Int) → Option ρ) (N : Nat) (g : List α × Int × γ × Int × Int) : Option ρ :=
 iter (fun go (g : List α × Int × γ × Int × Int) =>
  match g with
  | (d, a, ks, i, j) =>
  bif decide (i ≤ j) then cmpG c ks d j a fun r => bif !decide (r < 0) then (if fits (j - 1) then go (d, a, ks, i, j - 1) else none) else k (d, a, ks, i, j)
  else k (d, a, ks, i, j)) N g
def partU (k : (List α × Int × γ × Int × Int) → Option ρ) (N : Nat) (g : List α × Int × γ × Int × Int) : Option ρ :=
 iter (fun go (g : List α × Int × γ × Int × Int) =>
  match g with
  | (d, a, ks, i, j) =>
  bif decide (i ≤ j) then cmpG c ks d i a fun r => bif decide (r < 0) then (if fits (i + 1) then go (d, a, ks, i + 1, j) else none) else k (d, a, ks, i, j)
  else k (d, a, ks, i, j)) N g
def partG (N : Nat) (d : List α) (a b p : Int) (ks : γ) : Option (Int × Bool × List α) :=
 swpG d a p fun d => if fits (a + 1) then if fits (b - 1) then
  partU c (fun g => partD c (partE (fun g => iter (fun go3 g => partU c (fun g => partD c (partE go3 false) N g) N g) N g) true) N g) N (d, a, ks, a + 1, b - 1)
 else none else none
def peqE (go : (List α × Int × γ × Int × Int) → Option (Int × List α)) (g : List α × Int × γ × Int × Int) : Option (Int × List α) :=
 match g with
 | (d, a, ks, i, j) =>
 bif decide (j < i) then some (i, d) else swpG d i j fun d' => if fits (i + 1) then if fits (j - 1) then go (d', a, ks, i + 1, j - 1) else none else none
def peqD (k : (List α × Int × γ × Int × Int) → Option ρ) (N : Nat) (g : List α × Int × γ × Int × Int) : Option ρ :=
 iter (fun go (g : List α × Int × γ × Int × Int) =>
  match g with
  | (d, a, ks, i, j) =>
  bif decide (i ≤ j) then cmpG c ks d a j fun r => bif decide (r < 0) then (if fits (j - 1) then go (d, a, ks, i, j - 1) else none) else k (d, a, ks, i, j)
  else k (d, a, ks, i, j)) N g
def peqU (k : (List α × Int × γ × Int × Int) → Option ρ) (N : Nat) (g : List α × Int × γ × Int × Int) : Option ρ :=
 iter (fun go (g : List α × Int × γ × Int × Int) =>
  match g with
  | (d, a, ks, i, j) =>
  bif decide (i ≤ j) then cmpG c ks d a i fun r => bif !decide (r < 0) then (if fits (i + 1) then go (d, a, ks, i + 1, j) else none) else k (d, a, ks, i, j)
  else k (d, a, ks, i, j)) N g
def peqG (N : Nat) (d : List α) (a b p : Int) (ks : γ) : Option (Int × List α) :=
 swpG d a p fun d => if fits (a + 1) then if fits (b - 1) then iter (fun go g => peqU c (fun g => peqD c (peqE go) N g) N g) N (d, a, ks, a + 1, b - 1) else none else none
def pdqG (hs : List α → Int → Int → γ → Option (List α)) (pe : List α → Int → Int → Int → γ → Option (Int × List α)) (N : Nat) : (D : Nat) → (List α) → Int → Int → Int → γ → Option ((List α))
 | 0, _, _, _, _, _ => none
 | D + 1, data, a, b, limit, cmp =>
 (iter (fun go (g : (List α) × Int × Int × Int × γ × Bool × Bool) => 
   match g with
   | (data2, a2, b2, limit2, cmp2, wasBalanced, wasPartitioned) =>
   (if fits (b2 - a2) then (bif (decide ((b2 - a2) ≤ 12)) then
     (oB (insG c N data2 a2 b2 cmp2) fun r =>
      (some r))
     else
     (bif (decide (limit2 = 0)) then
      (oB (hs data2 a2 b2 cmp2) fun r2 =>
       (some r2))
      else
      (meet (fun (g : (List α) × Int × Int × Int × γ × Bool × Bool × Int) => 
        match g with
        | (data3, a3, b3, limit3, cmp3, wasBalanced2, wasPartitioned2, length) =>
        (oB (choosePivotG c N data3 a3 b3 cmp3) fun r4 =>
         (meet (fun (g : (List α) × Int × Int × Int × γ × Bool × Bool × Int × Int × Int) => 
           match g with
           | (data4, a4, b4, limit4, cmp4, wasBalanced3, wasPartitioned3, length2, pivot, hint) =>
           (meet (fun (g : (List α) × Int × Int × Int × γ × Bool × Bool × Int × Int) => 
             match g with
             | (data5, a5, b5, limit5, cmp5, wasBalanced4, wasPartitioned4, length3, pivot2) =>
             (bif (decide ((0 : Int) < a5)) then
              (if fits (a5 - 1) then (if 0 ≤ (a5 - 1) ∧ (a5 - 1) < (data5.length : Int) then
                (oB (data5[(a5 - 1).toNat]?) fun e =>
                 (if 0 ≤ pivot2 ∧ pivot2 < (data5.length : Int) then
                  (oB (data5[pivot2.toNat]?) fun e2 =>
                   (oB (c cmp5 e e2) fun r7 =>
                    (bif (!(decide (r7 < 0))) then
                     (oB (pe data5 a5 b5 pivot2 cmp5) fun r8 =>
                      (go (r8.2, r8.1, b5, limit5, cmp5, wasBalanced4, wasPartitioned4)))
                     else
                     (oB (partG c N data5 a5 b5 pivot2 cmp5) fun r9 =>
                      (if fits (r9.1 - a5) then (if fits (b5 - r9.1) then (if 8 ≠ 0 then
                         (if fits (length3.tdiv 8) then (bif (decide ((r9.1 - a5) < (b5 - r9.1))) then
                           (oB (pdqG hs pe N D r9.2.2 a5 r9.1 limit5 cmp5) fun r10 =>
                            (if fits (r9.1 + 1) then (go (r10, (r9.1 + 1), b5, limit5, cmp5, (decide ((length3.tdiv 8) ≤ (r9.1 - a5))), r9.2.1)) else none))
                           else
                           (if fits (r9.1 + 1) then (oB (pdqG hs pe N D r9.2.2 (r9.1 + 1) b5 limit5 cmp5) fun r11 =>
                             (go (r11, a5, r9.1, limit5, cmp5, (decide ((length3.tdiv 8) ≤ (b5 - r9.1))), r9.2.1))) else none)) else none)
                         else none) else none) else none)))))
                  else none))
                else none) else none)
              else
              (oB (partG c N data5 a5 b5 pivot2 cmp5) fun r12 =>
               (if fits (r12.1 - a5) then (if fits (b5 - r12.1) then (if 8 ≠ 0 then
                  (if fits (length3.tdiv 8) then (bif (decide ((r12.1 - a5) < (b5 - r12.1))) then
                    (oB (pdqG hs pe N D r12.2.2 a5 r12.1 limit5 cmp5) fun r13 =>
                     (if fits (r12.1 + 1) then (go (r13, (r12.1 + 1), b5, limit5, cmp5, (decide ((length3.tdiv 8) ≤ (r12.1 - a5))), r12.2.1)) else none))
                    else
                    (if fits (r12.1 + 1) then (oB (pdqG hs pe N D r12.2.2 (r12.1 + 1) b5 limit5 cmp5) fun r14 =>
                      (go (r14, a5, r12.1, limit5, cmp5, (decide ((length3.tdiv 8) ≤ (b5 - r12.1))), r12.2.1))) else none)) else none)
                  else none) else none) else none)))) fun J3 =>
            (bif wasBalanced3 then
             (bif wasPartitioned3 then
              (bif (decide (hint = 1)) then
               (oB (pisG c N data4 a4 b4 cmp4) fun r6 =>
                (bif r6.1 then
                 (some r6.2)
                 else
                 (J3 (r6.2, a4, b4, limit4, cmp4, wasBalanced3, wasPartitioned3, length2, pivot))))
               else
               (J3 (data4, a4, b4, limit4, cmp4, wasBalanced3, wasPartitioned3, length2, pivot)))
              else
              (J3 (data4, a4, b4, limit4, cmp4, wasBalanced3, wasPartitioned3, length2, pivot)))
             else
             (J3 (data4, a4, b4, limit4, cmp4, wasBalanced3, wasPartitioned3, length2, pivot))))) fun J2 =>
          (bif (decide (r4.2.1 = 2)) then
           (oB (reverseRangeG N r4.2.2 a3 b3 cmp3) fun r5 =>
            (if fits (b3 - 1) then (if fits (r4.1 - a3) then (if fits ((b3 - 1) - (r4.1 - a3)) then (J2 (r5, a3, b3, limit3, cmp3, wasBalanced2, wasPartitioned2, length, ((b3 - 1) - (r4.1 - a3)), 1)) else none) else none) else none))
           else
           (J2 (r4.2.2, a3, b3, limit3, cmp3, wasBalanced2, wasPartitioned2, length, r4.1, r4.2.1)))))) fun J =>
       (bif (!wasBalanced) then
        (oB (breakG N data2 a2 b2 cmp2) fun r3 =>
         (if fits (limit2 - 1) then (J (r3, a2, b2, (limit2 - 1), cmp2, wasBalanced, wasPartitioned, (b2 - a2))) else none))
        else
        (J (data2, a2, b2, limit2, cmp2, wasBalanced, wasPartitioned, (b2 - a2))))))) else none)) N (data, a, b, limit, cmp, true, true))
end
def cmp105 (N : Nat) : (Unit) → Z1 → Z1 → Option Int := (fun (cmp : Unit) (e e2 : Z0 × Z0 × Z12) => je N e.1 e.2.1 e.2.2 e2.1 e2.2.1 e2.2.2)
def jny : Sh := ⟨.mtk 800000 Y5 136 false :: pI :: pI :: .clo 160 [] :: dz 4 (pI :: dz 44 []), []⟩
def jll : Sh := ⟨.mtk 800000 Y5 136 false :: pI :: pI :: .clo 160 [] :: dz 4 (pI :: pI :: dz 43 []), []⟩
def jeC (N : Nat) (d : List Z1) (b : Int) (a : Int) (c : Unit) : Option ((List Z1)) := insG (cmp105 N) N d b a c
 
theorem jqw (N : Nat) : mK 240 ⟨⟨[.mtk 800000 Y5 136 false, pI, pI, .clo 160 []], []⟩, ⟨[.tup [], .mtk 800000 Y5 136 false], []⟩, c4A (jeC N)⟩ :=
 mO (fC (jaf N) ja) Tryz.func240 rfl N (.seq .no (.block (.loop jny (.seq .no (.seq (.block (.seq .no (.block (.loop jll .no)))) .no))))) _ (rs := [800000])
def jnV : Sh := ⟨.mtk 800000 Y5 136 false :: .dead :: pI :: pI :: .clo 160 [] :: dz 5 (pI :: dz 71 []), []⟩
def jmo : Sh := ⟨.mtk 800000 Y5 136 false :: .dead :: pI :: pI :: .clo 160 [] :: dz 5 (pI :: pI :: dz 70 []), []⟩
def jdy (N : Nat) (e : List Z1) (d : Int) (a : Int) (b : Int) (c : Unit) : Option ((List Z1)) := siftG (cmp105 N) N e d a b c
 
theorem jqE (N : Nat) : mK 259 ⟨⟨[.mtk 800000 Y5 136 false, pI, pI, pI, .clo 160 []], []⟩, ⟨[.tup [], .mtk 800000 Y5 136 false], []⟩, c5A (jdy N)⟩ :=
 mO (fC (jaf N) ja) Tryz.func259 rfl N (.seq .no (.block (.loop jnV (.block (.seq .no (.seq .no (.meet jmo .no .no))))))) _ (rs := [800000])
def jmY : Sh := ⟨.mtk 800000 Y5 136 false :: .dead :: .dead :: .clo 160 [] :: dz 4 (pI :: pI :: pI :: pI :: dz 48 []), []⟩
def jq3 : Sh := ⟨.mtk 800000 Y5 136 false :: .dead :: .dead :: .clo 160 [] :: dz 4 (pI :: pI :: .dead :: .dead :: pI :: dz 47 []), []⟩
def jaC (N : Nat) (d : List Z1) (b : Int) (a : Int) (c : Unit) : Option ((List Z1)) := heapG (cmp105 N) N d b a c
 
theorem jqz (N : Nat) : mK 241 ⟨⟨[.mtk 800000 Y5 136 false, pI, pI, .clo 160 []], []⟩, ⟨[.tup [], .mtk 800000 Y5 136 false], []⟩, c4A (jaC N)⟩ :=
 mO (fC (jqE N) ja) Tryz.func241 rfl N (.seq .no (.seq .no (.seq .no (.seq (.seq .no (.block (.loop jmY .no))) (.seq .no (.block (.loop jq3 .no))))))) _ (rs := [800000])
def jkH : Sh := ⟨.mtk 800000 Y5 136 false :: pI :: dz 6 (pI :: .box 9 0 :: .pv (.int .u64) :: pI :: dz 55 []), [(9, false, [.pv (.int .u64)])]⟩
def jmx : Sh := ⟨.mtk 800000 Y5 136 false :: pI :: dz 6 (pI :: .box 9 0 :: .pv (.int .u64) :: pI :: pI :: dz 54 []), [(9, false, [.pv (.int .u64)])]⟩
def jez (N : Nat) (d : List Z1) (b : Int) (a : Int) (c : Unit) : Option ((List Z1)) := breakG N d b a c
 
theorem jlO (N : Nat) : mK 242 ⟨⟨[.mtk 800000 Y5 136 false, pI, pI, .clo 160 []], []⟩, ⟨[.tup [], .mtk 800000 Y5 136 false], []⟩, c4A (jez N)⟩ :=
 mO (fC (jhv N) (fC (jet N) ja)) Tryz.func242 rfl N (.seq .no (.seq .no (.cond (.seq .no (.seq .no (.seq .no (.block (.loop jkH (.seq .no (.seq (.block (.seq .no (.meet jmx .no .no))) .no))))))) .no))) _ (rs := [800000])
def jcG (N : Nat) (d : List Z1) (b : Int) (a : Int) (c : Unit) (e : Int) : Option (Int × Int × (List Z1) × Int) := order2G (cmp105 N) N d b a c e
 
theorem jrN (N : Nat) : mK 268 ⟨⟨[.mtk 800000 Y5 136 false, pI, pI, .box 900003 0, .clo 160 []], [(900003, false, [pI])]⟩, ⟨[.tup [pI, pI], .mtk 800000 Y5 136 false], [(900003, false, [pI])]⟩, c5A (jcG N)⟩ :=
 mO (fC (jaf N) ja) Tryz.func268 rfl N .no _ (rs := [900003, 800000])
def jdE (N : Nat) (e : List Z1) (b : Int) (a : Int) (d : Int) (c : Unit) (f : Int) : Option (Int × (List Z1) × Int) := medianG (cmp105 N) N e b a d c f
 
theorem jfr (N : Nat) : mK 261 ⟨⟨[.mtk 800000 Y5 136 false, pI, pI, pI, .box 900004 0, .clo 160 []], [(900004, false, [pI])]⟩, ⟨[pI, .mtk 800000 Y5 136 false], [(900004, false, [pI])]⟩, c6A (jdE N)⟩ :=
 mO (fC (jrN N) ja) Tryz.func261 rfl N .no _ (rs := [900004, 800000])
def jca (N : Nat) (d : List Z1) (b : Int) (c : Unit) (a : Int) : Option (Int × (List Z1) × Int) := medianAdjacentG (cmp105 N) N d b c a
 
theorem jko (N : Nat) : mK 260 ⟨⟨[.mtk 800000 Y5 136 false, pI, .box 900002 0, .clo 160 []], [(900002, false, [pI])]⟩, ⟨[pI, .mtk 800000 Y5 136 false], [(900002, false, [pI])]⟩, c4A (jca N)⟩ :=
 mO (fC (jfr N) ja) Tryz.func260 rfl N .no _ (rs := [900002, 800000])
def jnR : Sh := ⟨.mtk 800000 Y5 136 false :: .dead :: .dead :: .clo 160 [] :: dz 7 (.box 11 0 :: pI :: pI :: pI :: dz 48 []), [(11, false, [pI])]⟩
def jrt : Sh := ⟨.mtk 800000 Y5 136 false :: dz 10 (.box 11 0 :: .dead :: pI :: dz 49 []), [(11, false, [pI])]⟩
def jjM (N : Nat) (d : List Z1) (b : Int) (a : Int) (c : Unit) : Option (Int × Int × (List Z1)) := choosePivotG (cmp105 N) N d b a c
 
theorem joO (N : Nat) : mK 243 ⟨⟨[.mtk 800000 Y5 136 false, pI, pI, .clo 160 []], []⟩, ⟨[.tup [pI, pI], .mtk 800000 Y5 136 false], []⟩, c4A (jjM N)⟩ :=
 mO (fC (jko N) (fC (jfr N) ja)) Tryz.func243 rfl N (.seq .no (.seq .no (.seq .no (.seq .no (.seq .no (.seq .no (.meet jrt (.seq .no (.cond (.meet jnR .no .no) .no)) .no))))))) _ (rs := [800000])
def jpl : Sh := ⟨.mtk 800000 Y5 136 false :: dz 7 (pI :: pI :: dz 24 []), []⟩
def jeV (N : Nat) (d : List Z1) (b : Int) (a : Int) (c : Unit) : Option ((List Z1)) := reverseRangeG N d b a c
 
theorem jma (N : Nat) : mK 244 ⟨⟨[.mtk 800000 Y5 136 false, pI, pI, .clo 160 []], []⟩, ⟨[.tup [], .mtk 800000 Y5 136 false], []⟩, c4A (jeV N)⟩ :=
 mO ja Tryz.func244 rfl N (.seq .no (.seq .no (.block (.loop jpl .no)))) _ (rs := [800000])
def jn3 : Sh := ⟨.mtk 800000 Y5 136 false :: pI :: pI :: .clo 160 [] :: dz 5 (pI :: pI :: dz 130 []), []⟩
def jsj : Sh := ⟨.mtk 800000 Y5 136 false :: pI :: pI :: .clo 160 [] :: dz 5 (pI :: pI :: pI :: dz 129 []), []⟩
def jnQ : Sh := ⟨.mtk 800000 Y5 136 false :: pI :: pI :: .clo 160 [] :: dz 5 (pI :: pI :: .dead :: pI :: dz 128 []), []⟩
def jhb (N : Nat) (d : List Z1) (b : Int) (a : Int) (c : Unit) : Option (Bool × (List Z1)) := pisG (cmp105 N) N d b a c
 
theorem jnw (N : Nat) : mK 245 ⟨⟨[.mtk 800000 Y5 136 false, pI, pI, .clo 160 []], []⟩, ⟨[pB, .mtk 800000 Y5 136 false], []⟩, c4A (jhb N)⟩ :=
 mO (fC (jaf N) ja) Tryz.func245 rfl N (.seq .no (.seq .no (.seq (.seq .no (.block (.loop jn3 (.seq .no (.seq (.block (.seq (.block (.loop jn3 .no)) (.seq .no (.seq .no (.seq .no (.meet jn3 (.seq .no (.cond (.seq .no (.block (.loop jsj .no))) .no)) (.seq .no (.cond (.seq .no (.block (.loop jnQ .no))) .no)))))))) .no))))) .no))) _ (rs := [800000])
def jnv : Sh := ⟨.mtk 800000 Y5 136 false :: pI :: .dead :: .dead :: .clo 160 [] :: dz 6 (pI :: pI :: dz 77 []), []⟩
def jbG (N : Nat) (e : List Z1) (b : Int) (a : Int) (c : Int) (d : Unit) : Option (Int × (List Z1)) := peqG (cmp105 N) N e b a c d
 
theorem jp1 (N : Nat) : mK 246 ⟨⟨[.mtk 800000 Y5 136 false, pI, pI, pI, .clo 160 []], []⟩, ⟨[pI, .mtk 800000 Y5 136 false], []⟩, c5A (jbG N)⟩ :=
 mO (fC (jaf N) ja) Tryz.func246 rfl N (.seq .no (.seq .no (.seq .no (.seq (.block (.loop jnv (.block (.seq (.block (.loop jnv .no)) (.seq (.block (.loop jnv .no)) .no))))) .no)))) _ (rs := [800000])
def jru : Sh := ⟨.mtk 800000 Y5 136 false :: pI :: .dead :: .dead :: .clo 160 [] :: dz 7 (pI :: pI :: dz 164 []), []⟩
def jcT (N : Nat) (e : List Z1) (b : Int) (a : Int) (c : Int) (d : Unit) : Option (Int × Bool × (List Z1)) := partG (cmp105 N) N e b a c d
 
theorem jrO (N : Nat) : mK 247 ⟨⟨[.mtk 800000 Y5 136 false, pI, pI, pI, .clo 160 []], []⟩, ⟨[.tup [pI, pB], .mtk 800000 Y5 136 false], []⟩, c5A (jcT N)⟩ :=
 mO (fC (jaf N) ja) Tryz.func247 rfl N (.seq .no (.seq .no (.seq .no (.seq (.block (.loop jru .no)) (.seq (.block (.loop jru .no)) (.seq .no (.seq .no (.seq .no (.seq .no (.seq (.block (.loop jru (.block (.seq (.block (.loop jru .no)) (.seq (.block (.loop jru .no)) .no))))) .no)))))))))) _ (rs := [800000])
def jmM : Sh := ⟨.mtk 800000 Y5 136 false :: pI :: pI :: pI :: .clo 160 [] :: dz 5 (pB :: pB :: dz 136 []), []⟩
def jnd : Sh := ⟨.mtk 800000 Y5 136 false :: pI :: pI :: pI :: .clo 160 [] :: dz 5 (pB :: pB :: pI :: pI :: dz 134 []), []⟩
def jmi : Sh := ⟨.mtk 800000 Y5 136 false :: pI :: pI :: pI :: .clo 160 [] :: dz 5 (pB :: pB :: pI :: pI :: pI :: dz 133 []), []⟩
def js7 : Sh := ⟨.mtk 800000 Y5 136 false :: pI :: pI :: pI :: .clo 160 [] :: dz 5 (pB :: pB :: pI :: dz 135 []), []⟩
def jK (N D : Nat) (f : List Z1) (b a limit : Int) (e : Unit) : Option ((List Z1)) := pdqG (cmp105 N) (fun d b a c => heapG (cmp105 N) N d b a c) (fun d b a h c => peqG (cmp105 N) N d b a h c) N D f b a limit e
 
def jcj (N D : Nat) : Model := ⟨⟨[.mtk 800000 Y5 136 false, pI, pI, pI, .clo 160 []], []⟩, ⟨[.tup [], .mtk 800000 Y5 136 false], []⟩, c5A (jK N D)⟩
theorem jrm (N D : Nat) (ih : mK 208 (jcj N D)) : mK 208 (jcj N (D + 1)) :=
 mO (fC ih (fC (jqw N) (fC (jqz N) (fC (jlO N) (fC (joO N) (fC (jma N) (fC (jnw N) (fC (jaf N) (fC (jp1 N) (fC (jrO N) ja)))))))))) Tryz.func208 rfl N (.seq .no (.seq .no (.block (.loop jmM (.block (.seq .no (.seq .no (.seq .no (.meet js7 .no (.seq .no (.meet jmi .no (.meet jnd .no .no)))))))))))) (jcj N (D + 1)) (rs := [800000])
theorem jix (N : Nat) : ∀ D, mK 208 (jcj N D)
 | 0 => modelOk_none ⟨_, Tryz.func208, by decide, by kernel_rfl⟩ _ (fun a => rfl)
 | D + 1 => jrm N D (jix N D)
def k_slices_SortFunc_105_m (N : Nat) (a : List Z1) (d : Unit) : Option ((List Z1)) :=
 (oB (k_math_bits_Len_m N (IntKind.u64.wrap (a.length : Int))) fun c => oB (jK N N a 0 (a.length : Int) c ()) fun b => some b)
theorem jtu (N : Nat) : mK 159 ⟨⟨[.mtk 800000 Y5 136 false, .clo 160 []], []⟩, ⟨[.tup [], .mtk 800000 Y5 136 false], []⟩, c2A (k_slices_SortFunc_105_m N)⟩ :=
 mO (fC (jda N) (fC (jix N N) ja)) Tryz.func159 rfl N .no _ (rs := [800000])
def jmK : Sh := ⟨.dead :: .dead :: .box 2 0 :: .dead :: .box 4 0 :: .box 5 0 :: dz 19 (.pv Y2 :: pI :: pI :: dz 32 []), [(2, false, [.pv (.sl .str), .pv Y16]), (4, false, [.nils, .nils]), (5, false, [.pv Y2, .tre 700501 Y5 136])]⟩
def jor : Sh := ⟨.dead :: .dead :: .box 2 0 :: .dead :: .box 4 0 :: .box 5 0 :: .dead :: .box 7 0 :: dz 17 (.pv Y2 :: pI :: pI :: dz 4 (.pv Y19 :: pI :: pI :: dz 25 [])), [(2, false, [.pv (.sl .str), .pv Y16]), (4, false, [.nils, .nils]), (5, false, [.pv Y2, .tre 700501 Y5 136]), (7, false, [pI, .pv Y19, .pv Y15])]⟩
def jnj : Sh := ⟨.dead :: .dead :: .box 2 0 :: .dead :: .box 4 0 :: .box 5 0 :: .dead :: .box 7 0 :: .dead :: .box 9 0 :: dz 15 (.pv Y2 :: pI :: pI :: dz 4 (.pv Y19 :: pI :: pI :: dz 6 (.own 600041 Y17 186 true :: pI :: pI :: dz 16 []))), [(2, false, [.pv (.sl .str), .pv Y16]), (4, false, [.nils, .nils]), (5, false, [.pv Y2, .tre 700501 Y5 136]), (7, false, [pI, .pv Y19, .pv Y15]), (9, false, [pS, pS])]⟩
def jbT (N : Nat) (c : List Z0) (c2 : List Z4) (docs : List Z2) : Option ((List Z2) × (List Z1)) :=
 (oB (jaj N c c2) fun r => bif !r then some (([] : List Z2), ([] : List Z1)) else oB (jbf N docs) fun r2 => bif !r2 then some (([] : List Z2), ([] : List Z1)) else oB (jbV N docs) fun r3 => iter (fun go (t25, t26, t27, c3, c4, s, s2) => bif decide (t27 < t26) then oB (idx t25 t27) fun e => (iter (fun go2 (t252, t262, t272, t32, t33, t34, c5, c6, s3, s4, d, d2, d3) => bif decide (t34 < t33) then oB (idx t32 t34) fun e2 => (oB (jbw N c5 c6 e2.2) fun r4 => iter (fun go3 (t253, t263, t273, t322, t332, t342, t41, t42, t43, c7, c8, s5, s6, d4, d5, d6, f, f2) => bif decide (t43 < t42) then oB (idx t41 t43) fun e3 => (oB (i_Seg_put_m N f e3.1 e3.2 d4 s5 s6) fun r5 => if fits (t43 + 1) then go3 (t253, t263, t273, t322, t332, t342, t41, t42, (t43 + 1), c7, c8, r5.1, r5.2, d4, d5, d6, f, f2) else none) else if fits (t342 + 1) then go2 (t253, t263, t273, t322, t332, (t342 + 1), c7, c8, s5, s6, d4, d5, d6) else none) N (t252, t262, t272, t32, t33, t34, r4, (r4.length : Int), (0 : Int), c5, c6, s3, s4, d, d2, d3, e2.1, e2.2)) else if fits (t272 + 1) then go (t252, t262, (t272 + 1), c5, c6, s3, s4) else none) N (t25, t26, t27, e.2.1, (e.2.1.length : Int), (0 : Int), c3, c4, s, s2, e.1, e.2.1, e.2.2)) else oB (k_slices_SortFunc_105_m N s2 ()) fun r6 => some (s, r6)) N (docs, (docs.length : Int), (0 : Int), c, c2, r3, ([] : List Z1)))
theorem jqC (N : Nat) : mK 103 ⟨⟨[.agg [.pv (.sl .str), .pv Y16], .pv Y2], []⟩, ⟨[.agg [.pv Y2, .own 1 Y5 136 false]], []⟩, c3A (jbT N)⟩ :=
 mO (fC (jdX N) (fC (jjU N) (fC (joC N) (fC (jgO N) (fC (jky N) (fC (jtu N) ja)))))) Tryz.func103 rfl N (.seq .no (.seq .no (.seq .no (.seq (.seq .no (.block (.loop jmK (.seq .no (.seq .no (.seq (.block (.seq .no (.seq .no (.block (.loop jor (.seq .no (.seq .no (.seq (.block (.seq .no (.seq .no (.block (.loop jnj .no))))) .no)))))))) .no)))))) .no)))) _ (wr := [23]) (dw := [23, 57])
def jtB : Sh := ⟨.pv Y21 :: .pv Y21 :: dz 10 (pI :: pI :: dz 12 []), []⟩
def jbX (N : Nat) (b : List Int) (f : List Int) : Z8 :=
 (bif !decide ((b.length : Int) = (f.length : Int)) then some false else iter (fun h (c, d, e, a) => bif decide (a < e) then oB (idx c a) fun j => (oB (idx d a) fun k => bif !decide (j = k) then some false else if fits (a + 1) then h (c, d, e, (a + 1)) else none) else some true) N (b, f, (b.length : Int), (0 : Int)))
theorem jqi (N : Nat) : mK 210 ⟨⟨[.pv Y21, .pv Y21], []⟩, ⟨[pB], []⟩, c2A (jbX N)⟩ :=
 mO ja Tryz.func210 rfl N (.seq .no (.seq .no (.seq (.seq .no (.block (.loop jtB .no))) .no))) _
def jcp (N : Nat) (b : Int) (d : List Int) (a : Int) (e : List Int) : Z8 :=
 (bif decide (b = a) then oB (jbX N d e) fun c => (some c) else some false)
theorem jth (N : Nat) : mK 163 ⟨⟨[.agg [pI, .pv Y21], .agg [pI, .pv Y21]], []⟩, ⟨[pB], []⟩, c4A (jcp N)⟩ :=
 mO (fC (jqi N) ja) Tryz.func163 rfl N .no _
def jlX : Sh := ⟨.dead :: .pv Y11 :: .clo 163 [] :: dz 12 (.pv Y11 :: pI :: pI :: dz 14 []), []⟩
def jb6 (N : Nat) (b : Z3) (h : Z3) (m : Unit) : Z8 :=
 (bif !decide ((b.length : Int) = (h.length : Int)) then some false else iter (fun j (d, n, c, e, a) => bif decide (a < e) then oB (idx c a) fun f => (oB (idx d a) fun i => oB (jcp N f.1 f.2 i.1 i.2) fun l => bif !l then some false else if fits (a + 1) then j (d, (), c, e, (a + 1)) else none) else some true) N (h, (), b, (b.length : Int), (0 : Int)))
theorem jnG (N : Nat) : mK 162 ⟨⟨[.pv Y11, .pv Y11, .clo 163 []], []⟩, ⟨[pB], []⟩, c3A (jb6 N)⟩ :=
 mO (fC (jth N) ja) Tryz.func162 rfl N (.seq .no (.seq .no (.seq (.seq .no (.block (.loop jlX .no))) .no))) _
def jcz (N : Nat) (c : List UInt8) (b : List UInt8) (e : Z3) (a : List UInt8) (h : List UInt8) (f : Z3) : Z8 :=
 (bif decide (c = a) then bif decide (b = h) then oB (jb6 N e f ()) fun d => (some d) else (some false) else some false)
theorem jp4 (N : Nat) : mK 104 ⟨⟨[.agg [pS, pS, .pv Y11], .agg [pS, pS, .pv Y11]], []⟩, ⟨[pB], []⟩, c6A (jcz N)⟩ :=
 mO (fC (jnG N) ja) Tryz.func104 rfl N .no _
def jlD : Sh := ⟨.dead :: .pv Y4 :: .clo 104 [] :: dz 12 (.pv Y4 :: pI :: pI :: dz 14 []), []⟩
def jcn (N : Nat) (b : List Z1) (i : List Z1) (m : Unit) : Z8 :=
 (bif !decide ((b.length : Int) = (i.length : Int)) then some false else iter (fun j (f, n, e, h, a) => bif decide (a < h) then oB (idx e a) fun c => (oB (idx f a) fun d => oB (jcz N c.1 c.2.1 c.2.2 d.1 d.2.1 d.2.2) fun l => bif !l then some false else if fits (a + 1) then j (f, (), e, h, (a + 1)) else none) else some true) N (i, (), b, (b.length : Int), (0 : Int)))
theorem jsa (N : Nat) : mK 102 ⟨⟨[.pv Y4, .pv Y4, .clo 104 []], []⟩, ⟨[pB], []⟩, c3A (jcn N)⟩ :=
 mO (fC (jp4 N) ja) Tryz.func102 rfl N (.seq .no (.seq .no (.seq (.seq .no (.block (.loop jlD .no))) .no))) _
def i_SegOk_m (N : Nat) (c : List Z0) (a : List Z4) (b : List Z2) (i : List Z1) : Z8 :=
 (oB (jaj N c a) fun h => bif !h then some false else oB (jbf N b) fun e => bif !e then some false else oB (jbT N c a b) fun d => oB (jcn N d.2 i ()) fun f => some f)
theorem joa (N : Nat) : mK 58 ⟨⟨[.agg [.pv (.sl .str), .pv Y16], .agg [.pv Y2, .pv Y4]], []⟩, ⟨[pB], []⟩, c4A (i_SegOk_m N)⟩ :=
 mO (fC (jdX N) (fC (jjU N) (fC (jqC N) (fC (jsa N) ja)))) Tryz.func58 rfl N .no _
def jDx : Sh := ⟨pS :: dz 4 (pI :: pI :: dz 23 []), []⟩
def jxV (N : Nat) (e : List UInt8) : Z8 :=
 (iter (fun d (b, c, a) => bif decide (a < c) then oB (idx b a) fun l => (oB (jaw N (l.toNat : Int)) fun f => bif !f then oB (idx b a) fun h => (bif !decide ((h.toNat : Int) = 42) then oB (idx b a) fun j => (bif !decide ((j.toNat : Int) = 63) then some false else if fits (a + 1) then d (b, c, (a + 1)) else none) else if fits (a + 1) then d (b, c, (a + 1)) else none) else if fits (a + 1) then d (b, c, (a + 1)) else none) else oB (jm N (b.length : Int) 1 12) fun k => some k) N (e, (e.length : Int), (0 : Int)))
theorem jz9 (N : Nat) : mK 164 ⟨⟨[pS], []⟩, ⟨[pB], []⟩, c1A (jxV N)⟩ :=
 mO (fC (jeK N) (fC (jY N) ja)) Tryz.func164 rfl N (.seq .no (.seq (.seq .no (.block (.loop jDx .no))) .no)) _
def jBs : Sh := ⟨.dead :: pI :: .box 2 0 :: dz 90 (.pv (.sl .str) :: pI :: pI :: dz 39 []), [(2, false, [pI, pS, .pv (.sl .str), pI, pI, .pv (.sl .q)])]⟩
def jC6 : Sh := ⟨.dead :: pI :: dz 121 (.pv (.sl .q) :: pI :: pI :: dz 9 []), []⟩
def jDY : Sh := ⟨.dead :: pI :: .box 2 0 :: dz 132 [], [(2, false, [pI, pS, .pv (.sl .str), pI, pI, .pv (.sl .q)])]⟩
def jzZ : Sh := ⟨.dead :: pI :: .box 2 0 :: .dead :: .dead :: .box 5 0 :: dz 129 [], [(2, false, [pI, pS, .pv (.sl .str), pI, pI, .pv (.sl .q)]), (5, false, [pB, pI, pI, pI, pI, pB, pI, pI])]⟩
def jxE (N : Nat) : (D : Nat) → Int → Z0 → (List Z0) → Int → Int → (List DQ) → Int → Z8
 | 0, _, _, _, _, _, _, _ => none
 | D + 1, q, q2, q3, q4, q5, q6, deep =>
 meet (fun (g : Z20) =>
 match g with
 | (deep2, q7, q8, q9, q10, q11, q12, x, x2, x3, x4, x5, x6, x7, x8) =>
 meet (fun (g : Z20) =>
 match g with
 | (deep3, q13, q14, q15, q16, q17, q18, x9, x10, x11, x12, x13, x14, x15, x16) =>
 meet (fun (g : Int × Int × Z0 × (List Z0) × Int × Int × (List DQ)) =>
 match g with
 | (deep4, q19, q20, q21, q22, q23, q24) =>
 iter (fun go (g : Int × (List Z0) × Int × Int × Int × Z0 × (List Z0) × Int × Int × (List DQ)) =>
 match g with
 | (deep5, t93, t94, t95, q25, q26, q27, q28, q29, q30) =>
 bif decide (t95 < t94) then
 oB (idx t93 t95) fun e =>
 (bif decide (q25 = 5) then
 oB (jxV N e) fun r6 =>
 (bif !r6 then
 some false
 else
 oB (jO N e) fun r7 =>
 bif r7 then
 some false
 else
 bif !decide (q25 = 5) then
 oB (jO N e) fun r8 =>
 (bif !r8 then
 some false
 else
 if fits (t95 + 1) then go (deep5, t93, t94, (t95 + 1), q25, q26, q27, q28, q29, q30) else none)
 else
 if fits (t95 + 1) then go (deep5, t93, t94, (t95 + 1), q25, q26, q27, q28, q29, q30) else none)
 else
 bif !decide (q25 = 5) then
 oB (jO N e) fun r9 =>
 (bif !r9 then
 some false
 else
 if fits (t95 + 1) then go (deep5, t93, t94, (t95 + 1), q25, q26, q27, q28, q29, q30) else none)
 else
 if fits (t95 + 1) then go (deep5, t93, t94, (t95 + 1), q25, q26, q27, q28, q29, q30) else none)
 else
 iter (fun go2 (g : Int × (List DQ) × Int × Int) =>
 match g with
 | (deep6, t123, t124, t125) =>
 bif decide (t125 < t124) then
 oB (idx t123 t125) fun e2 =>
 (if fits (deep6 - 1) then oB (jxE N D e2.kind e2.field e2.words e2.lo e2.hi e2.kids (deep6 - 1)) fun r10 =>
 (bif !r10 then
 some false
 else
 if fits (t125 + 1) then go2 (deep6, t123, t124, (t125 + 1)) else none) else none)
 else
 some true) N (deep5, q30, (q30.length : Int), 0)) N (deep4, q21, (q21.length : Int), 0, q19, q20, q21, q22, q23, q24)) fun J3 =>
 bif x14 then
 oB (jm N q17 q16 999999999) fun r5 =>
 (bif !r5 then
 some false
 else
 bif !x14 then
 bif !decide (q17 = 0) then
 some false
 else
 (J3 (deep3, q13, q14, q15, q16, q17, q18))
 else
 J3 (deep3, q13, q14, q15, q16, q17, q18))
 else
 bif !x14 then
 bif !decide (q17 = 0) then
 some false
 else
 (J3 (deep3, q13, q14, q15, q16, q17, q18))
 else
 J3 (deep3, q13, q14, q15, q16, q17, q18)) fun J2 =>
 oB (jm N (q9.length : Int) x2 x3) fun r2 =>
 bif !r2 then
 some false
 else
 oB (jm N (q12.length : Int) x7 x8) fun r3 =>
 bif !r3 then
 some false
 else
 oB (jm N q10 x4 x5) fun r4 =>
 bif !r4 then
 some false
 else
 J2 (deep2, q7, q8, q9, q10, q11, q12, x, x2, x3, x4, x5, x6, x7, x8)) fun J =>
 bif !((mget tI (.pair .bool (.pair tI (.pair tI (.pair tI (.pair tI (.pair .bool Y14)))))) gm_shapes q).isSome) then
 some false
 else
 bif decide (deep < 1) then
 some false
 else
 bif !((((mget tI (.pair .bool (.pair tI (.pair tI (.pair tI (.pair tI (.pair .bool Y14)))))) gm_shapes q).getD (false, (0, (0, (0, (0, (false, (0, 0)))))))).1) == (!decide (q2 = ([] : List UInt8)))) then
 some false
 else
 bif ((mget tI (.pair .bool (.pair tI (.pair tI (.pair tI (.pair tI (.pair .bool Y14)))))) gm_shapes q).getD (false, (0, (0, (0, (0, (false, (0, 0)))))))).1 then
 oB (jO N q2) fun r =>
 (bif !r then
 some false
 else
 J (deep, q, q2, q3, q4, q5, q6, ((mget tI (.pair .bool (.pair tI (.pair tI (.pair tI (.pair tI (.pair .bool Y14)))))) gm_shapes q).getD (false, (0, (0, (0, (0, (false, (0, 0)))))))).1, (((mget tI (.pair .bool (.pair tI (.pair tI (.pair tI (.pair tI (.pair .bool Y14)))))) gm_shapes q).getD (false, (0, (0, (0, (0, (false, (0, 0)))))))).2).1, ((((mget tI (.pair .bool (.pair tI (.pair tI (.pair tI (.pair tI (.pair .bool Y14)))))) gm_shapes q).getD (false, (0, (0, (0, (0, (false, (0, 0)))))))).2).2).1, (((((mget tI (.pair .bool (.pair tI (.pair tI (.pair tI (.pair tI (.pair .bool Y14)))))) gm_shapes q).getD (false, (0, (0, (0, (0, (false, (0, 0)))))))).2).2).2).1, ((((((mget tI (.pair .bool (.pair tI (.pair tI (.pair tI (.pair tI (.pair .bool Y14)))))) gm_shapes q).getD (false, (0, (0, (0, (0, (false, (0, 0)))))))).2).2).2).2).1, (((((((mget tI (.pair .bool (.pair tI (.pair tI (.pair tI (.pair tI (.pair .bool Y14)))))) gm_shapes q).getD (false, (0, (0, (0, (0, (false, (0, 0)))))))).2).2).2).2).2).1, ((((((((mget tI (.pair .bool (.pair tI (.pair tI (.pair tI (.pair tI (.pair .bool Y14)))))) gm_shapes q).getD (false, (0, (0, (0, (0, (false, (0, 0)))))))).2).2).2).2).2).2).1, ((((((((mget tI (.pair .bool (.pair tI (.pair tI (.pair tI (.pair tI (.pair .bool Y14)))))) gm_shapes q).getD (false, (0, (0, (0, (0, (false, (0, 0)))))))).2).2).2).2).2).2).2))
 else
 J (deep, q, q2, q3, q4, q5, q6, ((mget tI (.pair .bool (.pair tI (.pair tI (.pair tI (.pair tI (.pair .bool Y14)))))) gm_shapes q).getD (false, (0, (0, (0, (0, (false, (0, 0)))))))).1, (((mget tI (.pair .bool (.pair tI (.pair tI (.pair tI (.pair tI (.pair .bool Y14)))))) gm_shapes q).getD (false, (0, (0, (0, (0, (false, (0, 0)))))))).2).1, ((((mget tI (.pair .bool (.pair tI (.pair tI (.pair tI (.pair tI (.pair .bool Y14)))))) gm_shapes q).getD (false, (0, (0, (0, (0, (false, (0, 0)))))))).2).2).1, (((((mget tI (.pair .bool (.pair tI (.pair tI (.pair tI (.pair tI (.pair .bool Y14)))))) gm_shapes q).getD (false, (0, (0, (0, (0, (false, (0, 0)))))))).2).2).2).1, ((((((mget tI (.pair .bool (.pair tI (.pair tI (.pair tI (.pair tI (.pair .bool Y14)))))) gm_shapes q).getD (false, (0, (0, (0, (0, (false, (0, 0)))))))).2).2).2).2).1, (((((((mget tI (.pair .bool (.pair tI (.pair tI (.pair tI (.pair tI (.pair .bool Y14)))))) gm_shapes q).getD (false, (0, (0, (0, (0, (false, (0, 0)))))))).2).2).2).2).2).1, ((((((((mget tI (.pair .bool (.pair tI (.pair tI (.pair tI (.pair tI (.pair .bool Y14)))))) gm_shapes q).getD (false, (0, (0, (0, (0, (false, (0, 0)))))))).2).2).2).2).2).2).1, ((((((((mget tI (.pair .bool (.pair tI (.pair tI (.pair tI (.pair tI (.pair .bool Y14)))))) gm_shapes q).getD (false, (0, (0, (0, (0, (false, (0, 0)))))))).2).2).2).2).2).2).2)
def jyl (N D : Nat) : Model := ⟨⟨[.agg [pI, pS, .pv (.sl .str), pI, pI, .pv (.sl .q)], pI], []⟩, ⟨[pB], []⟩, c7A (jxE N D)⟩
theorem jAF (N D : Nat) (ih : mK 105 (jyl N D)) : mK 105 (jyl N (D + 1)) :=
 mO (fC ih (fC (jcM N) (fC (jY N) (fC (jz9 N) ja)))) Tryz.func105 rfl N (.seq .no (.seq .no (.meet jzZ .no (.meet jzZ .no (.meet jDY .no (.seq (.seq .no (.block (.loop jBs .no))) (.seq (.seq .no (.block (.loop jC6 .no))) .no))))))) (jyl N (D + 1))
theorem jzh (N : Nat) : ∀ D, mK 105 (jyl N D)
 | 0 => modelOk_none ⟨_, Tryz.func105, by decide, by kernel_rfl⟩ _ (fun a => rfl)
 | D + 1 => jAF N D (jzh N D)
def i_QueryOk_m (N : Nat) (e : Int) (a : List UInt8) (c : List Z0) (b : Int) (d : Int) (f : List DQ) : Z8 :=
 (oB (jxE N N e a c b d f 4) fun h => some h)
theorem jCN (N : Nat) : mK 59 ⟨⟨[.agg [pI, pS, .pv (.sl .str), pI, pI, .pv (.sl .q)]], []⟩, ⟨[pB], []⟩, c6A (i_QueryOk_m N)⟩ :=
 mO (fC (jzh N N) ja) Tryz.func59 rfl N .no _
def jyc (N : Nat) (e : List Z0) (c : List Z4) (b : List UInt8) : Option (Z0) :=
 (oB (jO N b) fun d => bif !d then some ([] : List UInt8) else oB (jbw N e c b) fun a => bif decide ((a.length : Int) = 0) then some ([] : List UInt8) else oB (idx a 0) fun f => some f.1)
theorem jBn (N : Nat) : mK 107 ⟨⟨[.agg [.pv (.sl .str), .pv Y16], pS], []⟩, ⟨[pS], []⟩, c3A (jyc N)⟩ :=
 mO (fC (jcM N) (fC (jgO N) ja)) Tryz.func107 rfl N .no _
def jnu : Sh := ⟨.dead :: pS :: pS :: dz 9 (.pv Y4 :: pI :: pI :: dz 16 []), []⟩
def i_Seg_posts_m (N : Nat) (i : (List Z2) × (List Z1)) (l : List UInt8) (j : List UInt8) : Option (Z12) :=
 (iter (fun h (b, e, c, f, a) => bif decide (a < f) then oB (idx c a) fun d => (bif decide (d.1 = b) then bif decide (d.2.1 = e) then some d.2.2 else (if fits (a + 1) then h (b, e, c, f, (a + 1)) else none) else if fits (a + 1) then h (b, e, c, f, (a + 1)) else none) else some ([] : Z3)) N (l, j, i.2, (i.2.length : Int), (0 : Int)))
theorem jcq (N : Nat) : mK 167 ⟨⟨[.ptr Y1, pS, pS], []⟩, ⟨[.pv Y11], []⟩, c3A (i_Seg_posts_m N)⟩ :=
 mO ja Tryz.func167 rfl N (.seq .no (.seq (.seq .no (.block (.loop jnu .no))) .no)) _
def jni : Sh := ⟨dz 3 (pI :: dz 12 (.pv Y11 :: pI :: pI :: dz 10 [])), []⟩
def i_scorer_places_m (N : Nat) (m : ((List Z0) × (List Z4)) × (List Z2) × (List Z1)) (i : List UInt8) (h : List UInt8) (k : Int) : Option ((List Int)) :=
 (oB (i_Seg_posts_m N m.2 i h) fun d => iter (fun j (e, c, b, a) => bif decide (a < b) then oB (idx c a) fun f => (bif decide (f.1 = e) then some f.2 else if fits (a + 1) then j (e, c, b, (a + 1)) else none) else some ([] : List Int)) N (k, d, (d.length : Int), (0 : Int)))
theorem jrB (N : Nat) : mK 112 ⟨⟨[.ptr Y0, pS, pS, pI], []⟩, ⟨[.pv Y21], []⟩, c4A (i_scorer_places_m N)⟩ :=
 mO (fC (jcq N) ja) Tryz.func112 rfl N (.seq .no (.seq (.seq .no (.block (.loop jni .no))) .no)) _
def jmV : Sh := ⟨.dead :: pS :: dz 8 (.pv Y19 :: pI :: pI :: dz 10 []), []⟩
def i_DocField_m (N : Nat) (l : Int) (b : Z16) (k : Z9) (j : List UInt8) : Option (Z0) :=
 (oB (jbx N l b k) fun m => bif m then iter (fun h (c, f, e, a) => bif decide (a < e) then oB (idx f a) fun d => (bif decide (d.1 = c) then some d.2 else if fits (a + 1) then h (c, f, e, (a + 1)) else none) else some ([] : List UInt8)) N (j, b, (b.length : Int), (0 : Int)) else some ([] : List UInt8))
theorem jqd (N : Nat) : mK 211 ⟨⟨[.agg [pI, .pv Y19, .pv Y15], pS], []⟩, ⟨[pS], []⟩, c4A (i_DocField_m N)⟩ :=
 mO (fC (jh0 N) ja) Tryz.func211 rfl N (.seq .no (.seq (.seq .no (.cond (.seq .no (.block (.loop jmV .no))) .no)) .no)) _
def i_Seg_long_m (N : Nat) (f : (List Z2) × (List Z1)) (h : List Z0) (b : List Z4) (i : List UInt8) (d : Int) : Z11 :=
 (oB (i_Seg_doc_m N f d) fun a => bif !a.2.2.2 then some 0 else oB (i_DocField_m N a.1 a.2.1 a.2.2.1 i) fun e => oB (jbw N h b e) fun c => some (c.length : Int))
theorem jhs (N : Nat) : mK 165 ⟨⟨[.ptr Y1, .agg [.pv (.sl .str), .pv Y16], pS, pI], []⟩, ⟨[pI], []⟩, c5A (i_Seg_long_m N)⟩ :=
 mO (fC (jlU N) (fC (jqd N) (fC (jgO N) ja))) Tryz.func165 rfl N .no _
def joq : Sh := ⟨pI :: pI :: dz 13 [], []⟩
def ja2 (N : Nat) (d : Int) (c : Int) : Z11 :=
 (iter (fun e (a, b) => bif !decide (b = 0) then if b ≠ 0 then e (b, (a.tmod b)) else none else if fits (0 - a) then some (if (0 - a) > a then 0 - a else a) else none) N (d, c))
theorem jiQ (N : Nat) : mK 249 ⟨⟨[pI, pI], []⟩, ⟨[pI], []⟩, c2A (ja2 N)⟩ :=
 mO ja Tryz.func249 rfl N (.seq .no (.seq (.block (.loop joq .no)) .no)) _
def jbk (N : Nat) (b : Int) (a : Int) : Z8 :=
 (oB (jm N b (-1000000000) 1000000000) fun e => bif e then oB (jm N a 1 1000000000) fun c => (bif c then oB (ja2 N b a) fun d => (some (decide (d = 1))) else some false) else some false)
theorem jhS (N : Nat) : mK 213 ⟨⟨[.agg [pI, pI]], []⟩, ⟨[pB], []⟩, c2A (jbk N)⟩ :=
 mO (fC (jY N) (fC (jiQ N) ja)) Tryz.func213 rfl N .no _
def jk5 : Sh := ⟨pI :: pI :: .dead :: .dead :: .box 4 0 :: dz 24 [], [(4, false, [pI, pI])]⟩
def jcl (N : Nat) (e : Int) (c : Int) : Option (Int × Int × Bool) :=
 (meet (fun (h : Int × Int × Int × Int) => match h with | (d, b, j, k) => oB (ja2 N d b) fun a => if a ≠ 0 then if fits (d.tdiv a) then if a ≠ 0 then if fits (b.tdiv a) then oB (jbk N (d.tdiv a) (b.tdiv a)) fun i => (bif !i then some (0, 1, false) else some ((d.tdiv a), (b.tdiv a), true)) else none else none else none else none) fun f => bif decide (c < 0) then if fits (0 - e) then if fits (0 - c) then f ((0 - e), (0 - c), 0, 0) else none else none else f (e, c, 0, 0))
theorem jlG (N : Nat) : mK 248 ⟨⟨[pI, pI], []⟩, ⟨[.tup [.agg [pI, pI], pB]], []⟩, c2A (jcl N)⟩ :=
 mO (fC (jiQ N) (fC (jhS N) ja)) Tryz.func248 rfl N (.seq .no (.meet jk5 .no .no)) _
def jb7 (N : Nat) (c : Int) (a : Int) : Option (Int × Int × Bool) :=
 (oB (jm N c (-1000000000) 1000000000) fun e => bif !e then some (0, 1, false) else oB (jm N a (-1000000000) 1000000000) fun d => bif !d then some (0, 1, false) else bif decide (a = 0) then some (0, 1, false) else oB (jcl N c a) fun b => some (b.1, b.2.1, b.2.2))
theorem jpX (N : Nat) : mK 212 ⟨⟨[pI, pI], []⟩, ⟨[.tup [.agg [pI, pI], pB]], []⟩, c2A (jb7 N)⟩ :=
 mO (fC (jY N) (fC (jlG N) ja)) Tryz.func212 rfl N .no _
def jtO : Sh := ⟨pI :: pI :: pI :: pI :: pI :: dz 5 (.box 10 0 :: .dead :: pI :: dz 53 []), [(10, false, [pI, pI])]⟩
def i_TermScore_m (N : Nat) (h : Int) (f : Int) (m : Int) (k : Int) (l : Int) : Option (Int × Int × Bool) :=
 (oB (jm N h 1 80) fun q => bif !q then some (0, 1, false) else oB (jm N f h 80) fun u => bif !u then some (0, 1, false) else oB (jm N k 1 16) fun t => bif !t then some (0, 1, false) else oB (jm N l 1 k) fun v => bif !v then some (0, 1, false) else oB (jm N m f 1280) fun n => bif !n then some (0, 1, false) else iter (fun o (b, c, e, d, i, a, r, w) => if fits (a + 1) then if 0 ≤ (a + 1) then if fits (i * 2 ^ (min (a + 1).toNat (IntKind.bits .i64))) then bif decide ((i * 2 ^ (min (a + 1).toNat (IntKind.bits .i64))) ≤ d) then if fits (a + 1) then o (b, c, e, d, i, (a + 1), r, w) else none else (if fits (22 * b) then if fits (a + 1) then if fits ((22 * b) * (a + 1)) then if fits (10 * b) then if fits ((10 * b) + 3) then if fits (9 * c) then if fits ((9 * c) * d) then if e ≠ 0 then if fits (((9 * c) * d).tdiv e) then if fits (((10 * b) + 3) + (((9 * c) * d).tdiv e)) then oB (jb7 N ((22 * b) * (a + 1)) (((10 * b) + 3) + (((9 * c) * d).tdiv e))) fun j => (some (j.1, j.2.1, j.2.2)) else none else none else none else none else none else none else none else none else none else none) else none else none else none) N (h, f, m, k, l, (0 : Int), (0 : Int), (0 : Int)))
theorem jgE (N : Nat) : mK 166 ⟨⟨[pI, pI, pI, pI, pI], []⟩, ⟨[.tup [.agg [pI, pI], pB]], []⟩, c5A (i_TermScore_m N)⟩ :=
 mO (fC (jY N) (fC (jpX N) ja)) Tryz.func166 rfl N (.seq .no (.seq .no (.seq .no (.seq (.block (.loop jtO .no)) .no)))) _
def i_RatFloor_m (N : Nat) (c : Int) (a : Int) (b : Int) : Z11 :=
 (oB (jbk N c a) fun e => bif !e then some 0 else oB (jm N b 1 1000) fun d => bif !d then some 0 else if fits (c * b) then bif decide ((0 : Int) ≤ (c * b)) then if a ≠ 0 then if fits ((c * b).tdiv a) then some ((c * b).tdiv a) else none else none else (if fits (0 - (c * b)) then if fits ((0 - (c * b)) + a) then if fits (((0 - (c * b)) + a) - 1) then if a ≠ 0 then if fits ((((0 - (c * b)) + a) - 1).tdiv a) then if fits (0 - ((((0 - (c * b)) + a) - 1).tdiv a)) then some (0 - ((((0 - (c * b)) + a) - 1).tdiv a)) else none else none else none else none else none else none) else none)
theorem jiY (N : Nat) : mK 168 ⟨⟨[.agg [pI, pI], pI], []⟩, ⟨[pI], []⟩, c3A (i_RatFloor_m N)⟩ :=
 mO (fC (jhS N) (fC (jY N) ja)) Tryz.func168 rfl N .no _
def jlZ : Sh := ⟨.ptr Y0 :: pS :: pS :: pI :: dz 5 (.pv Y21 :: pI :: dz 16 (.pv Y2 :: pI :: pI :: dz 49 [])), []⟩
def i_scorer_points_m (N : Nat) (d : ((List Z0) × (List Z4)) × (List Z2) × (List Z1)) (q : List UInt8) (n : List UInt8) (i : Int) : Z11 :=
 (oB (i_scorer_places_m N d q n i) fun j => bif decide ((j.length : Int) = 0) then some 0 else iter (fun r (a, b, k, l, o, e, m, f, c) => bif decide (c < f) then oB (idx m c) fun u => (oB (i_Seg_long_m N a.2 a.1.1 a.1.2 b u.1) fun p => if fits (e + p) then if fits (c + 1) then r (a, b, k, l, o, (e + p), m, f, (c + 1)) else none else none) else oB (i_Seg_long_m N a.2 a.1.1 a.1.2 b l) fun v => oB (i_Seg_posts_m N a.2 b k) fun w => oB (i_TermScore_m N (o.length : Int) v e (a.2.1.length : Int) (w.length : Int)) fun h => oB (i_RatFloor_m N h.1 h.2.1 1000) fun x => some x) N (d, q, n, i, j, (0 : Int), d.2.1, (d.2.1.length : Int), (0 : Int)))
theorem jsD (N : Nat) : mK 106 ⟨⟨[.ptr Y0, pS, pS, pI], []⟩, ⟨[pI], []⟩, c4A (i_scorer_points_m N)⟩ :=
 mO (fC (jrB N) (fC (jhs N) (fC (jcq N) (fC (jgE N) (fC (jiY N) ja))))) Tryz.func106 rfl N (.seq .no (.seq .no (.seq .no (.seq .no (.seq (.seq .no (.block (.loop jlZ .no))) .no))))) _
def jyu (N : Nat) (b : List Z0) (a : List UInt8) : Option (Z0) := jxR b a
 
def jBB (N : Nat) : Model := ⟨⟨[.pv (.sl .str), pS], []⟩, ⟨[pS], []⟩, c2A (jyu N)⟩
theorem jBE (N : Nat) : mK 169 (jBB N) := jBz
def jDT : Sh := ⟨.pv Y21 :: dz 4 (.pv Y21 :: pI :: pI :: dz 24 []), []⟩
def jx1 (N : Nat) (c : List Int) : Z8 :=
 (iter (fun f (b, d, e, a) => bif decide (a < e) then oB (idx d a) fun h => (oB (jm N h 0 999999999) fun j => bif !j then some false else bif decide ((0 : Int) < a) then if fits (a - 1) then oB (idx b (a - 1)) fun k => (bif decide (h ≤ k) then some false else if fits (a + 1) then f (b, d, e, (a + 1)) else none) else none else if fits (a + 1) then f (b, d, e, (a + 1)) else none) else some (decide ((b.length : Int) ≤ 60))) N (c, c, (c.length : Int), (0 : Int)))
theorem jAN (N : Nat) : mK 264 ⟨⟨[.pv Y21], []⟩, ⟨[pB], []⟩, c1A (jx1 N)⟩ :=
 mO (fC (jY N) ja) Tryz.func264 rfl N (.seq .no (.seq (.seq .no (.block (.loop jDT .no))) .no)) _
def jBY : Sh := ⟨.pv (.sl Y21) :: dz 4 (.pv (.sl Y21) :: pI :: pI :: dz 10 []), []⟩
def jyD (N : Nat) (b : List (List Int)) : Z8 :=
 (iter (fun f (d, c, e, a) => bif decide (a < e) then oB (idx c a) fun j => (oB (jx1 N j) fun i => bif !i then some false else if fits (a + 1) then f (d, c, e, (a + 1)) else none) else some (decide ((d.length : Int) ≤ 6))) N (b, b, (b.length : Int), (0 : Int)))
theorem jD9 (N : Nat) : mK 252 ⟨⟨[.pv (.sl Y21)], []⟩, ⟨[pB], []⟩, c1A (jyD N)⟩ :=
 mO (fC (jAN N) ja) Tryz.func252 rfl N (.seq .no (.seq (.seq .no (.block (.loop jBY .no))) .no)) _
def jyK (N : Nat) (a : List (List Int)) : Z8 :=
 (bif decide ((0 : Int) < (a.length : Int)) then oB (jyD N a) fun b => (some b) else some false)
theorem jD6 (N : Nat) : mK 217 ⟨⟨[.pv (.sl Y21)], []⟩, ⟨[pB], []⟩, c1A (jyK N)⟩ :=
 mO (fC (jD9 N) ja) Tryz.func217 rfl N .no _
def jxH (N : Nat) (a : Int) : Z8 :=
 (some (!decide (a = a)))
theorem joK (N : Nat) : mK 177 ⟨⟨[pI], []⟩, ⟨[pB], []⟩, c1A (jxH N)⟩ :=
 mO ja Tryz.func177 rfl N .no _
def jye (N : Nat) (b : Int) (a : Int) : Z8 :=
 (oB (jxH N b) fun d => bif d then oB (jxH N a) fun c => (bif !c then some true else some (decide (b < a))) else some (decide (b < a)))
theorem jA5 (N : Nat) : mK 265 ⟨⟨[pI, pI], []⟩, ⟨[pB], []⟩, c2A (jye N)⟩ :=
 mO (fC (joK N) ja) Tryz.func265 rfl N .no _
def jxW (N : Nat) (a : Int) : Z8 :=
 (some (!decide (a = a)))
theorem jCp (N : Nat) : mK 266 ⟨⟨[pI], []⟩, ⟨[pB], []⟩, c1A (jxW N)⟩ :=
 mO ja Tryz.func266 rfl N .no _
def jB3 : Sh := ⟨.pv Y21 :: pI :: dz 4 (pI :: pI :: pI :: dz 45 []), []⟩
def jyA (N : Nat) (f : List Int) (o : Int) : Option (Int × Bool) :=
 (iter (fun h (c, d, e, a, b) => bif decide (a < b) then if fits (a + b) then if 0 ≤ (1 : Int) then oB (idx c (IntKind.i64.wrap ((IntKind.u64.wrap (a + b)).fdiv (2 ^ (min (1 : Int).toNat (IntKind.bits .u64)))))) fun n => (oB (jye N n d) fun m => bif m then if fits ((IntKind.i64.wrap ((IntKind.u64.wrap (a + b)).fdiv (2 ^ (min (1 : Int).toNat (IntKind.bits .u64))))) + 1) then h (c, d, e, ((IntKind.i64.wrap ((IntKind.u64.wrap (a + b)).fdiv (2 ^ (min (1 : Int).toNat (IntKind.bits .u64))))) + 1), b) else none else h (c, d, e, a, (IntKind.i64.wrap ((IntKind.u64.wrap (a + b)).fdiv (2 ^ (min (1 : Int).toNat (IntKind.bits .u64))))))) else none else none else bif decide (a < e) then oB (idx c a) fun p => (bif decide (p = d) then some (a, true) else oB (idx c a) fun k => oB (jxW N k) fun l => bif l then oB (jxW N d) fun i => (some (a, i)) else some (a, false)) else some (a, false)) N (f, o, (f.length : Int), (0 : Int), (f.length : Int)))
theorem jDL (N : Nat) : mK 253 ⟨⟨[.pv Y21, pI], []⟩, ⟨[.tup [pI, pB]], []⟩, c2A (jyA N)⟩ :=
 mO (fC (jA5 N) (fC (jCp N) ja)) Tryz.func253 rfl N (.seq .no (.seq .no (.seq .no (.seq (.block (.loop jB3 .no)) .no)))) _
def jys (N : Nat) (a : List Int) (c : Int) : Option (Int × Bool) :=
 (oB (jyA N a c) fun b => bif decide (b.1 = (a.length : Int)) then some (0, false) else oB (idx a b.1) fun d => some (d, true))
theorem jAO (N : Nat) : mK 218 ⟨⟨[.pv Y21, pI], []⟩, ⟨[.tup [pI, pB]], []⟩, c2A (jys N)⟩ :=
 mO (fC (jDL N) ja) Tryz.func218 rfl N .no _
def jBS : Sh := ⟨.pv (.sl Y21) :: pI :: dz 3 (.own 600005 tI 3 true :: dz 20 (.pv Y21 :: pI :: pI :: dz 42 [])), []⟩
def jDv : Sh := ⟨.pv (.sl Y21) :: pI :: dz 3 (.own 600005 tI 3 true :: .dead :: pI :: pI :: pB :: dz 16 (.pv Y21 :: pI :: pI :: dz 5 (.pv (.sl Y21) :: pI :: pI :: dz 34 []))), []⟩
def jyw (N : Nat) (o : List (List Int)) (t : Int) : Option ((List Int)) :=
 (oB (jyK N o) fun D => bif !D then some ([] : List Int) else oB (jm N t 0 5) fun E => bif !E then some ([] : List Int) else oB (idx o 0) fun w => iter (fun k (j, C, B, u, v, r) => bif decide (r < v) then oB (idx u r) fun x => (oB (cut j 1 (j.length : Int)) fun z => iter (fun A (a, d, e, c, n, y, i, h, b, m, q, f) => bif decide (f < q) then oB (idx m f) fun G => (if fits (n + 1) then oB (jys N G (n + 1)) fun p => (bif y then if fits (f + 1) then A (a, d, e, c, p.1, p.2, i, h, b, m, q, (f + 1)) else none else if fits (f + 1) then A (a, d, e, c, p.1, false, i, h, b, m, q, (f + 1)) else none) else none) else bif y then if fits (c + (a.length : Int)) then if fits ((c + (a.length : Int)) - 1) then if fits (((c + (a.length : Int)) - 1) + d) then bif decide (n ≤ (((c + (a.length : Int)) - 1) + d)) then if room e.length ([c] : List Int).length 8 then if fits (b + 1) then k (a, d, (e ++ ([c] : List Int)), i, h, (b + 1)) else none else none else (if fits (b + 1) then k (a, d, e, i, h, (b + 1)) else none) else none else none else none else if fits (b + 1) then k (a, d, e, i, h, (b + 1)) else none) N (j, C, B, x, x, true, u, v, r, z, (z.length : Int), (0 : Int))) else some B) N (o, t, ([] : List Int), w, (w.length : Int), (0 : Int)))
theorem jCX (N : Nat) : mK 170 ⟨⟨[.pv (.sl Y21), pI], []⟩, ⟨[.own 1 tI 3 true], []⟩, c2A (jyw N)⟩ :=
 mO (fC (jD6 N) (fC (jY N) (fC (jAO N) ja))) Tryz.func170 rfl N (.seq .no (.seq .no (.seq .no (.seq (.seq .no (.block (.loop jBS (.seq .no (.seq .no (.seq (.block (.seq .no (.seq .no (.seq (.seq .no (.block (.loop jDv .no))) .no)))) .no)))))) .no)))) _
def jCk : Sh := ⟨.ptr Y0 :: dz 3 (.box 4 0 :: .box 5 0 :: .dead :: .own 600007 Y17 186 true :: .own 600008 Y21 54 true :: pI :: dz 18 (.pv Y15 :: pI :: pI :: dz 59 [])), [(4, false, [pI, pS, .pv (.sl .str), pI, pI, .pv (.sl .q)]), (5, false, [pI, .pv Y19, .pv Y15])]⟩
def jDK : Sh := ⟨.ptr Y0 :: dz 3 (.box 4 0 :: .box 5 0 :: .dead :: .own 600007 Y17 186 true :: .own 600008 Y21 54 true :: pI :: pI :: .box 11 0 :: .own 600012 tI 3 true :: dz 15 (.pv Y15 :: pI :: pI :: dz 12 (.pv Y21 :: pI :: pI :: dz 44 []))), [(4, false, [pI, pS, .pv (.sl .str), pI, pI, .pv (.sl .q)]), (5, false, [pI, .pv Y19, .pv Y15]), (11, false, [pS, pI])]⟩
def jyB (N : Nat) (x : ((List Z0) × (List Z4)) × (List Z2) × (List Z1)) (q : Int) (q2 : List UInt8) (q3 : List Z0) (q4 : Int) (q5 : Int) (q6 : List DQ) (d : Int) (d2 : Z16) (d3 : Z9) : Z11 :=
 (oB (jyu N q3 ([32] : List UInt8)) fun r => oB (jbw N x.1.1 x.1.2 r) fun r2 => bif decide ((r2.length : Int) = 0) then some 0 else iter (fun go (x2, terms, lists, all, t28, t29, t30, q7, q8, q9, q10, q11, q12, d4, d5, d6) => bif decide (t30 < t29) then oB (idx t28 t30) fun e => (oB (i_scorer_places_m N x2 q8 e.1 d4) fun r3 => iter (fun go2 (x3, terms2, lists2, all2, i, list, t282, t292, t302, t43, t44, t45, q13, q14, q15, q16, q17, q18, d7, d8, d9, t, t2) => bif decide (t45 < t44) then oB (idx t43 t45) fun e2 => (oB (idx terms2 0) fun e3 => if fits (t2 - e3.2) then if fits ((t2 - e3.2) - i) then if fits (e2 - ((t2 - e3.2) - i)) then bif decide ((0 : Int) ≤ (e2 - ((t2 - e3.2) - i))) then if room list.length ([(e2 - ((t2 - e3.2) - i))] : List Int).length 8 then if fits (t45 + 1) then go2 (x3, terms2, lists2, all2, i, (list ++ ([(e2 - ((t2 - e3.2) - i))] : List Int)), t282, t292, t302, t43, t44, (t45 + 1), q13, q14, q15, q16, q17, q18, d7, d8, d9, t, t2) else none else none else (if fits (t45 + 1) then go2 (x3, terms2, lists2, all2, i, list, t282, t292, t302, t43, t44, (t45 + 1), q13, q14, q15, q16, q17, q18, d7, d8, d9, t, t2) else none) else none else none else none) else if room lists2.length ([list] : List (List Int)).length 24 then oB (i_scorer_points_m N x3 q14 t d7) fun r4 => (if fits (all2 + r4) then if fits (t302 + 1) then go (x3, terms2, (lists2 ++ ([list] : List (List Int))), (all2 + r4), t282, t292, (t302 + 1), q13, q14, q15, q16, q17, q18, d7, d8, d9) else none else none) else none) N (x2, terms, lists, all, t30, ([] : List Int), t28, t29, t30, r3, (r3.length : Int), (0 : Int), q7, q8, q9, q10, q11, q12, d4, d5, d6, e.1, e.2)) else oB (jyw N lists q10) fun r5 => if fits ((if (r5.length : Int) < 3 then (r5.length : Int) else 3) * all) then some ((if (r5.length : Int) < 3 then (r5.length : Int) else 3) * all) else none) N (x, r2, ([] : List (List Int)), (0 : Int), r2, (r2.length : Int), (0 : Int), q, q2, q3, q4, q5, q6, d, d2, d3))
theorem jDC (N : Nat) : mK 108 ⟨⟨[.ptr Y0, .agg [pI, pS, .pv (.sl .str), pI, pI, .pv (.sl .q)], .agg [pI, .pv Y19, .pv Y15]], []⟩, ⟨[pI], []⟩, c10A (jyB N)⟩ :=
 mO (fC (jBE N) (fC (jgO N) (fC (jrB N) (fC (jsD N) (fC (jCX N) ja))))) Tryz.func108 rfl N (.seq .no (.seq .no (.seq .no (.seq .no (.seq .no (.seq (.seq .no (.block (.loop jCk (.seq .no (.seq .no (.seq (.block (.seq .no (.seq .no (.seq (.seq .no (.block (.loop jDK .no))) .no)))) .no)))))) .no)))))) _
def jtE : Sh := ⟨.dead :: pS :: dz 3 (.own 600005 .str 9 true :: dz 6 (.pv Y4 :: pI :: pI :: dz 14 [])), []⟩
def i_Seg_terms_m (N : Nat) (i : (List Z2) × (List Z1)) (k : List UInt8) : Option ((List Z0)) :=
 (iter (fun h (c, b, d, f, a) => bif decide (a < f) then oB (idx d a) fun e => (bif decide (e.1 = c) then if room b.length ([e.2.1] : List Z0).length 16 then if fits (a + 1) then h (c, (b ++ ([e.2.1] : List Z0)), d, f, (a + 1)) else none else none else if fits (a + 1) then h (c, b, d, f, (a + 1)) else none) else some b) N (k, ([] : List Z0), i.2, (i.2.length : Int), (0 : Int)))
theorem jln (N : Nat) : mK 109 ⟨⟨[.ptr Y1, pS], []⟩, ⟨[.own 1 .str 9 true], []⟩, c2A (i_Seg_terms_m N)⟩ :=
 mO ja Tryz.func109 rfl N (.seq .no (.seq .no (.seq (.seq .no (.block (.loop jtE .no))) .no))) _
def jDE : Sh := ⟨pS :: pS :: dz 3 (.mtk 600005 tI 3 true :: dz 18 (pI :: pI :: dz 62 [])), []⟩
def jBC : Sh := ⟨pS :: pS :: dz 3 (.mtk 600005 tI 3 true :: .dead :: pI :: dz 80 []), []⟩
def jCv : Sh := ⟨pS :: pS :: dz 3 (.mtk 600005 tI 3 true :: .dead :: pI :: pI :: pI :: dz 78 []), []⟩
def jAI : Sh := ⟨pS :: pS :: dz 3 (.mtk 600005 tI 3 true :: .dead :: pI :: .dead :: pI :: pI :: dz 77 []), []⟩
def jAQ : Sh := ⟨pS :: pS :: dz 3 (.mtk 22 tI 3 true :: dz 82 []), []⟩
def jDZ : Sh := ⟨pS :: pS :: dz 86 [], []⟩
def i_NearFar_m (N : Nat) (a : List UInt8) (b : List UInt8) : Z11 :=
 (meet (fun (g : Z0 × Z0) => match g with | (a2, b2) => meet (fun (g : Z0 × Z0 × (List Int)) => match g with | (a3, b3, row) => iter (fun go (a4, b4, row2, t24, t25) => bif decide (t25 < t24) then if 0 ≤ t25 ∧ t25 < (row2.length : Int) then oB (row2[t25.toNat]?) fun e => (if fits (t25 + 1) then go (a4, b4, (row2.set t25.toNat t25), t24, (t25 + 1)) else none) else none else iter (fun go2 (a5, b5, row3, i) => bif decide (i ≤ (a5.length : Int)) then if 0 ≤ (0 : Int) ∧ (0 : Int) < (row3.length : Int) then oB (row3[(0 : Int).toNat]?) fun e2 => (if 0 ≤ (0 : Int) ∧ (0 : Int) < (row3.length : Int) then oB (row3[(0 : Int).toNat]?) fun e3 => (iter (fun go3 (a6, b6, row4, i2, corner, j) => bif decide (j ≤ (b6.length : Int)) then meet (fun (g : Z19) => match g with | (a7, b7, row5, i3, j2, cost) => if 0 ≤ j2 ∧ j2 < (row5.length : Int) then oB (row5[j2.toNat]?) fun e4 => (if 0 ≤ j2 ∧ j2 < (row5.length : Int) then oB (row5[j2.toNat]?) fun e5 => (if fits (e5 + 1) then if fits (j2 - 1) then if 0 ≤ (j2 - 1) ∧ (j2 - 1) < (row5.length : Int) then oB (row5[(j2 - 1).toNat]?) fun e6 => (if fits (e6 + 1) then if 0 ≤ j2 ∧ j2 < (row5.length : Int) then oB (row5[j2.toNat]?) fun e7 => (if fits (j2 + 1) then go3 (a7, b7, (row5.set j2.toNat (if (e6 + 1) < (if (e5 + 1) < cost then e5 + 1 else cost) then e6 + 1 else if (e5 + 1) < cost then e5 + 1 else cost)), i3, e4, (j2 + 1)) else none) else none else none) else none else none else none) else none) else none) fun J3 => (if fits (i2 - 1) then oB (idx a6 (i2 - 1)) fun c => (if fits (j - 1) then oB (idx b6 (j - 1)) fun c2 => (bif !decide ((c.toNat : Int) = (c2.toNat : Int)) then if fits (corner + 1) then J3 (a6, b6, row4, i2, j, (corner + 1)) else none else J3 (a6, b6, row4, i2, j, corner)) else none) else none) else if fits (i2 + 1) then go2 (a6, b6, row4, (i2 + 1)) else none) N (a5, b5, (row3.set (0 : Int).toNat i), i, e2, (1 : Int))) else none) else none else if 0 ≤ (b5.length : Int) ∧ (b5.length : Int) < (row3.length : Int) then oB (row3[(b5.length : Int).toNat]?) fun e8 => (some e8) else none) N (a4, b4, row2, (1 : Int))) N (a3, b3, row, (row.length : Int), (0 : Int))) fun J2 => if fits ((b2.length : Int) + 1) then if ((b2.length : Int) + 1) = ((b2.length : Int) + 1) ∧ 0 ≤ ((b2.length : Int) + 1) ∧ ((b2.length : Int) + 1) * 8 ≤ 140737488355328 ∧ ((b2.length : Int) + 1) ≤ 140737488355328 then J2 (a2, b2, (List.replicate ((b2.length : Int) + 1).toNat 0)) else none else none) fun J => oB (jO N a) fun r => bif !r then some (-1) else oB (jO N b) fun r2 => bif !r2 then some (-1) else J (a, b))
theorem jDu (N : Nat) : mK 110 ⟨⟨[pS, pS], []⟩, ⟨[pI], []⟩, c2A (i_NearFar_m N)⟩ :=
 mO (fC (jcM N) ja) Tryz.func110 rfl N (.seq .no (.meet jDZ .no (.meet jAQ .no (.seq (.seq .no (.block (.loop jDE .no))) (.seq (.seq .no (.block (.loop jBC (.seq .no (.seq (.block (.seq .no (.seq .no (.seq .no (.block (.loop jCv (.seq .no (.seq (.block (.seq .no (.meet jAI .no .no))) .no)))))))) .no))))) .no))))) _ (wr := [22])
def jxG (N : Nat) : (D : Nat) → Z0 → Z0 → Z8
 | 0, _, _ => none
 | D + 1, p, s =>
 bif decide (p = ([] : List UInt8)) then
 some (decide (s = ([] : List UInt8)))
 else
 oB (idx p 0) fun c =>
 bif decide ((c.toNat : Int) = 42) then
 oB (cut p 1 (p.length : Int)) fun y =>
 (oB (jxG N D y s) fun r =>
 bif r then
 some true
 else
 bif !decide (s = ([] : List UInt8)) then
 oB (cut s 1 (s.length : Int)) fun y2 =>
 (oB (jxG N D p y2) fun r2 =>
 some r2)
 else
 some false)
 else
 bif decide (s = ([] : List UInt8)) then
 some false
 else
 oB (idx p 0) fun c2 =>
 bif decide ((c2.toNat : Int) = 63) then
 oB (cut p 1 (p.length : Int)) fun y3 =>
 (oB (cut s 1 (s.length : Int)) fun y4 =>
 oB (jxG N D y3 y4) fun r3 =>
 some r3)
 else
 oB (idx p 0) fun c3 =>
 oB (idx s 0) fun c4 =>
 bif decide ((c3.toNat : Int) = (c4.toNat : Int)) then
 oB (cut p 1 (p.length : Int)) fun y5 =>
 (oB (cut s 1 (s.length : Int)) fun y6 =>
 oB (jxG N D y5 y6) fun r4 =>
 some r4)
 else
 some false
def jyg (N D : Nat) : Model := ⟨⟨[pS, pS], []⟩, ⟨[pB], []⟩, c2A (jxG N D)⟩
theorem jBG (N D : Nat) (ih : mK 171 (jyg N D)) : mK 171 (jyg N (D + 1)) :=
 mO (fC ih ja) Tryz.func171 rfl N .no (jyg N (D + 1))
theorem jAz (N : Nat) : ∀ D, mK 171 (jyg N D)
 | 0 => modelOk_none ⟨_, Tryz.func171, by decide, by kernel_rfl⟩ _ (fun a => rfl)
 | D + 1 => jBG N D (jAz N D)
def jx0 (N : Nat) (a : List UInt8) (b : List UInt8) : Z8 :=
 (oB (jxV N a) fun d => bif d then oB (jO N b) fun c => (bif c then oB (jxG N N a b) fun e => (some e) else some false) else some false)
theorem jDd (N : Nat) : mK 111 ⟨⟨[pS, pS], []⟩, ⟨[pB], []⟩, c2A (jx0 N)⟩ :=
 mO (fC (jz9 N) (fC (jcM N) (fC (jAz N N) ja))) Tryz.func111 rfl N .no _
def jD5 : Sh := ⟨.dead :: pS :: dz 8 (.pv Y15 :: pI :: pI :: dz 10 []), []⟩
def jyp (N : Nat) (l : Int) (h : Z16) (b : Z9) (k : List UInt8) : Z11 :=
 (oB (jbx N l h b) fun m => bif m then iter (fun i (c, f, e, a) => bif decide (a < e) then oB (idx f a) fun d => (bif decide (d.1 = c) then some d.2 else if fits (a + 1) then i (c, f, e, (a + 1)) else none) else some (-1)) N (k, b, (b.length : Int), (0 : Int)) else some (-1))
theorem jBQ (N : Nat) : mK 113 ⟨⟨[.agg [pI, .pv Y19, .pv Y15], pS], []⟩, ⟨[pI], []⟩, c4A (jyp N)⟩ :=
 mO (fC (jh0 N) ja) Tryz.func113 rfl N (.seq .no (.seq (.seq .no (.cond (.seq .no (.block (.loop jD5 .no))) .no)) .no)) _
def jDa : Sh := ⟨.ptr Y0 :: dz 3 (.box 4 0 :: .box 5 0 :: .dead :: pI :: dz 43 (.own 600051 .str 9 true :: pI :: pI :: dz 122 [])), [(4, false, [pI, pS, .pv (.sl .str), pI, pI, .pv (.sl .q)]), (5, false, [pI, .pv Y19, .pv Y15])]⟩
def jCO : Sh := ⟨.ptr Y0 :: dz 3 (.box 4 0 :: .box 5 0 :: dz 83 (.own 600089 .str 9 true :: pI :: pI :: dz 84 [])), [(4, false, [pI, pS, .pv (.sl .str), pI, pI, .pv (.sl .q)]), (5, false, [pI, .pv Y19, .pv Y15])]⟩
def jDp : Sh := ⟨.ptr Y0 :: dz 3 (.box 4 0 :: .box 5 0 :: dz 7 (pI :: dz 140 (.pv (.sl .q) :: pI :: pI :: dz 19 []))), [(4, false, [pI, pS, .pv (.sl .str), pI, pI, .pv (.sl .q)]), (5, false, [pI, .pv Y19, .pv Y15])]⟩
def i_scorer_score_m (N : Nat) : (D : Nat) → Z14 → Int → Z0 → (List Z0) → Int → Int → (List DQ) → Int → Z13 → Z7 → Z11
 | 0, _, _, _, _, _, _, _, _, _, _ => none
 | D + 1, x, q, q2, q3, q4, q5, q6, d, d2, d3 =>
 bif decide (q = 1) then
 some 100
 else
 bif decide (q = 2) then
 oB (idx q3 0) fun e =>
 (oB (jyc N x.1.1 x.1.2 e) fun r =>
 oB (i_scorer_points_m N x q2 r d) fun r2 =>
 some r2)
 else
 bif decide (q = 3) then
 oB (jyB N x q q2 q3 q4 q5 q6 d d2 d3) fun r3 =>
 (some r3)
 else
 bif decide (q = 4) then
 oB (i_Seg_terms_m N x.2 q2) fun r4 =>
 (iter (fun go (g : Z14 × Int × (List Z0) × Int × Int × Int × Z0 × (List Z0) × Int × Int × (List DQ) × Int × Z13 × Z7) =>
 match g with
 | (x2, best, t51, t52, t53, q7, q8, q9, q10, q11, q12, d4, d5, d6) =>
 bif decide (t53 < t52) then
 oB (idx t51 t53) fun e2 =>
 (oB (idx q9 0) fun e3 =>
 oB (i_NearFar_m N e2 e3) fun r5 =>
 oB (jm N r5 0 q10) fun r6 =>
 bif r6 then
 oB (i_scorer_points_m N x2 q8 e2 d4) fun r7 =>
 (if fits (3 - r5) then if fits (r7 * (3 - r5)) then if 3 ≠ 0 then
 if fits ((r7 * (3 - r5)).tdiv 3) then if fits (t53 + 1) then go (x2, (if ((r7 * (3 - r5)).tdiv 3) > best then (r7 * (3 - r5)).tdiv 3 else best), t51, t52, (t53 + 1), q7, q8, q9, q10, q11, q12, d4, d5, d6) else none else none
 else none else none else none)
 else
 if fits (t53 + 1) then go (x2, best, t51, t52, (t53 + 1), q7, q8, q9, q10, q11, q12, d4, d5, d6) else none)
 else
 some best) N (x, 0, r4, (r4.length : Int), 0, q, q2, q3, q4, q5, q6, d, d2, d3))
 else
 bif decide (q = 5) then
 oB (i_Seg_terms_m N x.2 q2) fun r8 =>
 (iter (fun go2 (g : Z14 × (List Z0) × Int × Int × Int × Z0 × (List Z0) × Int × Int × (List DQ) × Int × Z13 × Z7) =>
 match g with
 | (x3, t89, t90, t91, q13, q14, q15, q16, q17, q18, d7, d8, d9) =>
 bif decide (t91 < t90) then
 oB (idx t89 t91) fun e4 =>
 (oB (idx q15 0) fun e5 =>
 oB (jx0 N e5 e4) fun r9 =>
 bif r9 then
 oB (i_scorer_places_m N x3 q14 e4 d7) fun r10 =>
 (bif decide ((0 : Int) < (r10.length : Int)) then
 some 100
 else
 if fits (t91 + 1) then go2 (x3, t89, t90, (t91 + 1), q13, q14, q15, q16, q17, q18, d7, d8, d9) else none)
 else
 if fits (t91 + 1) then go2 (x3, t89, t90, (t91 + 1), q13, q14, q15, q16, q17, q18, d7, d8, d9) else none)
 else
 some 0) N (x, r8, (r8.length : Int), 0, q, q2, q3, q4, q5, q6, d, d2, d3))
 else
 bif decide (q = 6) then
 oB (jyp N d d2 d3 q2) fun r11 =>
 (oB (jm N r11 q4 q5) fun r12 =>
 bif r12 then
 some 100
 else
 some 0)
 else
 bif decide (q = 10) then
 oB (idx q6 0) fun e6 =>
 (oB (i_scorer_score_m N D x e6.kind e6.field e6.words e6.lo e6.hi e6.kids d d2 d3) fun r13 =>
 if fits (q4 * r13) then some (q4 * r13) else none)
 else
 bif decide (q = 9) then
 oB (idx q6 1) fun e7 =>
 (oB (i_scorer_score_m N D x e7.kind e7.field e7.words e7.lo e7.hi e7.kids d d2 d3) fun r14 =>
 bif decide ((0 : Int) < r14) then
 some 0
 else
 oB (idx q6 0) fun e8 =>
 oB (i_scorer_score_m N D x e8.kind e8.field e8.words e8.lo e8.hi e8.kids d d2 d3) fun r15 =>
 some r15)
 else
 iter (fun go3 (g : Z14 × Int × (List DQ) × Int × Int × Int × Z0 × (List Z0) × Int × Int × (List DQ) × Int × Z13 × Z7) =>
 match g with
 | (x4, all, t154, t155, t156, q19, q20, q21, q22, q23, q24, d10, d11, d12) =>
 bif decide (t156 < t155) then
 oB (idx t154 t156) fun e9 =>
 (oB (i_scorer_score_m N D x4 e9.kind e9.field e9.words e9.lo e9.hi e9.kids d10 d11 d12) fun r16 =>
 bif decide (r16 = 0) then
 bif decide (q19 = 7) then
 some 0
 else
 (if fits (all + r16) then if fits (t156 + 1) then go3 (x4, (all + r16), t154, t155, (t156 + 1), q19, q20, q21, q22, q23, q24, d10, d11, d12) else none else none)
 else
 if fits (all + r16) then if fits (t156 + 1) then go3 (x4, (all + r16), t154, t155, (t156 + 1), q19, q20, q21, q22, q23, q24, d10, d11, d12) else none else none)
 else
 some all) N (x, 0, q6, (q6.length : Int), 0, q, q2, q3, q4, q5, q6, d, d2, d3)
def jx6 (N D : Nat) : Model := ⟨⟨[.ptr Y0, .agg [pI, pS, .pv (.sl .str), pI, pI, .pv (.sl .q)], .agg [pI, .pv Y19, .pv Y15]], []⟩, ⟨[pI], []⟩, c10A (i_scorer_score_m N D)⟩
theorem jBq (N D : Nat) (ih : mK 60 (jx6 N D)) : mK 60 (jx6 N (D + 1)) :=
 mO (fC ih (fC (jBn N) (fC (jsD N) (fC (jDC N) (fC (jln N) (fC (jDu N) (fC (jY N) (fC (jDd N) (fC (jrB N) (fC (jBQ N) ja)))))))))) Tryz.func60 rfl N (.seq .no (.seq (.seq .no (.block (.seq .no (.cond .no (.seq .no (.cond .no (.seq .no (.cond .no (.seq .no (.cond (.seq .no (.seq (.seq .no (.block (.loop jDa .no))) .no)) (.seq .no (.cond (.seq (.seq .no (.block (.loop jCO .no))) .no) .no)))))))))))) (.seq .no (.seq (.seq .no (.block (.loop jDp .no))) .no)))) (jx6 N (D + 1))
theorem jzy (N : Nat) : ∀ D, mK 60 (jx6 N D)
 | 0 => modelOk_none ⟨_, Tryz.func60, by decide, by kernel_rfl⟩ _ (fun a => rfl)
 | D + 1 => jBq N D (jzy N D)
def jo5 : Sh := ⟨.pv (.sl .str) :: .pv (.sl .str) :: dz 3 (pI :: dz 20 []), []⟩
def j0 (N : Nat) (d : List Z0) (c : List Z0) : Z8 :=
 (bif !decide ((d.length : Int) = (c.length : Int)) then some false else iter (fun f (b, e, a) => bif decide (a < (b.length : Int)) then oB (idx b a) fun i => (oB (idx e a) fun j => bif !decide (i = j) then some false else if fits (a + 1) then f (b, e, (a + 1)) else none) else some true) N (d, c, (0 : Int)))
theorem jd6 (N : Nat) : mK 61 ⟨⟨[.pv (.sl .str), .pv (.sl .str)], []⟩, ⟨[pB], []⟩, c2A (j0 N)⟩ :=
 mO ja Tryz.func61 rfl N (.seq .no (.seq .no (.seq (.seq .no (.block (.loop jo5 .no))) .no))) _
def jaR (N : Nat) (b : List Z0) (d : List UInt8) (a : List Z0) (e : List UInt8) : Z8 :=
 (oB (j0 N b a) fun c => bif !c then some false else bif !decide (d = e) then some false else some true)
theorem jqb (N : Nat) : mK 114 ⟨⟨[.agg [.pv (.sl .str), pS], .agg [.pv (.sl .str), pS]], []⟩, ⟨[pB], []⟩, c4A (jaR N)⟩ :=
 mO (fC (jd6 N) ja) Tryz.func114 rfl N .no _
def jp9 : Sh := ⟨.pv Y16 :: .pv Y16 :: dz 3 (pI :: dz 21 []), []⟩
def jdJ (N : Nat) (d : List Z4) (c : List Z4) : Z8 :=
 (bif !decide ((d.length : Int) = (c.length : Int)) then some false else iter (fun i (b, f, a) => bif decide (a < (b.length : Int)) then oB (idx b a) fun e => (oB (idx f a) fun h => oB (jaR N e.1 e.2 h.1 h.2) fun k => bif !k then some false else if fits (a + 1) then i (b, f, (a + 1)) else none) else some true) N (d, c, (0 : Int)))
theorem jkU (N : Nat) : mK 62 ⟨⟨[.pv Y16, .pv Y16], []⟩, ⟨[pB], []⟩, c2A (jdJ N)⟩ :=
 mO (fC (jqb N) ja) Tryz.func62 rfl N (.seq .no (.seq .no (.seq (.seq .no (.block (.loop jp9 .no))) .no))) _
def jcO (N : Nat) (c : List Z0) (e : List Z4) (b : List Z0) (f : List Z4) : Z8 :=
 (oB (j0 N c b) fun d => bif !d then some false else oB (jdJ N e f) fun a => bif !a then some false else some true)
theorem jr8 (N : Nat) : mK 17 ⟨⟨[.agg [.pv (.sl .str), .pv Y16], .agg [.pv (.sl .str), .pv Y16]], []⟩, ⟨[pB], []⟩, c4A (jcO N)⟩ :=
 mO (fC (jd6 N) (fC (jkU N) ja)) Tryz.func17 rfl N .no _
def jbd (N : Nat) (b : List UInt8) (c : List UInt8) (a : List UInt8) (d : List UInt8) : Z8 :=
 (bif !decide (b = a) then some false else bif !decide (c = d) then some false else some true)
theorem jmy (N : Nat) : mK 219 ⟨⟨[.agg [pS, pS], .agg [pS, pS]], []⟩, ⟨[pB], []⟩, c4A (jbd N)⟩ :=
 mO ja Tryz.func219 rfl N .no _
def jqq : Sh := ⟨.pv Y19 :: .pv Y19 :: dz 3 (pI :: dz 21 []), []⟩
def jdj (N : Nat) (d : Z16) (c : Z16) : Z8 :=
 (bif !decide ((d.length : Int) = (c.length : Int)) then some false else iter (fun i (b, f, a) => bif decide (a < (b.length : Int)) then oB (idx b a) fun e => (oB (idx f a) fun h => oB (jbd N e.1 e.2 h.1 h.2) fun k => bif !k then some false else if fits (a + 1) then i (b, f, (a + 1)) else none) else some true) N (d, c, (0 : Int)))
theorem jmD (N : Nat) : mK 172 ⟨⟨[.pv Y19, .pv Y19], []⟩, ⟨[pB], []⟩, c2A (jdj N)⟩ :=
 mO (fC (jmy N) ja) Tryz.func172 rfl N (.seq .no (.seq .no (.seq (.seq .no (.block (.loop jqq .no))) .no))) _
def jbo (N : Nat) (b : List UInt8) (c : Int) (a : List UInt8) (d : Int) : Z8 :=
 (bif !decide (b = a) then some false else bif !decide (c = d) then some false else some true)
theorem jtn (N : Nat) : mK 220 ⟨⟨[.agg [pS, pI], .agg [pS, pI]], []⟩, ⟨[pB], []⟩, c4A (jbo N)⟩ :=
 mO ja Tryz.func220 rfl N .no _
def jtU : Sh := ⟨.pv Y15 :: .pv Y15 :: dz 3 (pI :: dz 21 []), []⟩
def jdN (N : Nat) (d : Z9) (c : Z9) : Z8 :=
 (bif !decide ((d.length : Int) = (c.length : Int)) then some false else iter (fun i (b, f, a) => bif decide (a < (b.length : Int)) then oB (idx b a) fun e => (oB (idx f a) fun h => oB (jbo N e.1 e.2 h.1 h.2) fun k => bif !k then some false else if fits (a + 1) then i (b, f, (a + 1)) else none) else some true) N (d, c, (0 : Int)))
theorem jkL (N : Nat) : mK 173 ⟨⟨[.pv Y15, .pv Y15], []⟩, ⟨[pB], []⟩, c2A (jdN N)⟩ :=
 mO (fC (jtn N) ja) Tryz.func173 rfl N (.seq .no (.seq .no (.seq (.seq .no (.block (.loop jtU .no))) .no))) _
def jbi (N : Nat) (d : Int) (b : Z16) (f : Z9) (a : Int) (i : Z16) (h : Z9) : Z8 :=
 (bif !decide (d = a) then some false else oB (jdj N b i) fun e => bif !e then some false else oB (jdN N f h) fun c => bif !c then some false else some true)
theorem jta (N : Nat) : mK 115 ⟨⟨[.agg [pI, .pv Y19, .pv Y15], .agg [pI, .pv Y19, .pv Y15]], []⟩, ⟨[pB], []⟩, c6A (jbi N)⟩ :=
 mO (fC (jmD N) (fC (jkL N) ja)) Tryz.func115 rfl N .no _
def jqZ : Sh := ⟨.pv Y2 :: .pv Y2 :: dz 3 (pI :: dz 21 []), []⟩
def jdZ (N : Nat) (f : List Z2) (e : List Z2) : Z8 :=
 (bif !decide ((f.length : Int) = (e.length : Int)) then some false else iter (fun i (b, h, a) => bif decide (a < (b.length : Int)) then oB (idx b a) fun c => (oB (idx h a) fun d => oB (jbi N c.1 c.2.1 c.2.2 d.1 d.2.1 d.2.2) fun k => bif !k then some false else if fits (a + 1) then i (b, h, (a + 1)) else none) else some true) N (f, e, (0 : Int)))
theorem jmb (N : Nat) : mK 63 ⟨⟨[.pv Y2, .pv Y2], []⟩, ⟨[pB], []⟩, c2A (jdZ N)⟩ :=
 mO (fC (jta N) ja) Tryz.func63 rfl N (.seq .no (.seq .no (.seq (.seq .no (.block (.loop jqZ .no))) .no))) _
def jea (N : Nat) (d : List Int) (c : List Int) : Z8 :=
 (bif !decide ((d.length : Int) = (c.length : Int)) then some false else iter (fun f (b, e, a) => bif decide (a < (b.length : Int)) then oB (idx b a) fun i => (oB (idx e a) fun j => bif !decide (i = j) then some false else if fits (a + 1) then f (b, e, (a + 1)) else none) else some true) N (d, c, (0 : Int)))
theorem jmk (N : Nat) : mK 22 ⟨⟨[.pv Y21, .pv Y21], []⟩, ⟨[pB], []⟩, c2A (jea N)⟩ :=
 mO ja Tryz.func22 rfl N (.seq .no (.seq .no (.seq (.seq .no (.block (.loop jnI .no))) .no))) _
def jbl (N : Nat) (b : Int) (d : List Int) (a : Int) (e : List Int) : Z8 :=
 (bif !decide (b = a) then some false else oB (jea N d e) fun c => bif !c then some false else some true)
theorem jrv (N : Nat) : mK 221 ⟨⟨[.agg [pI, .pv Y21], .agg [pI, .pv Y21]], []⟩, ⟨[pB], []⟩, c4A (jbl N)⟩ :=
 mO (fC (jmk N) ja) Tryz.func221 rfl N .no _
def jna : Sh := ⟨.pv Y11 :: .pv Y11 :: dz 3 (pI :: dz 21 []), []⟩
def jdt (N : Nat) (d : Z3) (c : Z3) : Z8 :=
 (bif !decide ((d.length : Int) = (c.length : Int)) then some false else iter (fun i (b, f, a) => bif decide (a < (b.length : Int)) then oB (idx b a) fun e => (oB (idx f a) fun h => oB (jbl N e.1 e.2 h.1 h.2) fun k => bif !k then some false else if fits (a + 1) then i (b, f, (a + 1)) else none) else some true) N (d, c, (0 : Int)))
theorem jrb (N : Nat) : mK 174 ⟨⟨[.pv Y11, .pv Y11], []⟩, ⟨[pB], []⟩, c2A (jdt N)⟩ :=
 mO (fC (jrv N) ja) Tryz.func174 rfl N (.seq .no (.seq .no (.seq (.seq .no (.block (.loop jna .no))) .no))) _
def jaU (N : Nat) (c : List UInt8) (b : List UInt8) (e : Z3) (a : List UInt8) (h : List UInt8) (f : Z3) : Z8 :=
 (bif !decide (c = a) then some false else bif !decide (b = h) then some false else oB (jdt N e f) fun d => bif !d then some false else some true)
theorem jmZ (N : Nat) : mK 116 ⟨⟨[.agg [pS, pS, .pv Y11], .agg [pS, pS, .pv Y11]], []⟩, ⟨[pB], []⟩, c6A (jaU N)⟩ :=
 mO (fC (jrb N) ja) Tryz.func116 rfl N .no _
def jkD : Sh := ⟨.pv Y4 :: .pv Y4 :: dz 3 (pI :: dz 21 []), []⟩
def jdU (N : Nat) (f : List Z1) (e : List Z1) : Z8 :=
 (bif !decide ((f.length : Int) = (e.length : Int)) then some false else iter (fun i (b, h, a) => bif decide (a < (b.length : Int)) then oB (idx b a) fun c => (oB (idx h a) fun d => oB (jaU N c.1 c.2.1 c.2.2 d.1 d.2.1 d.2.2) fun k => bif !k then some false else if fits (a + 1) then i (b, h, (a + 1)) else none) else some true) N (f, e, (0 : Int)))
theorem jkg (N : Nat) : mK 64 ⟨⟨[.pv Y4, .pv Y4], []⟩, ⟨[pB], []⟩, c2A (jdU N)⟩ :=
 mO (fC (jmZ N) ja) Tryz.func64 rfl N (.seq .no (.seq .no (.seq (.seq .no (.block (.loop jkD .no))) .no))) _
def jbJ (N : Nat) (c : List Z2) (e : List Z1) (b : List Z2) (f : List Z1) : Z8 :=
 (oB (jdZ N c b) fun d => bif !d then some false else oB (jdU N e f) fun a => bif !a then some false else some true)
theorem jnM (N : Nat) : mK 18 ⟨⟨[.agg [.pv Y2, .pv Y4], .agg [.pv Y2, .pv Y4]], []⟩, ⟨[pB], []⟩, c4A (jbJ N)⟩ :=
 mO (fC (jmb N) (fC (jkg N) ja)) Tryz.func18 rfl N .no _
def jyZ : Sh := ⟨[.agg [pI, pS, .pv (.sl .str), pI, pI, .pv (.sl .q)], .agg [pI, pS, .pv (.sl .str), pI, pI, .pv (.sl .q)]], []⟩
def jAc : Sh := ⟨[pB], []⟩
def jCx : Sh := ⟨[.pv (.sl .q), .pv (.sl .q)], []⟩
def jCz : Sh := ⟨[pB], []⟩
def jC3 : Sh := ⟨.pv (.sl .q) :: .pv (.sl .q) :: dz 3 (pI :: dz 21 []), []⟩
def jyS (N : Nat) (i : Z17 → Option Bool) (f : List DQ) (e : List DQ) : Z8 :=
 (bif !decide ((f.length : Int) = (e.length : Int)) then some false else iter (fun j (d, h, c) => bif decide (c < (d.length : Int)) then oB (idx d c) fun a => (oB (idx h c) fun b => oB (i (a.kind, a.field, a.words, a.lo, a.hi, a.kids, b.kind, b.field, b.words, b.lo, b.hi, b.kids)) fun l => bif !l then some false else if fits (c + 1) then j (d, h, (c + 1)) else none) else some true) N (f, e, (0 : Int)))
def jzD (N : Nat) (F : Z17 → Option Bool) : Model := ⟨jCx, jCz, fun a => jyS N F a.1 a.2⟩
theorem jCt (N : Nat) (F : Z17 → Option Bool) (hF : mK 19 ⟨jyZ, jAc, F⟩) : mK 65 (jzD N F) :=
 mO (fC hF ja) Tryz.func65 rfl N (.seq .no (.seq .no (.seq (.seq .no (.block (.loop jC3 .no))) .no))) (jzD N F)
def jxK (N : Nat) : (D : Nat) → Int → Z0 → (List Z0) → Int → Int → (List DQ) → Int → Z0 → (List Z0) → Int → Int → (List DQ) → Z8
 | 0, _, _, _, _, _, _, _, _, _, _, _, _ => none
 | D + 1, a, a2, a3, a4, a5, a6, b, b2, b3, b4, b5, b6 =>
 bif !decide (a = b) then
 some false
 else
 bif !decide (a2 = b2) then
 some false
 else
 oB (j0 N a3 b3) fun r =>
 bif !r then
 some false
 else
 bif !decide (a4 = b4) then
 some false
 else
 bif !decide (a5 = b5) then
 some false
 else
 oB (jyS N (fun a => jxK N D a.1 a.2.1 a.2.2.1 a.2.2.2.1 a.2.2.2.2.1 a.2.2.2.2.2.1 a.2.2.2.2.2.2.1 a.2.2.2.2.2.2.2.1 a.2.2.2.2.2.2.2.2.1 a.2.2.2.2.2.2.2.2.2.1 a.2.2.2.2.2.2.2.2.2.2.1 a.2.2.2.2.2.2.2.2.2.2.2) a6 b6) fun r2 =>
 bif !r2 then
 some false
 else
 some true
def jyy (N D : Nat) : Model := ⟨jyZ, jAc, c12A (jxK N D)⟩
theorem jDy (N D : Nat) (ih : mK 19 (jyy N D)) : mK 19 (jyy N (D + 1)) :=
 mO (fC ih (fC (jd6 N) (fC (jCt N _ ih) ja))) Tryz.func19 rfl N .no (jyy N (D + 1))
theorem jAA (N : Nat) : ∀ D, mK 19 (jyy N D)
 | 0 => modelOk_none ⟨_, Tryz.func19, by decide, by kernel_rfl⟩ _ (fun a => rfl)
 | D + 1 => jDy N D (jAA N D)
def jBM : Sh := ⟨dz 5 (.box 5 0 :: .dead :: .own 600007 Y14 69 true :: .box 26 0 :: dz 19 (.pv Y2 :: pI :: pI :: dz 18 [])), [(5, false, [pI, pS, .pv (.sl .str), pI, pI, .pv (.sl .q)]), (26, true, [.pv (.sl .str), .pv Y16, .pv Y2, .pv Y4])]⟩
def i_scores_m (N : Nat) (B : List Z0) (t : List Z4) (d : List Z2) (C : List Z1) (y : Int) (u : List UInt8) (v : List Z0) (z : Int) (w : Int) (A : List DQ) : Option (Z5) :=
 (oB (i_SegOk_m N B t d C) fun E => bif !E then some ([] : Z6) else oB (i_QueryOk_m N y u v z w A) fun G => bif !G then some ([] : Z6) else iter (fun x (c, q, n, a, j, f, p, l, i, e, k, r, h, o) => bif decide (a < n) then oB (idx q a) fun b => (oB (i_scorer_score_m N N ((k, r), h, o) j f p l i e b.1 b.2.1 b.2.2) fun m => bif decide ((0 : Int) < m) then if room c.length ([(b.1, m)] : Z6).length 16 then if fits (a + 1) then x ((c ++ ([(b.1, m)] : Z6)), q, n, (a + 1), j, f, p, l, i, e, k, r, h, o) else none else none else if fits (a + 1) then x (c, q, n, (a + 1), j, f, p, l, i, e, k, r, h, o) else none) else some c) N (([] : Z6), d, (d.length : Int), (0 : Int), y, u, v, z, w, A, B, t, d, C))
theorem jBc (N : Nat) : mK 66 ⟨⟨[.agg [.pv (.sl .str), .pv Y16], .agg [.pv Y2, .pv Y4], .agg [pI, pS, .pv (.sl .str), pI, pI, .pv (.sl .q)]], []⟩, ⟨[.own 1 Y14 69 true], []⟩, c10A (i_scores_m N)⟩ :=
 mO (fC (joa N) (fC (jCN N) (fC (jzy N N) ja))) Tryz.func66 rfl N (.seq .no (.seq .no (.seq .no (.seq .no (.seq (.seq .no (.block (.loop jBM .no))) .no))))) _
def jnU : Sh := ⟨pI :: .dead :: .dead :: pS :: dz 16 [], []⟩
def jr (N : Nat) (c : Int) : Option (Z0) :=
 (bif decide (c ≤ 0) then some ([109, 48] : List UInt8) else iter (fun d (a, b) => bif decide ((0 : Int) < a) then if 10 ≠ 0 then if fits (48 + (a.tmod 10)) then if (bytesOf ([(IntKind.u8.wrap (48 + (a.tmod 10)))] : List Int)).length + b.length ≤ 9223372036854775807 then if 10 ≠ 0 then if fits (a.tdiv 10) then d ((a.tdiv 10), ((bytesOf ([(IntKind.u8.wrap (48 + (a.tmod 10)))] : List Int)) ++ b)) else none else none else none else none else none else if ([109] : List UInt8).length + b.length ≤ 9223372036854775807 then some (([109] : List UInt8) ++ b) else none) N (c, ([] : List UInt8)))
theorem jaz (N : Nat) : mK 117 ⟨⟨[pI], []⟩, ⟨[pS], []⟩, c1A (jr N)⟩ :=
 mO ja Tryz.func117 rfl N (.seq .no (.seq .no (.seq .no (.seq (.block (.loop jnU .no)) .no)))) _
def jol : Sh := ⟨.mtk 800000 .str 9 true :: pI :: dz 3 (pI :: dz 14 []), []⟩
def jas (N : Nat) (h : List Z0) (e : Int) : Option (Int × (List Z0)) :=
 (iter (fun d (b, c, a) => bif decide (a < (b.length : Int)) then oB (jr N c) fun i => (if 0 ≤ a ∧ a < (b.length : Int) then oB (b[a.toNat]?) fun j => (if fits (c + 1) then if fits (a + 1) then d ((b.set a.toNat i), (c + 1), (a + 1)) else none else none) else none) else some (c, b)) N (h, e, (0 : Int)))
theorem jdf (N : Nat) : mK 67 ⟨⟨[.mtk 800000 .str 9 true, pI], []⟩, ⟨[pI, .mtk 800000 .str 9 true], []⟩, c2A (jas N)⟩ :=
 mO (fC (jaz N) ja) Tryz.func67 rfl N (.seq .no (.seq (.seq .no (.block (.loop jol .no))) .no)) _ (rs := [800000])
def jq1 : Sh := ⟨.tre 800000 Y18 144 :: pI :: dz 3 (pI :: dz 22 []), []⟩
def jbZ (N : Nat) (k : List Z4) (h : Int) : Option (Int × (List Z4)) :=
 (iter (fun e (b, d, a) => bif decide (a < (b.length : Int)) then if 0 ≤ a ∧ a < (b.length : Int) then oB (b[a.toNat]?) fun l => (oB (jas N l.1 d) fun c => oB (jr N c.1) fun j => if 0 ≤ a ∧ a < (b.length : Int) then oB (b[a.toNat]?) fun m => (if fits (c.1 + 1) then if fits (a + 1) then e (((b.set a.toNat (m.1, j)).modify a.toNat fun f => (c.2, f.2)), (c.1 + 1), (a + 1)) else none else none) else none) else none else some (d, b)) N (k, h, (0 : Int)))
theorem jqK (N : Nat) : mK 68 ⟨⟨[.tre 800000 Y18 144, pI], []⟩, ⟨[pI, .tre 800000 Y18 144], []⟩, c2A (jbZ N)⟩ :=
 mO (fC (jdf N) (fC (jaz N) ja)) Tryz.func68 rfl N (.seq .no (.seq (.seq .no (.block (.loop jq1 .no))) .no)) _ (rs := [800000])
def jb0 (N : Nat) (c : List Z0) (d : List Z4) (e : Int) : Option (Int × (List Z0) × (List Z4)) :=
 (oB (jas N c e) fun b => oB (jbZ N d b.1) fun a => some (a.1, b.2, a.2))
theorem jrd (N : Nat) : mK 23 ⟨⟨[.agg [.mtk 800000 .str 9 true, .tre 800001 Y18 144], pI], []⟩, ⟨[pI, .mtk 800000 .str 9 true, .tre 800001 Y18 144], []⟩, c3A (jb0 N)⟩ :=
 mO (fC (jdf N) (fC (jqK N) ja)) Tryz.func23 rfl N .no _ (rs := [800000, 800001])
def jrq : Sh := ⟨.mtk 800000 Y20 199 true :: pI :: dz 3 (pI :: dz 23 []), []⟩
def jbW (N : Nat) (k : Z16) (h : Int) : Option (Int × Z13) :=
 (iter (fun f (b, c, a) => bif decide (a < (b.length : Int)) then oB (jr N c) fun d => (if 0 ≤ a ∧ a < (b.length : Int) then oB (b[a.toNat]?) fun e => (if fits (c + 1) then oB (jr N (c + 1)) fun j => (if 0 ≤ a ∧ a < ((b.set a.toNat (d, e.2)).length : Int) then oB ((b.set a.toNat (d, e.2))[a.toNat]?) fun l => (if fits ((c + 1) + 1) then if fits (a + 1) then f (((b.set a.toNat (d, e.2)).set a.toNat (l.1, j)), ((c + 1) + 1), (a + 1)) else none else none) else none) else none) else none) else some (c, b)) N (k, h, (0 : Int)))
theorem jo0 (N : Nat) : mK 118 ⟨⟨[.mtk 800000 Y20 199 true, pI], []⟩, ⟨[pI, .mtk 800000 Y20 199 true], []⟩, c2A (jbW N)⟩ :=
 mO (fC (jaz N) ja) Tryz.func118 rfl N (.seq .no (.seq (.seq .no (.block (.loop jrq .no))) .no)) _ (rs := [800000])
def js9 : Sh := ⟨.mtk 800000 Y17 192 true :: pI :: dz 3 (pI :: dz 22 []), []⟩
def jbP (N : Nat) (j : Z9) (h : Int) : Option (Int × Z7) :=
 (iter (fun f (b, c, a) => bif decide (a < (b.length : Int)) then oB (jr N c) fun d => (if 0 ≤ a ∧ a < (b.length : Int) then oB (b[a.toNat]?) fun e => (if fits (c + 1) then if 0 ≤ a ∧ a < ((b.set a.toNat (d, e.2)).length : Int) then oB ((b.set a.toNat (d, e.2))[a.toNat]?) fun k => (if fits ((c + 1) + 1) then if fits (a + 1) then f (((b.set a.toNat (d, e.2)).set a.toNat (k.1, (c + 1))), ((c + 1) + 1), (a + 1)) else none else none) else none else none) else none) else some (c, b)) N (j, h, (0 : Int)))
theorem js2 (N : Nat) : mK 119 ⟨⟨[.mtk 800000 Y17 192 true, pI], []⟩, ⟨[pI, .mtk 800000 Y17 192 true], []⟩, c2A (jbP N)⟩ :=
 mO (fC (jaz N) ja) Tryz.func119 rfl N (.seq .no (.seq (.seq .no (.block (.loop js9 .no))) .no)) _ (rs := [800000])
def jml : Sh := ⟨.tre 800000 Y3 88 :: pI :: dz 3 (pI :: dz 28 []), []⟩
def jb4 (N : Nat) (n : List Z2) (k : Int) : Option (Int × (List Z2)) :=
 (iter (fun j (b, c, a) => bif decide (a < (b.length : Int)) then if 0 ≤ a ∧ a < (b.length : Int) then oB (b[a.toNat]?) fun d => (if fits (c + 1) then if 0 ≤ a ∧ a < ((b.set a.toNat (c, d.2)).length : Int) then oB ((b.set a.toNat (c, d.2))[a.toNat]?) fun o => (oB (jbW N o.2.1 (c + 1)) fun h => if 0 ≤ a ∧ a < ((b.set a.toNat (c, d.2)).length : Int) then oB ((b.set a.toNat (c, d.2))[a.toNat]?) fun m => (oB (jbP N m.2.2 h.1) fun f => if fits (a + 1) then j ((((b.set a.toNat (c, d.2)).modify a.toNat fun i => (i.1, i.2.1, f.2)).modify a.toNat fun e => (e.1, h.2, e.2.2)), f.1, (a + 1)) else none) else none) else none else none) else none else some (c, b)) N (n, k, (0 : Int)))
theorem jnb (N : Nat) : mK 69 ⟨⟨[.tre 800000 Y3 88, pI], []⟩, ⟨[pI, .tre 800000 Y3 88], []⟩, c2A (jb4 N)⟩ :=
 mO (fC (jo0 N) (fC (js2 N) ja)) Tryz.func69 rfl N (.seq .no (.seq (.seq .no (.block (.loop jml .no))) .no)) _ (rs := [800000])
def jl9 : Sh := ⟨.mtk 800000 tI 3 true :: pI :: dz 3 (pI :: dz 13 []), []⟩
def jco (N : Nat) (h : List Int) (e : Int) : Option (Int × (List Int)) :=
 (iter (fun d (b, c, a) => bif decide (a < (b.length : Int)) then if 0 ≤ a ∧ a < (b.length : Int) then oB (b[a.toNat]?) fun i => (if fits (c + 1) then if fits (a + 1) then d ((b.set a.toNat c), (c + 1), (a + 1)) else none else none) else none else some (c, b)) N (h, e, (0 : Int)))
theorem jr1 (N : Nat) : mK 26 ⟨⟨[.mtk 800000 tI 3 true, pI], []⟩, ⟨[pI, .mtk 800000 tI 3 true], []⟩, c2A (jco N)⟩ :=
 mO ja Tryz.func26 rfl N (.seq .no (.seq (.seq .no (.block (.loop jl9 .no))) .no)) _ (rs := [800000])
def jnn : Sh := ⟨.tre 800000 Y12 175 :: pI :: dz 3 (pI :: dz 21 []), []⟩
def jcm (N : Nat) (k : Z3) (h : Int) : Option (Int × Z12) :=
 (iter (fun f (b, c, a) => bif decide (a < (b.length : Int)) then if 0 ≤ a ∧ a < (b.length : Int) then oB (b[a.toNat]?) fun d => (if fits (c + 1) then if 0 ≤ a ∧ a < ((b.set a.toNat (c, d.2)).length : Int) then oB ((b.set a.toNat (c, d.2))[a.toNat]?) fun l => (oB (jco N l.2 (c + 1)) fun e => if fits (a + 1) then f (((b.set a.toNat (c, d.2)).modify a.toNat fun i => (i.1, e.2)), e.1, (a + 1)) else none) else none else none) else none else some (c, b)) N (k, h, (0 : Int)))
theorem jrg (N : Nat) : mK 120 ⟨⟨[.tre 800000 Y12 175, pI], []⟩, ⟨[pI, .tre 800000 Y12 175], []⟩, c2A (jcm N)⟩ :=
 mO (fC (jr1 N) ja) Tryz.func120 rfl N (.seq .no (.seq (.seq .no (.block (.loop jnn .no))) .no)) _ (rs := [800000])
def jkI : Sh := ⟨.tre 800000 Y5 136 :: pI :: dz 3 (pI :: dz 30 []), []⟩
def jcD (N : Nat) (n : List Z1) (l : Int) : Option (Int × (List Z1)) :=
 (iter (fun k (b, c, a) => bif decide (a < (b.length : Int)) then oB (jr N c) fun e => (if 0 ≤ a ∧ a < (b.length : Int) then oB (b[a.toNat]?) fun f => (if fits (c + 1) then oB (jr N (c + 1)) fun h => (if 0 ≤ a ∧ a < ((b.set a.toNat (e, f.2)).length : Int) then oB ((b.set a.toNat (e, f.2))[a.toNat]?) fun d => (if fits ((c + 1) + 1) then if 0 ≤ a ∧ a < (((b.set a.toNat (e, f.2)).set a.toNat (d.1, h, d.2.2)).length : Int) then oB (((b.set a.toNat (e, f.2)).set a.toNat (d.1, h, d.2.2))[a.toNat]?) fun m => (oB (jcm N m.2.2 ((c + 1) + 1)) fun i => if fits (a + 1) then k ((((b.set a.toNat (e, f.2)).set a.toNat (d.1, h, d.2.2)).modify a.toNat fun j => (j.1, j.2.1, i.2)), i.1, (a + 1)) else none) else none else none) else none) else none) else none) else some (c, b)) N (n, l, (0 : Int)))
theorem jlr (N : Nat) : mK 70 ⟨⟨[.tre 800000 Y5 136, pI], []⟩, ⟨[pI, .tre 800000 Y5 136], []⟩, c2A (jcD N)⟩ :=
 mO (fC (jaz N) (fC (jrg N) ja)) Tryz.func70 rfl N (.seq .no (.seq (.seq .no (.block (.loop jkI .no))) .no)) _ (rs := [800000])
def jbM (N : Nat) (c : List Z2) (d : List Z1) (e : Int) : Option (Int × (List Z2) × (List Z1)) :=
 (oB (jb4 N c e) fun b => oB (jcD N d b.1) fun a => some (a.1, b.2, a.2))
theorem jnS (N : Nat) : mK 24 ⟨⟨[.agg [.tre 800000 Y3 88, .tre 800001 Y5 136], pI], []⟩, ⟨[pI, .tre 800000 Y3 88, .tre 800001 Y5 136], []⟩, c3A (jbM N)⟩ :=
 mO (fC (jnb N) (fC (jlr N) ja)) Tryz.func24 rfl N .no _ (rs := [800000, 800001])
def jCg : Sh := ⟨.tre 800000 .q 48 :: pI :: dz 3 (pI :: dz 50 []), []⟩
def jxQ (N : Nat) : (D : Nat) → (List DQ) → Int → Option (Int × (List DQ))
 | 0, _, _ => none
 | D + 1, a, k =>
 iter (fun go (g : (List DQ) × Int × Int) =>
 match g with
 | (a2, k2, i) =>
 bif decide (i < (a2.length : Int)) then
 if 0 ≤ i ∧ i < (a2.length : Int) then
 oB (a2[i.toNat]?) fun e =>
 (if fits (k2 + 1) then oB (jr N (k2 + 1)) fun r =>
 (if 0 ≤ i ∧ i < ((a2.set i.toNat (DQ.mk k2 e.field e.words e.lo e.hi e.kids)).length : Int) then
 oB ((a2.set i.toNat (DQ.mk k2 e.field e.words e.lo e.hi e.kids))[i.toNat]?) fun e2 =>
 (if fits ((k2 + 1) + 1) then if 0 ≤ i ∧ i < (((a2.set i.toNat (DQ.mk k2 e.field e.words e.lo e.hi e.kids)).set i.toNat (DQ.mk e2.kind r e2.words e2.lo e2.hi e2.kids)).length : Int) then
 oB (((a2.set i.toNat (DQ.mk k2 e.field e.words e.lo e.hi e.kids)).set i.toNat (DQ.mk e2.kind r e2.words e2.lo e2.hi e2.kids))[i.toNat]?) fun e3 =>
 (oB (jas N e3.words ((k2 + 1) + 1)) fun r2 =>
 if 0 ≤ i ∧ i < (((a2.set i.toNat (DQ.mk k2 e.field e.words e.lo e.hi e.kids)).set i.toNat (DQ.mk e2.kind r e2.words e2.lo e2.hi e2.kids)).length : Int) then
 oB (((a2.set i.toNat (DQ.mk k2 e.field e.words e.lo e.hi e.kids)).set i.toNat (DQ.mk e2.kind r e2.words e2.lo e2.hi e2.kids))[i.toNat]?) fun e4 =>
 (if fits (r2.1 + 1) then if 0 ≤ i ∧ i < ((((a2.set i.toNat (DQ.mk k2 e.field e.words e.lo e.hi e.kids)).set i.toNat (DQ.mk e2.kind r e2.words e2.lo e2.hi e2.kids)).set i.toNat (DQ.mk e4.kind e4.field e4.words r2.1 e4.hi e4.kids)).length : Int) then
 oB ((((a2.set i.toNat (DQ.mk k2 e.field e.words e.lo e.hi e.kids)).set i.toNat (DQ.mk e2.kind r e2.words e2.lo e2.hi e2.kids)).set i.toNat (DQ.mk e4.kind e4.field e4.words r2.1 e4.hi e4.kids))[i.toNat]?) fun e5 =>
 (if fits ((r2.1 + 1) + 1) then if 0 ≤ i ∧ i < (((((a2.set i.toNat (DQ.mk k2 e.field e.words e.lo e.hi e.kids)).set i.toNat (DQ.mk e2.kind r e2.words e2.lo e2.hi e2.kids)).set i.toNat (DQ.mk e4.kind e4.field e4.words r2.1 e4.hi e4.kids)).set i.toNat (DQ.mk e5.kind e5.field e5.words e5.lo (r2.1 + 1) e5.kids)).length : Int) then
 oB (((((a2.set i.toNat (DQ.mk k2 e.field e.words e.lo e.hi e.kids)).set i.toNat (DQ.mk e2.kind r e2.words e2.lo e2.hi e2.kids)).set i.toNat (DQ.mk e4.kind e4.field e4.words r2.1 e4.hi e4.kids)).set i.toNat (DQ.mk e5.kind e5.field e5.words e5.lo (r2.1 + 1) e5.kids))[i.toNat]?) fun e6 =>
 (oB (jxQ N D e6.kids ((r2.1 + 1) + 1)) fun r3 =>
 if fits (i + 1) then go (((((((a2.set i.toNat (DQ.mk k2 e.field e.words e.lo e.hi e.kids)).set i.toNat (DQ.mk e2.kind r e2.words e2.lo e2.hi e2.kids)).set i.toNat (DQ.mk e4.kind e4.field e4.words r2.1 e4.hi e4.kids)).set i.toNat (DQ.mk e5.kind e5.field e5.words e5.lo (r2.1 + 1) e5.kids)).modify i.toNat fun y3 => DQ.mk y3.kind y3.field y3.words y3.lo y3.hi r3.2).modify i.toNat fun y4 => DQ.mk y4.kind y4.field r2.2 y4.lo y4.hi y4.kids), r3.1, (i + 1)) else none)
 else none else none)
 else none else none)
 else none)
 else none else none)
 else none) else none)
 else none
 else
 some (k2, a2)) N (a, k, 0)
def jyx (N D : Nat) : Model := ⟨⟨[.tre 800000 .q 48, pI], []⟩, ⟨[pI, .tre 800000 .q 48], []⟩, c2A (jxQ N D)⟩
theorem jDO (N D : Nat) (ih : mK 71 (jyx N D)) : mK 71 (jyx N (D + 1)) :=
 mO (fC ih (fC (jaz N) (fC (jdf N) ja))) Tryz.func71 rfl N (.seq .no (.seq (.seq .no (.block (.loop jCg .no))) .no)) (jyx N (D + 1)) (rs := [800000])
theorem jy0 (N : Nat) : ∀ D, mK 71 (jyx N D)
 | 0 => modelOk_none ⟨_, Tryz.func71, by decide, by kernel_rfl⟩ _ (fun a => rfl)
 | D + 1 => jDO N D (jy0 N D)
def l_markQuery_m (N : Nat) (i : Int) (f : List UInt8) (e : List Z0) (j : Int) (h : Int) (c : List DQ) (d : Int) : Option (Int × (List Z0) × (List DQ)) :=
 (oB (jas N e d) fun b => oB (jxQ N N c b.1) fun a => some (a.1, b.2, a.2))
theorem jBD (N : Nat) : mK 25 ⟨⟨[.agg [pI, pS, .mtk 800002 .str 9 true, pI, pI, .tre 800005 .q 48], pI], []⟩, ⟨[pI, .mtk 800002 .str 9 true, .tre 800005 .q 48], []⟩, c7A (l_markQuery_m N)⟩ :=
 mO (fC (jdf N) (fC (jy0 N N) ja)) Tryz.func25 rfl N .no _ (rs := [800002, 800005])
def jx8 (N : Nat) (d : Int) (a : Int) (c : Int) (b : Int) : Z8 :=
 (bif decide (b < a) then some true else bif decide (a = b) then some (decide (d < c)) else some false)
theorem jw8 (N : Nat) : mK 77 ⟨⟨[.agg [pI, pI], .agg [pI, pI]], []⟩, ⟨[pB], []⟩, c4A (jx8 N)⟩ :=
 mO ja Tryz.func77 rfl N .no _
def jwc : Sh := ⟨.pv Y13 :: .dead :: pI :: .dead :: .box 4 0 :: .dead :: .dead :: pI :: dz 37 [], [(4, false, [pI, pI])]⟩
def s_l13Push_m (N : Nat) (l : Z6) (t : Int) (o : Int) (r : Int) : Option (Z5) :=
 (iter (fun m (c, h, d, a, b) => bif decide (d < (c.length : Int)) then oB (idx c d) fun k => (oB (jx8 N k.1 k.2 a b) fun p => bif p then if fits (d + 1) then m (c, h, (d + 1), a, b) else none else oB (cut c 0 d) fun e => if room ([] : Z6).length e.length 16 then if room (([] : Z6) ++ e).length ([(a, b)] : Z6).length 16 then oB (cut c d (c.length : Int)) fun j => (if room ((([] : Z6) ++ e) ++ ([(a, b)] : Z6)).length j.length 16 then bif decide (h < ((((([] : Z6) ++ e) ++ ([(a, b)] : Z6)) ++ j).length : Int)) then oB (cut (((([] : Z6) ++ e) ++ ([(a, b)] : Z6)) ++ j) 0 h) fun q => (some q) else (some (((([] : Z6) ++ e) ++ ([(a, b)] : Z6)) ++ j)) else none) else none else none) else oB (cut c 0 d) fun f => if room ([] : Z6).length f.length 16 then if room (([] : Z6) ++ f).length ([(a, b)] : Z6).length 16 then oB (cut c d (c.length : Int)) fun i => (if room ((([] : Z6) ++ f) ++ ([(a, b)] : Z6)).length i.length 16 then bif decide (h < ((((([] : Z6) ++ f) ++ ([(a, b)] : Z6)) ++ i).length : Int)) then oB (cut (((([] : Z6) ++ f) ++ ([(a, b)] : Z6)) ++ i) 0 h) fun u => (some u) else (some (((([] : Z6) ++ f) ++ ([(a, b)] : Z6)) ++ i)) else none) else none else none) N (l, r, (0 : Int), t, o))
theorem jwx (N : Nat) : mK 78 ⟨⟨[.pv Y13, .agg [pI, pI], pI], []⟩, ⟨[.own 1 Y14 69 true], []⟩, c4A (s_l13Push_m N)⟩ :=
 mO (fC (jw8 N) ja) Tryz.func78 rfl N (.seq .no (.seq .no (.seq (.block (.loop jwc .no)) .no))) _ (wr := [23, 26, 27, 30, 31, 35, 36, 43])
def jCE : Sh := ⟨dz 3 (pI :: .box 4 0 :: .box 5 0 :: .box 6 0 :: .dead :: .dead :: .own 600009 Y14 69 true :: pI :: dz 33 []), [(4, false, [.pv (.sl .str), .pv Y16]), (5, false, [.pv Y2, .pv Y4]), (6, false, [pI, pS, .pv (.sl .str), pI, pI, .pv (.sl .q)])]⟩
def s_l13Top_m (N : Nat) (E : List Z0) (q : List Z4) (D : List Z2) (G : List Z1) (w : Int) (r : List UInt8) (t : List Z0) (A : Int) (u : Int) (C : List DQ) (y : Int) : Option (Z5) :=
 (iter (fun o (j, k, a, c, h, b, l, e, d, n, i, f, m) => bif decide (a < (b.length : Int)) then oB (idx b a) fun x => (oB (s_l12Score_m N N c h b l e d n i f m x.1) fun p => bif decide ((0 : Int) < p) then oB (idx b a) fun z => (oB (s_l13Push_m N k z.1 p j) fun B => if fits (a + 1) then o (j, B, (a + 1), c, h, b, l, e, d, n, i, f, m) else none) else if fits (a + 1) then o (j, k, (a + 1), c, h, b, l, e, d, n, i, f, m) else none) else some k) N (y, ([] : Z6), (0 : Int), E, q, D, G, w, r, t, A, u, C))
theorem jBA (N : Nat) : mK 73 ⟨⟨[.agg [.pv (.sl .str), .pv Y16], .agg [.pv Y2, .pv Y4], .agg [pI, pS, .pv (.sl .str), pI, pI, .pv (.sl .q)], pI], []⟩, ⟨[.own 1 Y14 69 true], []⟩, c11A (s_l13Top_m N)⟩ :=
 mO (fC (jz7 N N) (fC (jwx N) ja)) Tryz.func73 rfl N (.seq .no (.seq .no (.seq (.seq .no (.block (.loop jCE .no))) .no))) _
def jxY (N : Nat) (b : Int) (a : Int) : Z11 :=
 (oB (jxH N b) fun d => oB (jxH N a) fun c => bif d then bif c then some 0 else (some (-1)) else bif c then some 1 else bif decide (b < a) then some (-1) else bif decide (a < b) then some 1 else some 0)
theorem jpP (N : Nat) : mK 123 ⟨⟨[pI, pI], []⟩, ⟨[pI], []⟩, c2A (jxY N)⟩ :=
 mO (fC (joK N) ja) Tryz.func123 rfl N .no _
def jx4 (N : Nat) (e : Int) (b : Int) (a : Int) (h : Int) : Z11 :=
 (oB (jxY N h b) fun f => oB (jxY N e a) fun d => oB (jbe N ([f, d] : List Int)) fun c => some c)
theorem jvi (N : Nat) : mK 79 ⟨⟨[.agg [pI, pI], .agg [pI, pI]], []⟩, ⟨[pI], []⟩, c4A (jx4 N)⟩ :=
 mO (fC (jpP N) (fC (jhC N) ja)) Tryz.func79 rfl N .no _
def cmp454 (N : Nat) : (Unit) → (Int × Int) → (Int × Int) → Option Int := (fun (cmp : Unit) (e e2 : Int × Int) => jx4 N e.1 e.2 e2.1 e2.2)
def jwq : Sh := ⟨.mtk 800000 Y14 69 true :: pI :: pI :: .clo 79 [] :: dz 4 (pI :: dz 44 []), []⟩
def jwI : Sh := ⟨.mtk 800000 Y14 69 true :: pI :: pI :: .clo 79 [] :: dz 4 (pI :: pI :: dz 43 []), []⟩
def jvU (N : Nat) (d : Z6) (b : Int) (a : Int) (c : Unit) : Option (Z5) := insG (cmp454 N) N d b a c
 
theorem jwF (N : Nat) : mK 222 ⟨⟨[.mtk 800000 Y14 69 true, pI, pI, .clo 79 []], []⟩, ⟨[.tup [], .mtk 800000 Y14 69 true], []⟩, c4A (jvU N)⟩ :=
 mO (fC (jvi N) ja) Tryz.func222 rfl N (.seq .no (.block (.loop jwq (.seq .no (.seq (.block (.seq .no (.block (.loop jwI .no)))) .no))))) _ (rs := [800000])
def jv5 : Sh := ⟨.mtk 800000 Y14 69 true :: .dead :: pI :: pI :: .clo 79 [] :: dz 5 (pI :: dz 71 []), []⟩
def jwh : Sh := ⟨.mtk 800000 Y14 69 true :: .dead :: pI :: pI :: .clo 79 [] :: dz 5 (pI :: pI :: dz 70 []), []⟩
def jvp (N : Nat) (e : Z6) (d : Int) (a : Int) (b : Int) (c : Unit) : Option (Z5) := siftG (cmp454 N) N e d a b c
 
theorem jwd (N : Nat) : mK 254 ⟨⟨[.mtk 800000 Y14 69 true, pI, pI, pI, .clo 79 []], []⟩, ⟨[.tup [], .mtk 800000 Y14 69 true], []⟩, c5A (jvp N)⟩ :=
 mO (fC (jvi N) ja) Tryz.func254 rfl N (.seq .no (.block (.loop jv5 (.block (.seq .no (.seq .no (.meet jwh .no .no))))))) _ (rs := [800000])
def jwy : Sh := ⟨.mtk 800000 Y14 69 true :: .dead :: .dead :: .clo 79 [] :: dz 4 (pI :: pI :: pI :: pI :: dz 48 []), []⟩
def jwM : Sh := ⟨.mtk 800000 Y14 69 true :: .dead :: .dead :: .clo 79 [] :: dz 4 (pI :: pI :: .dead :: .dead :: pI :: dz 47 []), []⟩
def jvj (N : Nat) (d : Z6) (b : Int) (a : Int) (c : Unit) : Option (Z5) := heapG (cmp454 N) N d b a c
 
theorem jwr (N : Nat) : mK 223 ⟨⟨[.mtk 800000 Y14 69 true, pI, pI, .clo 79 []], []⟩, ⟨[.tup [], .mtk 800000 Y14 69 true], []⟩, c4A (jvj N)⟩ :=
 mO (fC (jwd N) ja) Tryz.func223 rfl N (.seq .no (.seq .no (.seq .no (.seq (.seq .no (.block (.loop jwy .no))) (.seq .no (.block (.loop jwM .no))))))) _ (rs := [800000])
def jw2 : Sh := ⟨.mtk 800000 Y14 69 true :: pI :: dz 6 (pI :: .box 9 0 :: .pv (.int .u64) :: pI :: dz 55 []), [(9, false, [.pv (.int .u64)])]⟩
def jw5 : Sh := ⟨.mtk 800000 Y14 69 true :: pI :: dz 6 (pI :: .box 9 0 :: .pv (.int .u64) :: pI :: pI :: dz 54 []), [(9, false, [.pv (.int .u64)])]⟩
def jvw (N : Nat) (d : Z6) (b : Int) (a : Int) (c : Unit) : Option (Z5) := breakG N d b a c
 
theorem jwR (N : Nat) : mK 224 ⟨⟨[.mtk 800000 Y14 69 true, pI, pI, .clo 79 []], []⟩, ⟨[.tup [], .mtk 800000 Y14 69 true], []⟩, c4A (jvw N)⟩ :=
 mO (fC (jhv N) (fC (jet N) ja)) Tryz.func224 rfl N (.seq .no (.seq .no (.cond (.seq .no (.seq .no (.seq .no (.block (.loop jw2 (.seq .no (.seq (.block (.seq .no (.meet jw5 .no .no))) .no))))))) .no))) _ (rs := [800000])
def jvl (N : Nat) (d : Z6) (b : Int) (a : Int) (c : Unit) (e : Int) : Option (Int × Int × Z5 × Int) := order2G (cmp454 N) N d b a c e
 
theorem jwG (N : Nat) : mK 267 ⟨⟨[.mtk 800000 Y14 69 true, pI, pI, .box 900003 0, .clo 79 []], [(900003, false, [pI])]⟩, ⟨[.tup [pI, pI], .mtk 800000 Y14 69 true], [(900003, false, [pI])]⟩, c5A (jvl N)⟩ :=
 mO (fC (jvi N) ja) Tryz.func267 rfl N .no _ (rs := [900003, 800000])
def jvr (N : Nat) (e : Z6) (b : Int) (a : Int) (d : Int) (c : Unit) (f : Int) : Option (Int × Z5 × Int) := medianG (cmp454 N) N e b a d c f
 
theorem jvO (N : Nat) : mK 258 ⟨⟨[.mtk 800000 Y14 69 true, pI, pI, pI, .box 900004 0, .clo 79 []], [(900004, false, [pI])]⟩, ⟨[pI, .mtk 800000 Y14 69 true], [(900004, false, [pI])]⟩, c6A (jvr N)⟩ :=
 mO (fC (jwG N) ja) Tryz.func258 rfl N .no _ (rs := [900004, 800000])
def jvm (N : Nat) (d : Z6) (b : Int) (c : Unit) (a : Int) : Option (Int × Z5 × Int) := medianAdjacentG (cmp454 N) N d b c a
 
theorem jwj (N : Nat) : mK 257 ⟨⟨[.mtk 800000 Y14 69 true, pI, .box 900002 0, .clo 79 []], [(900002, false, [pI])]⟩, ⟨[pI, .mtk 800000 Y14 69 true], [(900002, false, [pI])]⟩, c4A (jvm N)⟩ :=
 mO (fC (jvO N) ja) Tryz.func257 rfl N .no _ (rs := [900002, 800000])
def jwt : Sh := ⟨.mtk 800000 Y14 69 true :: .dead :: .dead :: .clo 79 [] :: dz 7 (.box 11 0 :: pI :: pI :: pI :: dz 48 []), [(11, false, [pI])]⟩
def jwK : Sh := ⟨.mtk 800000 Y14 69 true :: dz 10 (.box 11 0 :: .dead :: pI :: dz 49 []), [(11, false, [pI])]⟩
def jvA (N : Nat) (d : Z6) (b : Int) (a : Int) (c : Unit) : Option (Int × Int × Z5) := choosePivotG (cmp454 N) N d b a c
 
theorem jwf (N : Nat) : mK 225 ⟨⟨[.mtk 800000 Y14 69 true, pI, pI, .clo 79 []], []⟩, ⟨[.tup [pI, pI], .mtk 800000 Y14 69 true], []⟩, c4A (jvA N)⟩ :=
 mO (fC (jwj N) (fC (jvO N) ja)) Tryz.func225 rfl N (.seq .no (.seq .no (.seq .no (.seq .no (.seq .no (.seq .no (.meet jwK (.seq .no (.cond (.meet jwt .no .no) .no)) .no))))))) _ (rs := [800000])
def jv2 : Sh := ⟨.mtk 800000 Y14 69 true :: dz 7 (pI :: pI :: dz 24 []), []⟩
def jvJ (N : Nat) (d : Z6) (b : Int) (a : Int) (c : Unit) : Option (Z5) := reverseRangeG N d b a c
 
theorem jwz (N : Nat) : mK 226 ⟨⟨[.mtk 800000 Y14 69 true, pI, pI, .clo 79 []], []⟩, ⟨[.tup [], .mtk 800000 Y14 69 true], []⟩, c4A (jvJ N)⟩ :=
 mO ja Tryz.func226 rfl N (.seq .no (.seq .no (.block (.loop jv2 .no)))) _ (rs := [800000])
def jw7 : Sh := ⟨.mtk 800000 Y14 69 true :: pI :: pI :: .clo 79 [] :: dz 5 (pI :: pI :: dz 130 []), []⟩
def jwp : Sh := ⟨.mtk 800000 Y14 69 true :: pI :: pI :: .clo 79 [] :: dz 5 (pI :: pI :: pI :: dz 129 []), []⟩
def jwY : Sh := ⟨.mtk 800000 Y14 69 true :: pI :: pI :: .clo 79 [] :: dz 5 (pI :: pI :: .dead :: pI :: dz 128 []), []⟩
def jvz (N : Nat) (d : Z6) (b : Int) (a : Int) (c : Unit) : Option (Bool × Z5) := pisG (cmp454 N) N d b a c
 
theorem jw4 (N : Nat) : mK 227 ⟨⟨[.mtk 800000 Y14 69 true, pI, pI, .clo 79 []], []⟩, ⟨[pB, .mtk 800000 Y14 69 true], []⟩, c4A (jvz N)⟩ :=
 mO (fC (jvi N) ja) Tryz.func227 rfl N (.seq .no (.seq .no (.seq (.seq .no (.block (.loop jw7 (.seq .no (.seq (.block (.seq (.block (.loop jw7 .no)) (.seq .no (.seq .no (.seq .no (.meet jw7 (.seq .no (.cond (.seq .no (.block (.loop jwp .no))) .no)) (.seq .no (.cond (.seq .no (.block (.loop jwY .no))) .no)))))))) .no))))) .no))) _ (rs := [800000])
def jws : Sh := ⟨.mtk 800000 Y14 69 true :: pI :: .dead :: .dead :: .clo 79 [] :: dz 6 (pI :: pI :: dz 77 []), []⟩
def jvo (N : Nat) (e : Z6) (b : Int) (a : Int) (c : Int) (d : Unit) : Option (Int × Z5) := peqG (cmp454 N) N e b a c d
 
theorem jwA (N : Nat) : mK 228 ⟨⟨[.mtk 800000 Y14 69 true, pI, pI, pI, .clo 79 []], []⟩, ⟨[pI, .mtk 800000 Y14 69 true], []⟩, c5A (jvo N)⟩ :=
 mO (fC (jvi N) ja) Tryz.func228 rfl N (.seq .no (.seq .no (.seq .no (.seq (.block (.loop jws (.block (.seq (.block (.loop jws .no)) (.seq (.block (.loop jws .no)) .no))))) .no)))) _ (rs := [800000])
def jwU : Sh := ⟨.mtk 800000 Y14 69 true :: pI :: .dead :: .dead :: .clo 79 [] :: dz 7 (pI :: pI :: dz 164 []), []⟩
def jvs (N : Nat) (e : Z6) (b : Int) (a : Int) (c : Int) (d : Unit) : Option (Int × Bool × Z5) := partG (cmp454 N) N e b a c d
 
theorem jv9 (N : Nat) : mK 229 ⟨⟨[.mtk 800000 Y14 69 true, pI, pI, pI, .clo 79 []], []⟩, ⟨[.tup [pI, pB], .mtk 800000 Y14 69 true], []⟩, c5A (jvs N)⟩ :=
 mO (fC (jvi N) ja) Tryz.func229 rfl N (.seq .no (.seq .no (.seq .no (.seq (.block (.loop jwU .no)) (.seq (.block (.loop jwU .no)) (.seq .no (.seq .no (.seq .no (.seq .no (.seq (.block (.loop jwU (.block (.seq (.block (.loop jwU .no)) (.seq (.block (.loop jwU .no)) .no))))) .no)))))))))) _ (rs := [800000])
def jwT : Sh := ⟨.mtk 800000 Y14 69 true :: pI :: pI :: pI :: .clo 79 [] :: dz 5 (pB :: pB :: dz 136 []), []⟩
def jwO : Sh := ⟨.mtk 800000 Y14 69 true :: pI :: pI :: pI :: .clo 79 [] :: dz 5 (pB :: pB :: pI :: pI :: dz 134 []), []⟩
def jwP : Sh := ⟨.mtk 800000 Y14 69 true :: pI :: pI :: pI :: .clo 79 [] :: dz 5 (pB :: pB :: pI :: pI :: pI :: dz 133 []), []⟩
def jwn : Sh := ⟨.mtk 800000 Y14 69 true :: pI :: pI :: pI :: .clo 79 [] :: dz 5 (pB :: pB :: pI :: dz 135 []), []⟩
def jvh (N D : Nat) (f : Z6) (b a limit : Int) (e : Unit) : Option (Z5) := pdqG (cmp454 N) (fun d b a c => heapG (cmp454 N) N d b a c) (fun d b a h c => peqG (cmp454 N) N d b a h c) N D f b a limit e
 
def jvn (N D : Nat) : Model := ⟨⟨[.mtk 800000 Y14 69 true, pI, pI, pI, .clo 79 []], []⟩, ⟨[.tup [], .mtk 800000 Y14 69 true], []⟩, c5A (jvh N D)⟩
theorem jwv (N D : Nat) (ih : mK 175 (jvn N D)) : mK 175 (jvn N (D + 1)) :=
 mO (fC ih (fC (jwF N) (fC (jwr N) (fC (jwR N) (fC (jwf N) (fC (jwz N) (fC (jw4 N) (fC (jvi N) (fC (jwA N) (fC (jv9 N) ja)))))))))) Tryz.func175 rfl N (.seq .no (.seq .no (.block (.loop jwT (.block (.seq .no (.seq .no (.seq .no (.meet jwn .no (.seq .no (.meet jwP .no (.meet jwO .no .no)))))))))))) (jvn N (D + 1)) (rs := [800000])
theorem jvI (N : Nat) : ∀ D, mK 175 (jvn N D)
 | 0 => modelOk_none ⟨_, Tryz.func175, by decide, by kernel_rfl⟩ _ (fun a => rfl)
 | D + 1 => jwv N D (jvI N D)
def k_slices_SortFunc_454_m (N : Nat) (a : Z6) (d : Unit) : Option (Z5) :=
 (oB (k_math_bits_Len_m N (IntKind.u64.wrap (a.length : Int))) fun c => oB (jvh N N a 0 (a.length : Int) c ()) fun b => some b)
theorem jwX (N : Nat) : mK 121 ⟨⟨[.mtk 800000 Y14 69 true, .clo 79 []], []⟩, ⟨[.tup [], .mtk 800000 Y14 69 true], []⟩, c2A (k_slices_SortFunc_454_m N)⟩ :=
 mO (fC (jda N) (fC (jvI N N) ja)) Tryz.func121 rfl N .no _ (rs := [800000])
def i_firstHits_m (N : Nat) (b : Z6) (d : Int) : Option (Z5) :=
 (if room ([] : Z6).length b.length 16 then oB (k_slices_SortFunc_454_m N (([] : Z6) ++ b) ()) fun a => (oB (cut a 0 (if d < (a.length : Int) then d else (a.length : Int))) fun c => if room ([] : Z6).length c.length 16 then some (([] : Z6) ++ c) else none) else none)
theorem jv7 (N : Nat) : mK 75 ⟨⟨[.pv Y13, pI], []⟩, ⟨[.own 1 Y14 69 true], []⟩, c2A (i_firstHits_m N)⟩ :=
 mO (fC (jwX N) ja) Tryz.func75 rfl N .no _ (wr := [6, 8, 11, 17, 18])
def jxc (N : Nat) (b : Int) (c : Int) (a : Int) (d : Int) : Z8 :=
 (bif !decide (b = a) then some false else bif !decide (c = d) then some false else some true)
theorem jxx (N : Nat) : mK 76 ⟨⟨[.agg [pI, pI], .agg [pI, pI]], []⟩, ⟨[pB], []⟩, c4A (jxc N)⟩ :=
 mO ja Tryz.func76 rfl N .no _
def jxv : Sh := ⟨.pv Y13 :: .pv Y13 :: dz 3 (pI :: dz 21 []), []⟩
def l_eqHitS_m (N : Nat) (d : Z6) (c : Z6) : Z8 :=
 (bif !decide ((d.length : Int) = (c.length : Int)) then some false else iter (fun i (b, f, a) => bif decide (a < (b.length : Int)) then oB (idx b a) fun e => (oB (idx f a) fun h => oB (jxc N e.1 e.2 h.1 h.2) fun k => bif !k then some false else if fits (a + 1) then i (b, f, (a + 1)) else none) else some true) N (d, c, (0 : Int)))
theorem jxo (N : Nat) : mK 30 ⟨⟨[.pv Y13, .pv Y13], []⟩, ⟨[pB], []⟩, c2A (l_eqHitS_m N)⟩ :=
 mO (fC (jxx N) ja) Tryz.func30 rfl N (.seq .no (.seq .no (.seq (.seq .no (.block (.loop jxv .no))) .no))) _
def jxr : Sh := ⟨.mtk 800000 Y14 69 true :: pI :: dz 3 (pI :: dz 21 []), []⟩
def jxf (N : Nat) (i : Z6) (f : Int) : Option (Int × Z5) :=
 (iter (fun e (c, b, a) => bif decide (a < (c.length : Int)) then if 0 ≤ a ∧ a < (c.length : Int) then oB (c[a.toNat]?) fun d => (if fits (b + 1) then if 0 ≤ a ∧ a < ((c.set a.toNat (b, d.2)).length : Int) then oB ((c.set a.toNat (b, d.2))[a.toNat]?) fun j => (if fits ((b + 1) + 1) then if fits (a + 1) then e (((c.set a.toNat (b, d.2)).set a.toNat (j.1, (b + 1))), ((b + 1) + 1), (a + 1)) else none else none) else none else none) else none else some (b, c)) N (i, f, (0 : Int)))
theorem jxq (N : Nat) : mK 31 ⟨⟨[.mtk 800000 Y14 69 true, pI], []⟩, ⟨[pI, .mtk 800000 Y14 69 true], []⟩, c2A (jxf N)⟩ :=
 mO ja Tryz.func31 rfl N (.seq .no (.seq (.seq .no (.block (.loop jxr .no))) .no)) _ (rs := [800000])
def jxn : Sh := ⟨.pv Y13 :: pI :: dz 3 (pI :: dz 25 []), []⟩
def jxd (N : Nat) (h : Z6) (e : Int) : Z11 :=
 (iter (fun d (c, a, b) => bif decide (b < (c.length : Int)) then oB (idx c b) fun i => (bif !decide (i.1 = a) then some (-1) else if fits (a + 1) then oB (idx c b) fun j => (bif !decide (j.2 = (a + 1)) then some (-1) else if fits ((a + 1) + 1) then if fits (b + 1) then d (c, ((a + 1) + 1), (b + 1)) else none else none) else none) else some a) N (h, e, (0 : Int)))
theorem jxt (N : Nat) : mK 32 ⟨⟨[.pv Y13, pI], []⟩, ⟨[pI], []⟩, c2A (jxd N)⟩ :=
 mO ja Tryz.func32 rfl N (.seq .no (.seq (.seq .no (.block (.loop jxn .no))) .no)) _
def jER : Sh := ⟨dz 3 (pI :: dz 5 (.own 600009 Y13 62 true :: .pv Y13 :: dz 39 [])), []⟩
def s_PageOf_m (N : Nat) (p : List Z0) (e : List Z4) (o : List Z2) (q : List Z1) (k : Int) (f : List UInt8) (i : List Z0) (m : Int) (j : Int) (n : List DQ) (d : Int) : Option ((List Z5)) :=
 (oB (s_l7Ok_m N p e o q) fun v => bif !v then some ([] : List Z5) else oB (s_l11Ok_m N k f i m j n) fun x => bif !x then some ([] : List Z5) else oB (jJ N d 1 16) fun w => bif !w then some ([] : List Z5) else oB (s_l13Top_m N p e o q k f i m j n 16) fun y => iter (fun r (l, c, a) => bif decide ((0 : Int) < (a.length : Int)) then oB (s_l5Min_m N l (a.length : Int)) fun h => (oB (cut a 0 h) fun b => if room ([] : Z6).length b.length 16 then if room c.length ([(([] : Z6) ++ b)] : List Z5).length 24 then oB (cut a h (a.length : Int)) fun t => (r (l, (c ++ ([(([] : Z6) ++ b)] : List Z5)), t)) else none else none) else some c) N (d, ([] : List Z5), y))
theorem jES (N : Nat) : mK 38 ⟨⟨[.agg [.pv (.sl .str), .pv Y16], .agg [.pv Y2, .pv Y4], .agg [pI, pS, .pv (.sl .str), pI, pI, .pv (.sl .q)], pI], []⟩, ⟨[.own 1 Y13 62 true], []⟩, c11A (s_PageOf_m N)⟩ :=
 mO (fC (jpm N) (fC (jBX N) (fC (jcL N) (fC (jBA N) (fC (jDQ N) ja))))) Tryz.func38 rfl N (.seq .no (.seq .no (.seq .no (.seq .no (.seq (.block (.loop jER .no)) .no))))) _
def jEP : Sh := ⟨dz 3 (pI :: dz 5 (.own 600009 Y13 62 true :: .own 600010 Y14 69 true :: pI :: dz 32 [])), []⟩
def i_PageOf_m (N : Nat) (v : List Z0) (h : List Z4) (u : List Z2) (w : List Z1) (n : Int) (i : List UInt8) (j : List Z0) (p : Int) (k : Int) (t : List DQ) (f : Int) : Option ((List Z5)) :=
 (oB (jm N f 1 16) fun o => bif !o then some ([] : List Z5) else oB (i_scores_m N v h u w n i j p k t) fun r => oB (i_firstHits_m N r 16) fun q => iter (fun l (b, e, c, a) => bif decide (a < (c.length : Int)) then if fits (a + b) then oB (cut c a (if (c.length : Int) < (a + b) then (c.length : Int) else a + b)) fun d => (if room ([] : Z6).length d.length 16 then if room e.length ([(([] : Z6) ++ d)] : List Z5).length 24 then if fits (a + b) then l (b, (e ++ ([(([] : Z6) ++ d)] : List Z5)), c, (a + b)) else none else none else none) else none else some e) N (f, ([] : List Z5), q, (0 : Int)))
theorem jEY (N : Nat) : mK 39 ⟨⟨[.agg [.pv (.sl .str), .pv Y16], .agg [.pv Y2, .pv Y4], .agg [pI, pS, .pv (.sl .str), pI, pI, .pv (.sl .q)], pI], []⟩, ⟨[.own 1 Y13 62 true], []⟩, c11A (i_PageOf_m N)⟩ :=
 mO (fC (jY N) (fC (jBc N) (fC (jv7 N) ja))) Tryz.func39 rfl N (.seq .no (.seq .no (.seq .no (.seq .no (.seq (.seq .no (.block (.loop jEP .no))) .no))))) _
def jEX : Sh := ⟨.pv (.sl Y13) :: .pv (.sl Y13) :: dz 3 (pI :: dz 21 []), []⟩
def l_eqHitSS_m (N : Nat) (d : List Z5) (c : List Z5) : Z8 :=
 (bif !decide ((d.length : Int) = (c.length : Int)) then some false else iter (fun f (b, e, a) => bif decide (a < (b.length : Int)) then oB (idx b a) fun j => (oB (idx e a) fun k => oB (l_eqHitS_m N j k) fun i => bif !i then some false else if fits (a + 1) then f (b, e, (a + 1)) else none) else some true) N (d, c, (0 : Int)))
theorem jEQ (N : Nat) : mK 40 ⟨⟨[.pv (.sl Y13), .pv (.sl Y13)], []⟩, ⟨[pB], []⟩, c2A (l_eqHitSS_m N)⟩ :=
 mO (fC (jxo N) ja) Tryz.func40 rfl N (.seq .no (.seq .no (.seq (.seq .no (.block (.loop jEX .no))) .no))) _
def jET : Sh := ⟨.tre 800000 Y13 62 :: pI :: dz 3 (pI :: dz 13 []), []⟩
def l_markHitSS_m (N : Nat) (i : List Z5) (f : Int) : Option (Int × (List Z5)) :=
 (iter (fun e (b, d, a) => bif decide (a < (b.length : Int)) then if 0 ≤ a ∧ a < (b.length : Int) then oB (b[a.toNat]?) fun j => (oB (jxf N j d) fun c => if fits (a + 1) then e ((b.modify a.toNat fun k => c.2), c.1, (a + 1)) else none) else none else some (d, b)) N (i, f, (0 : Int)))
theorem jE0 (N : Nat) : mK 41 ⟨⟨[.tre 800000 Y13 62, pI], []⟩, ⟨[pI, .tre 800000 Y13 62], []⟩, c2A (l_markHitSS_m N)⟩ :=
 mO (fC (jxq N) ja) Tryz.func41 rfl N (.seq .no (.seq (.seq .no (.block (.loop jET .no))) .no)) _ (rs := [800000])
def jE2 : Sh := ⟨.pv (.sl Y13) :: pI :: dz 3 (pI :: dz 15 []), []⟩
def l_heldHitSS_m (N : Nat) (i : List Z5) (f : Int) : Z11 :=
 (iter (fun e (b, d, a) => bif decide (a < (b.length : Int)) then oB (idx b a) fun j => (oB (jxd N j d) fun c => bif decide (c < 0) then some (-1) else if fits (a + 1) then e (b, c, (a + 1)) else none) else some d) N (i, f, (0 : Int)))
theorem jEV (N : Nat) : mK 42 ⟨⟨[.pv (.sl Y13), pI], []⟩, ⟨[pI], []⟩, c2A (l_heldHitSS_m N)⟩ :=
 mO (fC (jxt N) ja) Tryz.func42 rfl N (.seq .no (.seq (.seq .no (.block (.loop jE2 .no))) .no)) _
def l_FnExactPageOf_m (N : Nat) (k : List Z0) (h : List Z4) (q : List Z2) (n : List Z1) (j : Int) (o : List UInt8) (l : List Z0) (p : Int) (i : Int) (m : List DQ) (u : Int) : Z8 :=
 (oB (l_szConf_m N k h 1048576) fun x => bif decide (x < 0) then some true else oB (l_szSeg_m N q n x) fun A => bif decide (A < 0) then some true else oB (l_szQuery_m N N j o l p i m A) fun O => bif decide (O < 0) then some true else oB (jad N k h) fun E => oB (jZ N q n) fun B => oB (jxF N N j o l p i m) fun d => oB (s_PageOf_m N E.1 E.2 B.1 B.2 d.1 d.2.1 d.2.2.1 d.2.2.2.1 d.2.2.2.2.1 d.2.2.2.2.2 u) fun t => oB (jad N k h) fun f => oB (jZ N q n) fun e => oB (jxF N N j o l p i m) fun a => oB (i_PageOf_m N f.1 f.2 e.1 e.2 a.1 a.2.1 a.2.2.1 a.2.2.2.1 a.2.2.2.2.1 a.2.2.2.2.2 u) fun v => oB (l_eqHitSS_m N v t) fun S => bif !S then some false else oB (jad N k h) fun C => oB (jcO N f.1 f.2 C.1 C.2) fun L => bif !L then some false else oB (jZ N q n) fun z => oB (jbJ N e.1 e.2 z.1 z.2) fun T => bif !T then some false else oB (jxF N N j o l p i m) fun c => oB (jxK N N a.1 a.2.1 a.2.2.1 a.2.2.2.1 a.2.2.2.2.1 a.2.2.2.2.2 c.1 c.2.1 c.2.2.1 c.2.2.2.1 c.2.2.2.2.1 c.2.2.2.2.2) fun R => bif !R then some false else oB (jb0 N f.1 f.2 1) fun P => oB (jbM N e.1 e.2 P.1) fun U => oB (l_markQuery_m N a.1 a.2.1 a.2.2.1 a.2.2.2.1 a.2.2.2.2.1 a.2.2.2.2.2 U.1) fun Q => bif decide (Q.1 < 0) then some false else oB (l_eqHitSS_m N v t) fun I => bif !I then some false else oB (l_markHitSS_m N v 1) fun r => oB (l_heldHitSS_m N r.2 1) fun D => bif decide (D < 0) then some false else bif !decide (D = r.1) then some false else oB (jad N k h) fun G => oB (jZ N q n) fun y => oB (jxF N N j o l p i m) fun b => oB (i_PageOf_m N G.1 G.2 y.1 y.2 b.1 b.2.1 b.2.2.1 b.2.2.2.1 b.2.2.2.2.1 b.2.2.2.2.2 u) fun H => oB (l_eqHitSS_m N H t) fun K => bif !K then some false else oB (l_heldHitSS_m N r.2 1) fun w => bif decide (w < 0) then some false else bif !decide (w = r.1) then some false else some true)
def jEO (N : Nat) : Model := ⟨⟨[.agg [.pv (.sl .str), .pv Y16], .agg [.pv Y2, .pv Y4], .agg [pI, pS, .pv (.sl .str), pI, pI, .pv (.sl .q)], pI], []⟩, ⟨[pB], []⟩, c11A (l_FnExactPageOf_m N)⟩
theorem jE1 (N : Nat) : mK 8 (jEO N) :=
 mO (fC (jm8 N) (fC (jpO N) (fC (jzH N N) (fC (jtJ N) (fC (jqs N) (fC (jy9 N N) (fC (jES N) (fC (jEY N) (fC (jEQ N) (fC (jr8 N) (fC (jnM N) (fC (jAA N N) (fC (jrd N) (fC (jnS N) (fC (jBD N) (fC (jE0 N) (fC (jEV N) ja))))))))))))))))) Tryz.func8 rfl N .no (jEO N) (dw := [35, 37, 39, 43, 45, 47, 52, 55, 59, 60, 64, 65, 69, 70, 86, 94, 101, 103, 105, 107, 110, 114])
end Go.Proofs.YtobfngpkemkojaaGreatDoor
