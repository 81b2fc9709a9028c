import Derived.Test.YtcjbjmbialienaaGreatSA
import Derived.Test.YtcjbjmbialienaaGreatSI
/- Plain law: the reference's piece of documents, whole. -/
set_option linter.unusedVariables false
set_option linter.unusedSimpArgs false
namespace Go.Proofs.YtcjbjmbialienaaGreat
open Go.RowKit
theorem flat_len {α β : Type} (g : α → List β) (B : Nat) : ∀ l : List α, (∀ x, x ∈ l → (g x).length ≤ B) → (l.flatMap g).length ≤ B * l.length
  | [], _ => by simp
  | x :: l, h => by
    have h1 := flat_len g B l fun y hy => h y (List.mem_cons_of_mem _ hy)
    have h2 := h x List.mem_cons_self
    rw [List.flatMap_cons, List.length_append, List.length_cons, Nat.mul_succ]
    omega
theorem flat_step {α β : Type} (g : α → List β) (l : List α) (n : Nat) (h : n < l.length) : (l.take (n + 1)).flatMap g = (l.take n).flatMap g ++ g l[n] := by
  rw [List.take_succ_eq_append_getElem h, List.flatMap_append, List.flatMap_cons, List.flatMap_nil, List.append_nil]
theorem map_step {α β : Type} (g : α → β) (l : List α) (n : Nat) (h : n < l.length) : (l.take (n + 1)).map g = (l.take n).map g ++ [g l[n]] := by
  rw [List.take_succ_eq_append_getElem h, List.map_append]; rfl
theorem namesS_len {docs : List EDoc} (hd : DOk docs) (n : Nat) : (namesS (docs.take n)).length ≤ 48 := by
  unfold namesS
  have h1 := putSs_len (fun f : EField => f.1) ((docs.take n).flatMap fun d => d.2.1) []
  have h2 := flat_len (fun d : EDoc => d.2.1) 3 (docs.take n) fun d hd' => (hd.each d (List.mem_of_mem_take hd')).1
  have h3 : (docs.take n).length ≤ 16 := by rw [List.length_take]; have := hd.few; omega
  simp only [List.length_nil] at h1
  omega
theorem l7Names_spec (N : Nat) {docs : List EDoc} (hd : DOk docs) (hN : 1048576 < N) : s_l7Names_m N docs = some (namesS docs) := by
  unfold s_l7Names_m
  have hf := hd.few
  refine (iter_scan _ docs.length (fun n => (docs, namesS (docs.take n), (n : Int))) (fun _ => some (namesS docs)) (fun go => ?_) (fun go n hn hgo => ?_) N 0 (Nat.zero_le _) (by omega)).trans rfl
  · dsimp only
    rw [decide_eq_false (Int.lt_irrefl _), cond_false, List.take_length]
  · dsimp only
    have hm := List.getElem_mem hn
    have he := (hd.each _ hm).1
    rw [decide_eq_true (by omega : (n : Int) < (docs.length : Int)), cond_true, ← hgo]
    have hst : namesS (docs.take (n + 1)) = docs[n].2.1.foldl (fun a f => putS a f.1) (namesS (docs.take n)) := by unfold namesS; rw [flat_step _ _ _ hn, List.foldl_append]
    refine (iter_scan _ docs[n].2.1.length (fun k => (docs, (docs[n].2.1.take k).foldl (fun a f => putS a f.1) (namesS (docs.take n)), (n : Int), (k : Int))) (fun _ => go (docs, namesS (docs.take (n + 1)), ((n + 1 : Nat) : Int))) (fun go2 => ?_) (fun go2 k hk hgo2 => ?_) N 0 (Nat.zero_le _) (by omega)).trans rfl
    · dsimp only
      rw [idx_at hn, Option.bind_some, decide_eq_false (Int.lt_irrefl _), cond_false, List.take_length, ← hst, if_pos (fits_nat (n := n) (by omega)), cast_succ']
    · dsimp only
      have hl := putSs_len (fun f : EField => f.1) (docs[n].2.1.take k) (namesS (docs.take n))
      have hl2 := namesS_len hd n
      rw [List.length_take] at hl
      rw [idx_at hn, Option.bind_some, decide_eq_true (by omega : (k : Int) < (docs[n].2.1.length : Int)), cond_true, Option.bind_some, idx_at hk, Option.bind_some, l7Put_spec N _ _ (by omega) hN, Option.bind_some, if_pos (fits_nat (n := k) (by omega)), ← hgo2, foldl_step _ _ _ _ hk, cast_succ']
theorem termsL_len (c : EConf) {docs : List EDoc} (hd : DOk docs) (f : List UInt8) (n : Nat) : (termsL c (docs.take n) f).length ≤ 2560 := by
  unfold termsL
  have h1 := putSs_len (fun t : ETerm => t.1) ((docs.take n).flatMap fun d => terms c (fieldF d.2.1 f)) []
  have h2 := flat_len (fun d : EDoc => terms c (fieldF d.2.1 f)) 160 (docs.take n) fun d hd' => Nat.le_trans (terms_len c _) (hd.text (List.mem_of_mem_take hd') f)
  have h3 : (docs.take n).length ≤ 16 := by rw [List.length_take]; have := hd.few; omega
  simp only [List.length_nil] at h1
  omega
theorem l7Terms_spec (N : Nat) (c : EConf) (hc : okConf c = true) {docs : List EDoc} (hd : DOk docs) (f : List UInt8) (hN : 1048576 < N) : s_l7Terms_m N c.1 c.2 docs f = some (termsL c docs f) := by
  unfold s_l7Terms_m
  have hf := hd.few
  refine (iter_scan _ docs.length (fun n => (docs, f, termsL c (docs.take n) f, (n : Int), c.1, c.2)) (fun _ => some (termsL c docs f)) (fun go => ?_) (fun go n hn hgo => ?_) N 0 (Nat.zero_le _) (by omega)).trans rfl
  · dsimp only
    rw [decide_eq_false (Int.lt_irrefl _), cond_false, List.take_length]
  · dsimp only
    have hm := List.getElem_mem hn
    have he := (hd.each _ hm).1
    have htx := hd.text hm f
    rw [decide_eq_true (by omega : (n : Int) < (docs.length : Int)), cond_true, idx_at hn, Option.bind_some, l6Field_spec N _ _ _ _ (by omega) hN, Option.bind_some, l2Terms_spec N c _ (by omega) hN hc, Option.bind_some, ← hgo]
    have hst : termsL c (docs.take (n + 1)) f = (terms c (fieldF docs[n].2.1 f)).foldl (fun a t => putS a t.1) (termsL c (docs.take n) f) := by unfold termsL; rw [flat_step _ _ _ hn, List.foldl_append]
    have htl := terms_len c (fieldF docs[n].2.1 f)
    generalize terms c (fieldF docs[n].2.1 f) = ts at hst htl
    refine (iter_scan _ ts.length (fun k => (docs, f, (ts.take k).foldl (fun a t => putS a t.1) (termsL c (docs.take n) f), (n : Int), ts, (k : Int), c.1, c.2)) (fun _ => go (docs, f, termsL c (docs.take (n + 1)) f, ((n + 1 : Nat) : Int), c.1, c.2)) (fun go2 => ?_) (fun go2 k hk hgo2 => ?_) N 0 (Nat.zero_le _) (by omega)).trans rfl
    · dsimp only
      rw [decide_eq_false (Int.lt_irrefl _), cond_false, List.take_length, ← hst, if_pos (fits_nat (n := n) (by omega)), cast_succ']
    · dsimp only
      have hl := putSs_len (fun t : ETerm => t.1) (ts.take k) (termsL c (docs.take n) f)
      have hl2 := termsL_len c hd f n
      rw [List.length_take] at hl
      rw [decide_eq_true (by omega : (k : Int) < (ts.length : Int)), cond_true, idx_at hk, Option.bind_some, l7Put_spec N _ _ (by omega) hN, Option.bind_some, if_pos (fits_nat (n := k) (by omega)), ← hgo2, foldl_step _ _ _ _ hk, cast_succ']
theorem l7CopyDoc_spec (N : Nat) (d : EDoc) (h1 : d.2.1.length ≤ 3) (h2 : d.2.2.length ≤ 3) : s_l7CopyDoc_m N d.1 d.2.1 d.2.2 = some d := by
  unfold s_l7CopyDoc_m
  rw [if_pos (room_of (by simp; omega) (by simp; omega)), if_pos (room_of (by simp; omega) (by simp; omega))]
  rfl
theorem l7Of_spec (N : Nat) (c : EConf) (hc : okConf c = true) {docs : List EDoc} (hd : DOk docs) (hN : 1048576 < N) : s_l7Of_m N c.1 c.2 docs = some (docs, entriesS c docs) := by
  unfold s_l7Of_m
  have hf := hd.few
  have hnl := namesS_len hd docs.length
  rw [List.take_length] at hnl
  rw [l7Names_spec N hd hN, Option.bind_some]
  have hE : ∀ n : Nat, ((namesS docs).take n).flatMap (fun f => (termsL c docs f).map fun t => ((f, t, postsS c docs (f, t)) : EEntry)) = ((namesS docs).take n).flatMap fun f => (termsL c docs f).map fun t => (f, t, postsS c docs (f, t)) := fun _ => rfl
  have hEl : ∀ n : Nat, (((namesS docs).take n).flatMap fun f => (termsL c docs f).map fun t => ((f, t, postsS c docs (f, t)) : EEntry)).length ≤ 122880 := fun n => by
    have h2 := flat_len (fun f => (termsL c docs f).map fun t => ((f, t, postsS c docs (f, t)) : EEntry)) 2560 ((namesS docs).take n) fun f _ => by
      rw [List.length_map]
      have := termsL_len c hd f docs.length
      rw [List.take_length] at this
      exact this
    have h3 : ((namesS docs).take n).length ≤ 48 := by rw [List.length_take]; omega
    omega
  refine (iter_scan _ (namesS docs).length (fun n => (docs, namesS docs, (n : Int), c.1, c.2, ((namesS docs).take n).flatMap fun f => (termsL c docs f).map fun t => ((f, t, postsS c docs (f, t)) : EEntry))) (fun _ => some (docs, entriesS c docs)) (fun go => ?_) (fun go n hn hgo => ?_) N 0 (Nat.zero_le _) (by omega)).trans rfl
  · dsimp only
    rw [decide_eq_false (Int.lt_irrefl _), cond_false, List.take_length]
    show iter _ N (docs, 0, [], entriesS c docs) = _
    refine (iter_scan _ docs.length (fun k => (docs, (k : Int), docs.take k, entriesS c docs)) (fun _ => some (docs, entriesS c docs)) (fun go2 => ?_) (fun go2 k hk hgo2 => ?_) N 0 (Nat.zero_le _) (by omega)).trans rfl
    · dsimp only
      rw [decide_eq_false (Int.lt_irrefl _), cond_false, List.take_length]
    · dsimp only
      have he := hd.each _ (List.getElem_mem hk)
      rw [decide_eq_true (by omega : (k : Int) < (docs.length : Int)), cond_true, idx_at hk, Option.bind_some, l7CopyDoc_spec N docs[k] he.1 he.2.1, Option.bind_some, if_pos (room_of (by simp; omega) (by simp; omega)), if_pos (fits_nat (n := k) (by omega)), ← hgo2, List.take_succ_eq_append_getElem hk, cast_succ']
  · dsimp only
    have htl := termsL_len c hd (namesS docs)[n] docs.length
    rw [List.take_length] at htl
    rw [decide_eq_true (by omega : (n : Int) < ((namesS docs).length : Int)), cond_true, idx_at hn, Option.bind_some, l7Terms_spec N c hc hd _ hN, Option.bind_some, ← hgo]
    rw [show (((namesS docs).take n).flatMap fun f => (termsL c docs f).map fun t => ((f, t, postsS c docs (f, t)) : EEntry)) = (((namesS docs).take n).flatMap fun f => (termsL c docs f).map fun t => ((f, t, postsS c docs (f, t)) : EEntry)) ++ ((termsL c docs (namesS docs)[n]).take 0).map (fun t => (((namesS docs)[n], t, postsS c docs ((namesS docs)[n], t)) : EEntry)) from by simp]
    refine (iter_scan _ (termsL c docs (namesS docs)[n]).length (fun k => (docs, namesS docs, (n : Int), termsL c docs (namesS docs)[n], (k : Int), c.1, c.2, (((namesS docs).take n).flatMap fun f => (termsL c docs f).map fun t => ((f, t, postsS c docs (f, t)) : EEntry)) ++ ((termsL c docs (namesS docs)[n]).take k).map fun t => (((namesS docs)[n], t, postsS c docs ((namesS docs)[n], t)) : EEntry))) (fun _ => go (docs, namesS docs, ((n + 1 : Nat) : Int), c.1, c.2, ((namesS docs).take (n + 1)).flatMap fun f => (termsL c docs f).map fun t => ((f, t, postsS c docs (f, t)) : EEntry))) (fun go2 => ?_) (fun go2 k hk hgo2 => ?_) N 0 (Nat.zero_le _) (by omega)).trans rfl
    · dsimp only
      rw [decide_eq_false (Int.lt_irrefl _), cond_false, List.take_length, if_pos (fits_nat (n := n) (by omega)), cast_succ', flat_step _ _ _ hn]
    · dsimp only
      have hel := hEl n
      rw [decide_eq_true (by omega : (k : Int) < ((termsL c docs (namesS docs)[n]).length : Int)), cond_true, idx_at hn, Option.bind_some, idx_at hk, Option.bind_some, l7Entry_spec N c hc hd _ _ hN, Option.bind_some, if_pos (room_of (by rw [List.length_append, List.length_map, List.length_take]; simp only [List.length_cons, List.length_nil]; omega) (by rw [List.length_append, List.length_map, List.length_take]; simp only [List.length_cons, List.length_nil]; omega)), if_pos (fits_nat (n := k) (by omega)), ← hgo2, map_step _ _ _ hk, ← List.append_assoc, cast_succ']
end Go.Proofs.YtcjbjmbialienaaGreat

/- Plain law: entries put one by one, as the program does it. (putgen.py) -/
set_option linter.unusedVariables false
set_option linter.unusedSimpArgs false
namespace Go.Proofs.YtcjbjmbialienaaGreat
open Go.RowKit
def putB (b : List EDoc) (B : List EEntry) (x : Int) (t2 id : Int) : Option (List EDoc × List EEntry) :=
 (if 0 ≤ x ∧ x < (B.length : Int) then
 (Option.bind (B[x.toNat]?) fun (e25 : (List UInt8) × (List UInt8) × (List (Int × (List Int)))) =>
 (if fits ((e25.2.2.length : Int) - 1) then (bif (decide (((e25.2.2.length : Int) - 1) < 0)) then
 (Option.bind (B[x.toNat]?) fun (e26 : (List UInt8) × (List UInt8) × (List (Int × (List Int)))) =>
 (if x.toNat = x.toNat then
 (if room e25.2.2.length ([(id, ([] : List Int))] : List (Int × (List Int))).length 32 then
 (if x.toNat = x.toNat then
 (Option.bind (B[x.toNat]?) fun (e27 : (List UInt8) × (List UInt8) × (List (Int × (List Int)))) =>
 (if fits (((e25.2.2.length : Int) - 1) + 1) then (Option.bind ((B.set x.toNat (e27.1, e27.2.1, (e25.2.2 ++ ([(id, ([] : List Int))] : List (Int × (List Int))))))[x.toNat]?) fun (e28 : (List UInt8) × (List UInt8) × (List (Int × (List Int)))) =>
 (Option.bind (e28.2.2[(((e25.2.2.length : Int) - 1) + 1).toNat]?) fun (e29 : Int × (List Int)) =>
 (Option.bind ((B.set x.toNat (e27.1, e27.2.1, (e25.2.2 ++ ([(id, ([] : List Int))] : List (Int × (List Int))))))[x.toNat]?) fun (e30 : (List UInt8) × (List UInt8) × (List (Int × (List Int)))) =>
 (if x.toNat = x.toNat then
 (Option.bind ((B.set x.toNat (e27.1, e27.2.1, (e25.2.2 ++ ([(id, ([] : List Int))] : List (Int × (List Int))))))[x.toNat]?) fun (e31 : (List UInt8) × (List UInt8) × (List (Int × (List Int)))) =>
 (if x.toNat = x.toNat then
 (if 0 ≤ (((e25.2.2.length : Int) - 1) + 1) ∧ (((e25.2.2.length : Int) - 1) + 1) < (e28.2.2.length : Int) then
 (Option.bind (e28.2.2[(((e25.2.2.length : Int) - 1) + 1).toNat]?) fun (e32 : Int × (List Int)) =>
 (if (((e25.2.2.length : Int) - 1) + 1).toNat = (((e25.2.2.length : Int) - 1) + 1).toNat then
 (if room e29.2.length ([t2] : List Int).length 8 then
 (if 0 ≤ (((e25.2.2.length : Int) - 1) + 1) ∧ (((e25.2.2.length : Int) - 1) + 1) < (e28.2.2.length : Int) then
 (if (((e25.2.2.length : Int) - 1) + 1).toNat = (((e25.2.2.length : Int) - 1) + 1).toNat then
 (Option.bind (e28.2.2[(((e25.2.2.length : Int) - 1) + 1).toNat]?) fun (e33 : Int × (List Int)) =>
 (some (b, ((B.set x.toNat (e27.1, e27.2.1, (e25.2.2 ++ ([(id, ([] : List Int))] : List (Int × (List Int)))))).modify x.toNat fun y4 => (y4.1, y4.2.1, (e28.2.2.set (((e25.2.2.length : Int) - 1) + 1).toNat (e33.1, (e29.2 ++ ([t2] : List Int)))))))))
 else none)
 else none)
 else none)
 else none))
 else none)
 else none))
 else none)))) else none))
 else none)
 else none)
 else none))
 else
 (Option.bind (B[x.toNat]?) fun (e34 : (List UInt8) × (List UInt8) × (List (Int × (List Int)))) =>
 (if x.toNat = x.toNat then
 (if 0 ≤ ((e25.2.2.length : Int) - 1) ∧ ((e25.2.2.length : Int) - 1) < (e25.2.2.length : Int) then
 (Option.bind (e25.2.2[((e25.2.2.length : Int) - 1).toNat]?) fun (e35 : Int × (List Int)) =>
 (bif (!decide (e35.1 = id)) then
 (Option.bind (B[x.toNat]?) fun (e36 : (List UInt8) × (List UInt8) × (List (Int × (List Int)))) =>
 (if x.toNat = x.toNat then
 (if room e25.2.2.length ([(id, ([] : List Int))] : List (Int × (List Int))).length 32 then
 (if x.toNat = x.toNat then
 (Option.bind (B[x.toNat]?) fun (e37 : (List UInt8) × (List UInt8) × (List (Int × (List Int)))) =>
 (if fits (((e25.2.2.length : Int) - 1) + 1) then (Option.bind ((B.set x.toNat (e37.1, e37.2.1, (e25.2.2 ++ ([(id, ([] : List Int))] : List (Int × (List Int))))))[x.toNat]?) fun (e38 : (List UInt8) × (List UInt8) × (List (Int × (List Int)))) =>
 (Option.bind (e38.2.2[(((e25.2.2.length : Int) - 1) + 1).toNat]?) fun (e39 : Int × (List Int)) =>
 (Option.bind ((B.set x.toNat (e37.1, e37.2.1, (e25.2.2 ++ ([(id, ([] : List Int))] : List (Int × (List Int))))))[x.toNat]?) fun (e40 : (List UInt8) × (List UInt8) × (List (Int × (List Int)))) =>
 (if x.toNat = x.toNat then
 (Option.bind ((B.set x.toNat (e37.1, e37.2.1, (e25.2.2 ++ ([(id, ([] : List Int))] : List (Int × (List Int))))))[x.toNat]?) fun (e41 : (List UInt8) × (List UInt8) × (List (Int × (List Int)))) =>
 (if x.toNat = x.toNat then
 (if 0 ≤ (((e25.2.2.length : Int) - 1) + 1) ∧ (((e25.2.2.length : Int) - 1) + 1) < (e38.2.2.length : Int) then
 (Option.bind (e38.2.2[(((e25.2.2.length : Int) - 1) + 1).toNat]?) fun (e42 : Int × (List Int)) =>
 (if (((e25.2.2.length : Int) - 1) + 1).toNat = (((e25.2.2.length : Int) - 1) + 1).toNat then
 (if room e39.2.length ([t2] : List Int).length 8 then
 (if 0 ≤ (((e25.2.2.length : Int) - 1) + 1) ∧ (((e25.2.2.length : Int) - 1) + 1) < (e38.2.2.length : Int) then
 (if (((e25.2.2.length : Int) - 1) + 1).toNat = (((e25.2.2.length : Int) - 1) + 1).toNat then
 (Option.bind (e38.2.2[(((e25.2.2.length : Int) - 1) + 1).toNat]?) fun (e43 : Int × (List Int)) =>
 (some (b, ((B.set x.toNat (e37.1, e37.2.1, (e25.2.2 ++ ([(id, ([] : List Int))] : List (Int × (List Int)))))).modify x.toNat fun y5 => (y5.1, y5.2.1, (e38.2.2.set (((e25.2.2.length : Int) - 1) + 1).toNat (e43.1, (e39.2 ++ ([t2] : List Int)))))))))
 else none)
 else none)
 else none)
 else none))
 else none)
 else none))
 else none)))) else none))
 else none)
 else none)
 else none))
 else
 (if x.toNat = x.toNat then
 (Option.bind (e25.2.2[((e25.2.2.length : Int) - 1).toNat]?) fun (e44 : Int × (List Int)) =>
 (Option.bind (B[x.toNat]?) fun (e45 : (List UInt8) × (List UInt8) × (List (Int × (List Int)))) =>
 (if x.toNat = x.toNat then
 (Option.bind (B[x.toNat]?) fun (e46 : (List UInt8) × (List UInt8) × (List (Int × (List Int)))) =>
 (if x.toNat = x.toNat then
 (if 0 ≤ ((e25.2.2.length : Int) - 1) ∧ ((e25.2.2.length : Int) - 1) < (e25.2.2.length : Int) then
 (Option.bind (e25.2.2[((e25.2.2.length : Int) - 1).toNat]?) fun (e47 : Int × (List Int)) =>
 (if ((e25.2.2.length : Int) - 1).toNat = ((e25.2.2.length : Int) - 1).toNat then
 (if room e44.2.length ([t2] : List Int).length 8 then
 (if 0 ≤ ((e25.2.2.length : Int) - 1) ∧ ((e25.2.2.length : Int) - 1) < (e25.2.2.length : Int) then
 (if ((e25.2.2.length : Int) - 1).toNat = ((e25.2.2.length : Int) - 1).toNat then
 (Option.bind (e25.2.2[((e25.2.2.length : Int) - 1).toNat]?) fun (e48 : Int × (List Int)) =>
 (some (b, (B.modify x.toNat fun y6 => (y6.1, y6.2.1, (e25.2.2.set ((e25.2.2.length : Int) - 1).toNat (e48.1, (e44.2 ++ ([t2] : List Int)))))))))
 else none)
 else none)
 else none)
 else none))
 else none)
 else none))
 else none)))
 else none)))
 else none)
 else none))) else none))
 else none)
set_option maxRecDepth 100000 in
theorem put_eq (N : Nat) (field t : List UInt8) (t2 id : Int) (b : List EDoc) (b2 : List EEntry) : i_Seg_put_m N field t t2 id b b2 = Option.bind (k_slices_IndexFunc_146_m N b2 (field, t, t2)) fun r => bif decide (r < 0) then (if room b2.length ([(field, t, [])] : List EEntry).length 56 then putB b (b2 ++ ([(field, t, [])] : List EEntry)) (b2.length : Int) t2 id else none) else putB b b2 r t2 id := rfl
theorem set_modify {α : Type} (B : List α) (n : Nat) (v : α) (g : α → α) (h : n < B.length) : (B.set n v).modify n g = B.set n (g v) := by
  apply List.ext_getElem?
  intro i
  rw [List.getElem?_modify, List.getElem?_set, List.getElem?_set]
  by_cases hi : n = i
  · subst hi; simp [h]
  · simp [hi]
theorem modify_set {α : Type} (B : List α) (n : Nat) (g : α → α) (h : n < B.length) : B.modify n g = B.set n (g B[n]) := by
  apply List.ext_getElem?
  intro i
  rw [List.getElem?_modify, List.getElem?_set]
  by_cases hi : n = i
  · subst hi; simp [h]
  · simp [hi]
theorem putB_spec (b : List EDoc) (B : List EEntry) (n : Nat) (t2 id : Int) (e : EEntry) (he : B[n]? = some e) (hl : e.2.2.length ≤ 1000000) (hp : ∀ p, p ∈ e.2.2 → p.2.length ≤ 1000000) : putB b B (n : Int) t2 id = some (b, B.set n (e.1, e.2.1, addPost e.2.2 id t2)) := by
  have hn : n < B.length := (List.getElem?_eq_some_iff.1 he).1
  have heq : B[n] = e := (List.getElem?_eq_some_iff.1 he).2
  obtain ⟨f, t, ps⟩ := e
  unfold putB
  rw [if_pos ⟨Int.natCast_nonneg n, by omega⟩]
  simp only [Int.toNat_natCast, he, Option.bind_some, if_true]
  have hs : ∀ v : EEntry, (B.set n v)[n]? = some v := fun v => by rw [List.getElem?_set_self hn]
  simp only [hs, Option.bind_some]
  rcases List.eq_nil_or_concat ps with rfl | ⟨q, p, rfl⟩
  · rw [if_pos (by unfold fits; decide), decide_eq_true (by decide), cond_true, if_pos (room_of (by simp) (by simp)), if_pos (by unfold fits; decide)]
    rw [show ((([] : List EPost).length : Int) - 1 + 1) = 0 from rfl]
    rw [show (([] : List EPost) ++ [(id, ([] : List Int))])[Int.toNat 0]? = some (id, []) from rfl]
    simp only [Option.bind_some]
    rw [if_pos (by simp), if_pos (room_of (by simp) (by simp)), if_pos (by simp), set_modify _ _ _ _ hn]
    rfl
  · rw [List.concat_eq_append] at *
    have h1 : ((q ++ [p]).length : Int) - 1 = (q.length : Int) := by simp
    have h2 : (q ++ [p])[q.length]? = some p := by simp
    have hl' : q.length + 1 ≤ 1000000 := by simpa using hl
    have hp' : p.2.length ≤ 1000000 := hp p (by simp)
    rw [h1, if_pos (by unfold fits; omega), decide_eq_false (by omega), cond_false]
    simp only [Int.toNat_natCast, h2, Option.bind_some]
    have c1 : (0 : Int) ≤ (q.length : Int) ∧ (q.length : Int) < ((q ++ [p]).length : Int) := ⟨by omega, by rw [List.length_append]; simp only [List.length_cons, List.length_nil]; omega⟩
    rw [if_pos c1]
    have hlast : (q ++ [p]).getLast? = some p := by simp
    by_cases hi : p.1 = id
    · rw [decide_eq_true hi, Bool.not_true, cond_false, if_pos c1, if_pos (room_of (by simp only [List.length_cons, List.length_nil]; omega) (by simp only [List.length_cons, List.length_nil]; omega)), if_pos c1, modify_set _ _ _ hn, heq]
      unfold addPost
      rw [hlast]
      dsimp only
      rw [if_pos hi, List.dropLast_concat]
      simp
    · have c2 : ((q.length : Int) + 1).toNat = q.length + 1 := by omega
      have h3 : (q ++ [p] ++ [(id, ([] : List Int))])[q.length + 1]? = some (id, []) := by simp
      have c3 : (0 : Int) ≤ (q.length : Int) + 1 ∧ (q.length : Int) + 1 < ((q ++ [p] ++ [(id, ([] : List Int))]).length : Int) := ⟨by omega, by simp only [List.length_append, List.length_cons, List.length_nil]; omega⟩
      rw [decide_eq_false hi, Bool.not_false, cond_true, if_pos (room_of (by simp only [List.length_append, List.length_cons, List.length_nil]; omega) (by simp only [List.length_append, List.length_cons, List.length_nil]; omega)), if_pos (fits_nat (n := q.length) (by omega)), c2, h3]
      simp only [Option.bind_some]
      rw [if_pos c3, if_pos (room_of (by simp) (by simp)), if_pos c3, set_modify _ _ _ _ hn]
      unfold addPost
      rw [hlast]
      dsimp only
      rw [if_neg hi]
      simp
theorem putE_new (o : EOcc) : ∀ es : List EEntry, o.1 ∉ es.map keyE → putE o es = es ++ [(o.1.1, o.1.2, addPost [] o.2.1 o.2.2)]
  | [], _ => rfl
  | e :: l, h => by
    rw [List.map_cons, List.mem_cons, not_or] at h
    unfold putE
    rw [if_neg (fun e => h.1 e.symm), putE_new o l h.2]
    rfl
theorem putE_at (o : EOcc) : ∀ (es : List EEntry) (n : Nat) (hn : n < es.length), keyE es[n] = o.1 → (∀ m (hm : m < n), keyE (es[m]'(by omega)) ≠ o.1) → putE o es = es.set n (es[n].1, es[n].2.1, addPost es[n].2.2 o.2.1 o.2.2)
  | e :: l, 0, _, h, _ => by
    unfold putE
    rw [if_pos (show keyE e = o.1 from h)]
    rfl
  | e :: l, n + 1, hn, h, hb => by
    unfold putE
    rw [if_neg (show ¬ keyE e = o.1 from hb 0 (by omega)), putE_at o l n (by simpa using hn) h (fun m hm => hb (m + 1) (by omega))]
    rfl
theorem indexFunc_spec (N : Nat) (es : List EEntry) (f : List UInt8) (t : ETerm) (hl : es.length < N) (hl2 : es.length ≤ 1000000) : Def (k_slices_IndexFunc_146_m N es (f, t)) fun r => (r = -1 ∧ (f, t.1) ∉ es.map keyE) ∨ ∃ (n : Nat) (hn : n < es.length), r = (n : Int) ∧ keyE es[n] = (f, t.1) ∧ ∀ m (hm : m < n), keyE (es[m]'(by omega)) ≠ (f, t.1) := by
  unfold k_slices_IndexFunc_146_m
  refine Def.upto es.length (fun n g => g = (es, (f, t), (es.length : Int), (n : Int)) ∧ ∀ m (hm : m < es.length), m < n → keyE es[m] ≠ (f, t.1)) (fun go g hg => ?_) (fun go n g hn hg hgo => ?_) N 0 _ (Nat.zero_le _) ⟨rfl, fun m _ h => absurd h (Nat.not_lt_zero _)⟩ (by omega)
  · obtain ⟨rfl, h⟩ := hg
    dsimp only
    rw [decide_eq_false (Int.lt_irrefl _), cond_false]
    refine Def.ret (.inl ⟨rfl, fun hk => ?_⟩)
    obtain ⟨e, he, hk⟩ := List.mem_map.1 hk
    obtain ⟨m, hm, rfl⟩ := List.mem_iff_getElem.1 he
    exact h m hm hm hk
  · obtain ⟨rfl, h⟩ := hg
    dsimp only
    rw [decide_eq_true (by omega : (n : Int) < (es.length : Int)), cond_true, idx_at hn, Option.bind_some]
    have hk : k__loop_example_fossick_impl_Seg_put_1_m N es[n].1 es[n].2.1 es[n].2.2 f t = some (decide (keyE es[n] = (f, t.1))) := by
      unfold k__loop_example_fossick_impl_Seg_put_1_m keyE
      by_cases h1 : es[n].1 = f
      · rw [decide_eq_true h1, cond_true]; simp [h1]
      · rw [decide_eq_false h1, cond_false]; simp [h1]
    rw [hk, Option.bind_some]
    by_cases h1 : keyE es[n] = (f, t.1)
    · rw [decide_eq_true h1, cond_true]
      exact Def.ret (.inr ⟨n, hn, rfl, h1, fun m hm => h m (by omega) hm⟩)
    · rw [decide_eq_false h1, cond_false, if_pos (fits_nat (n := n) (by omega))]
      refine hgo _ ⟨by rw [cast_succ'], fun m hm hmn => ?_⟩
      by_cases hm2 : m = n
      · subst hm2; exact h1
      · exact h m hm (by omega)
theorem put_spec (N : Nat) (f : List UInt8) (t : ETerm) (id : Int) (b : List EDoc) (es : List EEntry) (hl : es.length < N) (hl2 : es.length ≤ 1000000) (hp : ∀ e, e ∈ es → e.2.2.length ≤ 1000000 ∧ ∀ p, p ∈ e.2.2 → p.2.length ≤ 1000000) : i_Seg_put_m N f t.1 t.2 id b es = some (b, putE ((f, t.1), id, t.2) es) := by
  rw [put_eq]
  refine Def.get (Def.bind (indexFunc_spec N es f t hl hl2) fun r hr => ?_)
  rcases hr with ⟨rfl, hk⟩ | ⟨n, hn, rfl, hk, hb⟩
  · rw [decide_eq_true (by decide), cond_true, if_pos (room_of (by simp only [List.length_cons, List.length_nil]; omega) (by simp only [List.length_cons, List.length_nil]; omega))]
    rw [putB_spec b _ es.length t.2 id (f, t.1, []) (by simp) (by simp) (by simp), putE_new _ _ hk]
    refine Def.ret ?_
    simp
  · rw [decide_eq_false (by omega), cond_false]
    have hm := hp _ (List.getElem_mem hn)
    rw [putB_spec b es n t.2 id es[n] (List.getElem?_eq_getElem hn) hm.1 hm.2, putE_at ((f, t.1), id, t.2) es n hn hk hb]
    exact Def.ret rfl
end Go.Proofs.YtcjbjmbialienaaGreat

/- Plain law: the program's piece of documents is the reference's. -/
set_option linter.unusedVariables false
set_option linter.unusedSimpArgs false
namespace Go.Proofs.YtcjbjmbialienaaGreat
open Go.RowKit
theorem compareS_spec (N : Nat) (x y : List UInt8) : k_cmp_Compare_433_m N x y = some (if Op.bytesLess x y then -1 else if Op.bytesLess y x then 1 else 0) := by
  unfold k_cmp_Compare_433_m
  have h : ∀ z : List UInt8, k_cmp_isNaN_401_m N z = some false := fun z => by unfold k_cmp_isNaN_401_m; simp
  rw [h, h]
  simp only [Option.bind_some, cond_false]
  rw [not_less]
  cases h1 : Op.bytesLess x y
  · cases h2 : Op.bytesLess y x <;> simp
  · simp
theorem or2_spec (N : Nat) (hN : 4 ≤ N) (x y : Int) : k_cmp_Or_892_m N [x, y] = some (if x ≠ 0 then x else if y ≠ 0 then y else 0) := by
  unfold k_cmp_Or_892_m
  obtain ⟨N, rfl⟩ : ∃ m, N = m + 4 := ⟨N - 4, by omega⟩
  by_cases h1 : x = 0
  · by_cases h2 : y = 0
    · subst h1; subst h2
      simp [iter, idx, fits]
    · subst h1
      simp [iter, idx, fits, h2]
  · simp [iter, idx, fits, h1]
theorem cmp_spec (N : Nat) (hN : 4 ≤ N) (a b : EEntry) : Def (cmp105 N () a b) fun r => decide (r < 0) = ltK (keyE a) (keyE b) := by
  show Def (i_SegOf_1_m N a.1 a.2.1 a.2.2 b.1 b.2.1 b.2.2) _
  unfold i_SegOf_1_m
  rw [compareS_spec, Option.bind_some, compareS_spec, Option.bind_some, or2_spec N hN, Option.bind_some]
  refine Def.ret ?_
  unfold ltK keyE
  dsimp only
  cases h1 : Op.bytesLess a.1 b.1
  · cases h2 : Op.bytesLess b.1 a.1
    · have he : a.1 = b.1 := by
        have := bytesLess_or a.1 b.1
        rw [h1, h2] at this
        simpa using this
      cases h3 : Op.bytesLess a.2.1 b.2.1
      · cases h4 : Op.bytesLess b.2.1 a.2.1 <;> simp [he]
      · simp [he]
    · have he : a.1 ≠ b.1 := by
        rintro e
        rw [e, bl_irrefl] at h2
        cases h2
      simp [he]
  · simp
theorem ltK_asym {a b : EKey} (h : ltK a b = true) : ltK b a = false := by
  cases h2 : ltK b a
  · rfl
  · have := ltK_trans h h2
    rw [ltK_irrefl] at this
    cases this
theorem ltK_total {a b : EKey} (h : a ≠ b) : ltK a b = true ∨ ltK b a = true := by
  unfold ltK
  cases h1 : Op.bytesLess a.1 b.1
  · cases h2 : Op.bytesLess b.1 a.1
    · have he : a.1 = b.1 := by
        have := bytesLess_or a.1 b.1
        rw [h1, h2] at this
        simpa using this
      have hne : a.2 ≠ b.2 := fun e => h (Prod.ext he e)
      cases h3 : Op.bytesLess a.2 b.2
      · right; simp [he, bl_total h3 hne]
      · left; simp [he]
    · right; simp
  · left; simp
theorem ltE_ordr : Ordr fun a b : EEntry => ltK (keyE a) (keyE b) := ⟨fun x y h => ltK_asym h, fun x y z h k => ltK_trans h k⟩
def Small (m : Nat) (es : List EEntry) : Prop := es.length ≤ m ∧ ∀ e, e ∈ es → e.2.2.length ≤ m ∧ ∀ p, p ∈ e.2.2 → p.2.length ≤ m
theorem addPost_small {m : Nat} {ps : List EPost} (id a : Int) (h : ps.length ≤ m ∧ ∀ p, p ∈ ps → p.2.length ≤ m) : (addPost ps id a).length ≤ m + 1 ∧ ∀ p, p ∈ addPost ps id a → p.2.length ≤ m + 1 := by
  rcases List.eq_nil_or_concat ps with rfl | ⟨q, p, rfl⟩
  · unfold addPost
    simp
  · rw [List.concat_eq_append] at *
    unfold addPost
    rw [show (q ++ [p]).getLast? = some p from by simp]
    dsimp only
    have hp := h.2 p (by simp)
    have hq : ∀ y, y ∈ q → y.2.length ≤ m := fun y hy => h.2 y (by simp [hy])
    have hl := h.1
    simp only [List.length_append, List.length_cons, List.length_nil] at hl
    by_cases e : p.1 = id
    · rw [if_pos e, List.dropLast_concat]
      refine ⟨by simp only [List.length_append, List.length_cons, List.length_nil]; omega, fun y hy => ?_⟩
      rcases List.mem_append.1 hy with hy | hy
      · exact Nat.le_succ_of_le (hq y hy)
      · rw [List.mem_singleton] at hy
        subst hy
        simp only [List.length_append, List.length_cons, List.length_nil]; omega
    · rw [if_neg e]
      refine ⟨by simp only [List.length_append, List.length_cons, List.length_nil]; omega, fun y hy => ?_⟩
      rcases List.mem_append.1 hy with hy | hy
      · exact Nat.le_succ_of_le (h.2 y hy)
      · rw [List.mem_singleton] at hy
        subst hy
        simp
theorem putE_small {m : Nat} (o : EOcc) : ∀ es : List EEntry, (∀ e, e ∈ es → e.2.2.length ≤ m ∧ ∀ p, p ∈ e.2.2 → p.2.length ≤ m) → (putE o es).length ≤ es.length + 1 ∧ ∀ e, e ∈ putE o es → e.2.2.length ≤ m + 1 ∧ ∀ p, p ∈ e.2.2 → p.2.length ≤ m + 1
  | [], _ => by
    unfold putE
    refine ⟨by simp, fun e he => ?_⟩
    rw [List.mem_singleton] at he
    subst he
    exact addPost_small _ _ (m := m) (ps := []) ⟨by simp, by simp⟩
  | d :: l, h => by
    have hm : ∀ e, e ∈ d :: l → e.2.2.length ≤ m + 1 ∧ ∀ p, p ∈ e.2.2 → p.2.length ≤ m + 1 := fun e he => ⟨Nat.le_succ_of_le (h e he).1, fun p hp => Nat.le_succ_of_le ((h e he).2 p hp)⟩
    unfold putE
    by_cases hk : keyE d = o.1
    · rw [if_pos hk]
      refine ⟨by simp, fun e he => ?_⟩
      rcases List.mem_cons.1 he with rfl | he
      · exact addPost_small _ _ (h d List.mem_cons_self)
      · exact hm e (List.mem_cons_of_mem _ he)
    · rw [if_neg hk]
      have ih := putE_small o l fun e he => h e (List.mem_cons_of_mem _ he)
      refine ⟨by simp only [List.length_cons]; omega, fun e he => ?_⟩
      rcases List.mem_cons.1 he with rfl | he
      · exact hm _ List.mem_cons_self
      · exact ih.2 e he
theorem putAll_small (l : List EOcc) : Small l.length (putAll l) := by
  have key : ∀ (l : List EOcc) (es : List EEntry) (m : Nat), Small m es → Small (m + l.length) (l.foldl (fun es o => putE o es) es) := by
    intro l
    induction l with
    | nil => intro es m h; exact h
    | cons o l ih =>
      intro es m h
      have h2 := putE_small o es h.2
      have := ih (putE o es) (m + 1) ⟨by have := h.1; omega, h2.2⟩
      rw [List.length_cons, show m + (l.length + 1) = m + 1 + l.length from by omega]
      exact this
  have := key l [] 0 ⟨by simp, fun e he => by cases he⟩
  rwa [Nat.zero_add] at this
theorem cloneDoc_spec (N : Nat) (d : EDoc) (h1 : d.2.1.length ≤ 3) (h2 : d.2.2.length ≤ 3) : i_cloneDoc_m N d.1 d.2.1 d.2.2 = some d := by
  unfold i_cloneDoc_m
  rw [if_pos (room_of (by simp; omega) (by simp; omega)), if_pos (room_of (by simp; omega) (by simp; omega))]
  rfl
theorem cloneDocs_spec (N : Nat) {docs : List EDoc} (hd : DOk docs) (hN : 16 < N) : i_cloneDocs_m N docs = some docs := by
  unfold i_cloneDocs_m
  have hf := hd.few
  refine (iter_scan _ docs.length (fun k => (docs.take k, docs, (docs.length : Int), (k : Int))) (fun _ => some docs) (fun go => ?_) (fun go k hk hgo => ?_) N 0 (Nat.zero_le _) (by omega)).trans rfl
  · dsimp only
    rw [decide_eq_false (Int.lt_irrefl _), cond_false, List.take_length]
  · dsimp only
    have he := hd.each _ (List.getElem_mem hk)
    rw [decide_eq_true (by omega : (k : Int) < (docs.length : Int)), cond_true, idx_at hk, Option.bind_some, cloneDoc_spec N docs[k] he.1 he.2.1, Option.bind_some, if_pos (room_of (by simp; omega) (by simp; omega)), if_pos (fits_nat (n := k) (by omega)), ← hgo, List.take_succ_eq_append_getElem hk, cast_succ']
theorem occF_len (c : EConf) {docs : List EDoc} (hd : DOk docs) {d : EDoc} (h : d ∈ docs) (k : Nat) : (occF c d.1 (d.2.1.take k)).length ≤ 480 := by
  unfold occF
  have he := hd.each d h
  have h1 := flat_len (fun f : EField => (terms c f.2).map fun t => (((f.1, t.1), d.1, t.2) : EOcc)) 160 (d.2.1.take k) fun f hf => by
    rw [List.length_map]
    exact Nat.le_trans (terms_len c _) (he.2.2 f (List.mem_of_mem_take hf)).2
  have h2 : (d.2.1.take k).length ≤ 3 := by rw [List.length_take]; omega
  omega
theorem occ_len (c : EConf) {docs : List EDoc} (hd : DOk docs) (n : Nat) : (occ c (docs.take n)).length ≤ 7680 := by
  unfold occ
  have hf := hd.few
  have h1 := flat_len (fun d : EDoc => occF c d.1 d.2.1) 480 (docs.take n) fun d hx => by
    have := occF_len c hd (List.mem_of_mem_take hx) d.2.1.length
    rw [List.take_length] at this
    exact this
  have h2 : (docs.take n).length ≤ 16 := by rw [List.length_take]; omega
  omega
theorem segOf_spec (N : Nat) (hM : Sm < N) (hN : N ≤ 16777216) (c : EConf) (ho : okD Sm TConf c) (docs : List EDoc) (hod : ∀ x, x ∈ docs → okD Sm TDoc x) (hl : docs.length ≤ 1048576) : i_SegOf_m N c.1 c.2 docs = some (bif okConf c && okDocs docs then (docs, entriesS c docs) else ([], [])) := by
  have hM' : 1048576 < N := hM
  refine Def.get ?_
  unfold i_SegOf_m
  rw [confOk_spec N hM (by omega) c ho, Option.bind_some]
  cases hc : okConf c with
  | false => exact Def.ret rfl
  | true =>
  rw [Bool.not_true, cond_false, docsOk_spec N hM (by omega) docs hod hl, Option.bind_some]
  cases hdd : okDocs docs with
  | false => exact Def.ret rfl
  | true =>
  have hd := okDocs_ok hdd
  have hf := hd.few
  rw [Bool.not_true, cond_false, cloneDocs_spec N hd (by omega), Option.bind_some, Bool.and_self, cond_true]
  refine Def.upto docs.length (fun n g => g = (docs, (docs.length : Int), (n : Int), c.1, c.2, docs, putAll (occ c (docs.take n)))) (fun go g hg => ?_) (fun go n g hn hg hgo => ?_) N 0 _ (Nat.zero_le _) rfl (by omega)
  · subst hg
    dsimp only
    rw [decide_eq_false (Int.lt_irrefl _), cond_false, List.take_length]
    have hsm := putAll_small (occ c docs)
    have hol := occ_len c hd docs.length
    rw [List.take_length] at hol
    refine Def.bind (sortAny_105 (fun a b => ltK (keyE a) (keyE b)) ltE_ordr N hN (by omega) (putAll (occ c docs)) () ⟨fun x hx y hy => cmp_spec N (by omega) x y, ?_⟩ (by have := hsm.1; omega)) fun R hR => Def.ret ?_
    · exact (List.pairwise_map.1 (putAll_canon (occ c docs)).nodup).imp fun h => ltK_total h
    · rw [sorted_entries c hd.inn hR.1 hR.2]
  · subst hg
    dsimp only
    have hmem := List.getElem_mem hn
    have he := hd.each _ hmem
    rw [decide_eq_true (by omega : (n : Int) < (docs.length : Int)), cond_true, idx_at hn, Option.bind_some]
    have ho1 := occ_len c hd n
    refine Def.upto docs[n].2.1.length (fun k g => g = (docs, (docs.length : Int), (n : Int), docs[n].2.1, (docs[n].2.1.length : Int), (k : Int), c.1, c.2, docs, putAll (occ c (docs.take n) ++ occF c docs[n].1 (docs[n].2.1.take k)), docs[n].1, docs[n].2.1, docs[n].2.2)) (fun go2 g hg => ?_) (fun go2 k g hk hg hgo2 => ?_) N 0 _ (Nat.zero_le _) (by rw [List.take_zero, show occF c docs[n].1 [] = [] from rfl, List.append_nil]; rfl) (by omega)
    · subst hg
      dsimp only
      rw [decide_eq_false (Int.lt_irrefl _), cond_false, List.take_length, if_pos (fits_nat (n := n) (by omega))]
      refine hgo _ ?_
      rw [cast_succ']
      unfold occ
      rw [flat_step _ _ _ hn]
    · subst hg
      dsimp only
      have hok := he.2.2 _ (List.getElem_mem hk)
      rw [decide_eq_true (by omega : (k : Int) < (docs[n].2.1.length : Int)), cond_true, idx_at hk, Option.bind_some, termsOf_spec N c _ (by omega) hM (by omega) ho, Option.bind_some, hc, hok.1, Bool.and_self, cond_true]
      have htl := terms_len c docs[n].2.1[k].2
      have ho2 := occF_len c hd hmem k
      refine Def.upto (terms c docs[n].2.1[k].2).length (fun j g => g = (docs, (docs.length : Int), (n : Int), docs[n].2.1, (docs[n].2.1.length : Int), (k : Int), terms c docs[n].2.1[k].2, ((terms c docs[n].2.1[k].2).length : Int), (j : Int), c.1, c.2, docs, putAll (occ c (docs.take n) ++ occF c docs[n].1 (docs[n].2.1.take k) ++ ((terms c docs[n].2.1[k].2).take j).map fun t => ((docs[n].2.1[k].1, t.1), docs[n].1, t.2)), docs[n].1, docs[n].2.1, docs[n].2.2, docs[n].2.1[k].1, docs[n].2.1[k].2)) (fun go3 g hg => ?_) (fun go3 j g hj hg hgo3 => ?_) N 0 _ (Nat.zero_le _) (by rw [List.take_zero, List.map_nil, List.append_nil]; rfl) (by omega)
      · subst hg
        dsimp only
        rw [decide_eq_false (Int.lt_irrefl _), cond_false, List.take_length, if_pos (fits_nat (n := k) (by omega))]
        refine hgo2 _ ?_
        rw [cast_succ']
        unfold occF
        rw [flat_step _ _ _ hk, List.append_assoc]
      · subst hg
        dsimp only
        rw [decide_eq_true (by omega : (j : Int) < ((terms c docs[n].2.1[k].2).length : Int)), cond_true, idx_at hj, Option.bind_some]
        have hsm := putAll_small (occ c (docs.take n) ++ occF c docs[n].1 (docs[n].2.1.take k) ++ ((terms c docs[n].2.1[k].2).take j).map fun t => (((docs[n].2.1[k].1, t.1), docs[n].1, t.2) : EOcc))
        have hlen : (occ c (docs.take n) ++ occF c docs[n].1 (docs[n].2.1.take k) ++ ((terms c docs[n].2.1[k].2).take j).map fun t => (((docs[n].2.1[k].1, t.1), docs[n].1, t.2) : EOcc)).length ≤ 8320 := by
          rw [List.length_append, List.length_append, List.length_map, List.length_take]
          omega
        rw [put_spec N _ _ _ _ _ (by have := hsm.1; omega) (by have := hsm.1; omega) (fun e h => ⟨by have := (hsm.2 e h).1; omega, fun p hp => by have := (hsm.2 e h).2 p hp; omega⟩), Option.bind_some, if_pos (fits_nat (n := j) (by omega))]
        refine hgo3 _ ?_
        rw [cast_succ', map_step _ _ _ hj, ← List.append_assoc, putAll_snoc]
end Go.Proofs.YtcjbjmbialienaaGreat

/- Plain law: both ways to check a piece of documents give the same. -/
set_option linter.unusedVariables false
set_option linter.unusedSimpArgs false
namespace Go.Proofs.YtcjbjmbialienaaGreat
open Go.RowKit
theorem entries_small (c : EConf) {docs : List EDoc} (hd : DOk docs) : Small 7680 (entriesS c docs) := by
  have hsm := putAll_small (occ c docs)
  have hol := occ_len c hd docs.length
  rw [List.take_length] at hol
  obtain ⟨R, _, hp, hs⟩ := sortAny_105 (fun a b => ltK (keyE a) (keyE b)) ltE_ordr 16777216 (Nat.le_refl _) (by omega) (putAll (occ c docs)) () ⟨fun x hx y hy => cmp_spec _ (by omega) x y, (List.pairwise_map.1 (putAll_canon (occ c docs)).nodup).imp fun h => ltK_total h⟩ (by have := hsm.1; omega)
  rw [← sorted_entries c hd.inn hp hs]
  refine ⟨by rw [hp.length_eq]; exact Nat.le_trans hsm.1 hol, fun e he => ?_⟩
  have := hsm.2 e (hp.mem_iff.1 he)
  exact ⟨Nat.le_trans this.1 hol, fun p hp => Nat.le_trans (this.2 p hp) hol⟩
theorem eq_scan {α δ : Type} [DecidableEq α] (F : (δ → Option Bool) → δ → Option Bool) (a b : List α) (h : a.length = b.length) (st : Nat → δ) (hend : ∀ go, F go (st a.length) = some true) (hstep : ∀ go (n : Nat) (hn : n < a.length) (hb : n < b.length), F go (st n) = bif decide (a[n] = b[n]) then go (st (n + 1)) else some false) (N : Nat) (hN : a.length < N) : iter F N (st 0) = some (decide (a = b)) := by
  refine (iter_scan F a.length st (fun n => some (decide (a.drop n = b.drop n))) (fun go => ?_) (fun go n hn hgo => ?_) N 0 (Nat.zero_le _) (by omega)).trans (by rw [List.drop_zero, List.drop_zero])
  · rw [hend, List.drop_length, h, List.drop_length]; simp
  · rw [hstep go n hn (by omega), drop_eq_iff hn (by omega), hgo]
    cases decide (a[n] = b[n]) <;> rfl
theorem len_ne {α : Type} {a b : List α} (h : ¬ (a.length : Int) = (b.length : Int)) : ¬ a = b := fun e => h (by rw [e])
theorem equalInts_spec (N : Nat) (a b : List Int) (hN : a.length < N) (hl : a.length ≤ 1000000) : k_slices_Equal_193_m N a b = some (decide (a = b)) := by
  unfold k_slices_Equal_193_m
  by_cases h : (a.length : Int) = (b.length : Int)
  · rw [decide_eq_true h, Bool.not_true, cond_false]
    refine eq_scan _ a b (by omega) (fun n => (a, b, (a.length : Int), (n : Int))) (fun go => ?_) (fun go n hn hb => ?_) N hN
    · dsimp only
      rw [decide_eq_false (Int.lt_irrefl _), cond_false]
    · dsimp only
      rw [decide_eq_true (by omega : (n : Int) < (a.length : Int)), cond_true, idx_at hn, Option.bind_some, idx_at hb, Option.bind_some, if_pos (fits_nat (n := n) (by omega)), cast_succ']
      cases decide (a[n] = b[n]) <;> rfl
  · rw [decide_eq_false h, Bool.not_false, cond_true, decide_eq_false (len_ne h)]
theorem sameInts_spec (N : Nat) (a b : List Int) (hN : a.length < N) (hl : a.length ≤ 1000000) : s_l7SameInts_m N a b = some (decide (a = b)) := by
  unfold s_l7SameInts_m
  by_cases h : (a.length : Int) = (b.length : Int)
  · rw [decide_eq_true h, Bool.not_true, cond_false]
    refine eq_scan _ a b (by omega) (fun n => (a, b, (n : Int))) (fun go => ?_) (fun go n hn hb => ?_) N hN
    · dsimp only
      rw [decide_eq_false (Int.lt_irrefl _), cond_false]
    · dsimp only
      rw [decide_eq_true (by omega : (n : Int) < (a.length : Int)), cond_true, idx_at hn, Option.bind_some, idx_at hb, Option.bind_some, if_pos (fits_nat (n := n) (by omega)), cast_succ']
      cases decide (a[n] = b[n]) <;> rfl
  · rw [decide_eq_false h, Bool.not_false, cond_true, decide_eq_false (len_ne h)]
theorem post_eq (a b : EPost) : decide (a = b) = (decide (a.1 = b.1) && decide (a.2 = b.2)) := by
  rw [Bool.eq_iff_iff, Bool.and_eq_true, decide_eq_true_eq, decide_eq_true_eq, decide_eq_true_eq, Prod.ext_iff]
theorem entry_eq (a b : EEntry) : decide (a = b) = (decide (a.1 = b.1) && (decide (a.2.1 = b.2.1) && decide (a.2.2 = b.2.2))) := by
  rw [Bool.eq_iff_iff, Bool.and_eq_true, Bool.and_eq_true, decide_eq_true_eq, decide_eq_true_eq, decide_eq_true_eq, decide_eq_true_eq, Prod.ext_iff, Prod.ext_iff]
theorem samePost_spec (N : Nat) (a b : EPost) (hN : a.2.length < N) (hl : a.2.length ≤ 1000000) : i_samePost_m N a.1 a.2 b.1 b.2 = some (decide (a = b)) := by
  unfold i_samePost_m
  rw [equalInts_spec N _ _ hN hl, Option.bind_some, post_eq]
  cases decide (a.1 = b.1) <;> rfl
theorem equalPosts_spec (N : Nat) (a b : List EPost) (hN : a.length < N) (hl : a.length ≤ 1000000) (hp : ∀ p, p ∈ a → p.2.length < N ∧ p.2.length ≤ 1000000) : k_slices_EqualFunc_520_m N a b () = some (decide (a = b)) := by
  unfold k_slices_EqualFunc_520_m
  by_cases h : (a.length : Int) = (b.length : Int)
  · rw [decide_eq_true h, Bool.not_true, cond_false]
    refine eq_scan _ a b (by omega) (fun n => (b, (), a, (a.length : Int), (n : Int))) (fun go => ?_) (fun go n hn hb => ?_) N hN
    · dsimp only
      rw [decide_eq_false (Int.lt_irrefl _), cond_false]
    · dsimp only
      have hpn := hp _ (List.getElem_mem hn)
      rw [decide_eq_true (by omega : (n : Int) < (a.length : Int)), cond_true, idx_at hn, Option.bind_some, idx_at hb, Option.bind_some, samePost_spec N _ _ hpn.1 hpn.2, Option.bind_some, if_pos (fits_nat (n := n) (by omega)), cast_succ']
      cases decide (a[n] = b[n]) <;> rfl
  · rw [decide_eq_false h, Bool.not_false, cond_true, decide_eq_false (len_ne h)]
theorem sameEntry_spec (N : Nat) (a b : EEntry) (hN : a.2.2.length < N) (hl : a.2.2.length ≤ 1000000) (hp : ∀ p, p ∈ a.2.2 → p.2.length < N ∧ p.2.length ≤ 1000000) : i_sameEntry_m N a.1 a.2.1 a.2.2 b.1 b.2.1 b.2.2 = some (decide (a = b)) := by
  unfold i_sameEntry_m
  rw [equalPosts_spec N _ _ hN hl hp, Option.bind_some, entry_eq]
  cases decide (a.1 = b.1) <;> cases decide (a.2.1 = b.2.1) <;> rfl
theorem equalEntries_spec (N : Nat) (a b : List EEntry) (m : Nat) (hm : m < N) (hm2 : m ≤ 1000000) (hs : Small m a) : k_slices_EqualFunc_948_m N a b () = some (decide (a = b)) := by
  unfold k_slices_EqualFunc_948_m
  have hal := hs.1
  by_cases h : (a.length : Int) = (b.length : Int)
  · rw [decide_eq_true h, Bool.not_true, cond_false]
    refine eq_scan _ a b (by omega) (fun n => (b, (), a, (a.length : Int), (n : Int))) (fun go => ?_) (fun go n hn hb => ?_) N (by omega)
    · dsimp only
      rw [decide_eq_false (Int.lt_irrefl _), cond_false]
    · dsimp only
      have hpn := hs.2 _ (List.getElem_mem hn)
      rw [decide_eq_true (by omega : (n : Int) < (a.length : Int)), cond_true, idx_at hn, Option.bind_some, idx_at hb, Option.bind_some, sameEntry_spec N _ _ (by omega) (by omega) (fun p hp => by have := hpn.2 p hp; omega), Option.bind_some, if_pos (fits_nat (n := n) (by omega)), cast_succ']
      cases decide (a[n] = b[n]) <;> rfl
  · rw [decide_eq_false h, Bool.not_false, cond_true, decide_eq_false (len_ne h)]
theorem l7SameEntry_spec (N : Nat) (a b : EEntry) (hN : a.2.2.length < N) (hl : a.2.2.length ≤ 1000000) (hp : ∀ p, p ∈ a.2.2 → p.2.length < N ∧ p.2.length ≤ 1000000) : s_l7SameEntry_m N a.1 a.2.1 a.2.2 b.1 b.2.1 b.2.2 = some (decide (a = b)) := by
  unfold s_l7SameEntry_m
  rw [entry_eq]
  by_cases h1 : a.1 = b.1
  · rw [decide_eq_true h1, Bool.not_true, cond_false, Bool.true_and]
    by_cases h2 : a.2.1 = b.2.1
    · rw [decide_eq_true h2, Bool.not_true, cond_false, Bool.true_and]
      by_cases h : (a.2.2.length : Int) = (b.2.2.length : Int)
      · rw [decide_eq_true h, Bool.not_true, cond_false]
        refine eq_scan _ a.2.2 b.2.2 (by omega) (fun n => ((n : Int), a.1, a.2.1, a.2.2, b.1, b.2.1, b.2.2)) (fun go => ?_) (fun go n hn hb => ?_) N hN
        · dsimp only
          rw [decide_eq_false (Int.lt_irrefl _), cond_false]
        · dsimp only
          have hpn := hp _ (List.getElem_mem hn)
          rw [decide_eq_true (by omega : (n : Int) < (a.2.2.length : Int)), cond_true, idx_at hn, Option.bind_some, idx_at hb, Option.bind_some, Option.bind_some, Option.bind_some, sameInts_spec N _ _ hpn.1 hpn.2, Option.bind_some, if_pos (fits_nat (n := n) (by omega)), cast_succ', post_eq]
          cases decide (a.2.2[n].1 = b.2.2[n].1) <;> cases decide (a.2.2[n].2 = b.2.2[n].2) <;> rfl
      · rw [decide_eq_false h, Bool.not_false, cond_true, decide_eq_false (len_ne h)]
    · rw [decide_eq_false h2]; rfl
  · rw [decide_eq_false h1]; rfl
/-- A piece of documents that is ok. -/
def okSeg (c : EConf) (s : ESeg) : Bool := okConf c && (okDocs s.1 && decide (entriesS c s.1 = s.2))
theorem segOk_spec (N : Nat) (hM : Sm < N) (hN : N ≤ 16777216) (c : EConf) (ho : okD Sm TConf c) (s : ESeg) (hod : ∀ x, x ∈ s.1 → okD Sm TDoc x) (hl : s.1.length ≤ 1048576) : i_SegOk_m N c.1 c.2 s.1 s.2 = some (okSeg c s) := by
  have hM' : 1048576 < N := hM
  unfold i_SegOk_m okSeg
  rw [confOk_spec N hM (by omega) c ho, Option.bind_some]
  cases hc : okConf c with
  | false => rfl
  | true =>
  rw [Bool.not_true, cond_false, docsOk_spec N hM (by omega) s.1 hod hl, Option.bind_some]
  cases hdd : okDocs s.1 with
  | false => rfl
  | true =>
  rw [Bool.not_true, cond_false, segOf_spec N hM hN c ho s.1 hod hl, Option.bind_some, hc, hdd, Bool.and_self, cond_true]
  rw [equalEntries_spec N _ _ 7680 (by omega) (by omega) (entries_small c (okDocs_ok hdd))]
  rfl
theorem l7Ok_spec (N : Nat) (hM : Sm < N) (hN : N ≤ 16777216) (c : EConf) (ho : okD Sm TConf c) (s : ESeg) (hod : ∀ x, x ∈ s.1 → okD Sm TDoc x) (hl : s.1.length ≤ 1048576) : s_l7Ok_m N c.1 c.2 s.1 s.2 = some (okSeg c s) := by
  have hM' : 1048576 < N := hM
  unfold s_l7Ok_m okSeg
  rw [l2Ok_spec N hM (by omega) c ho, Option.bind_some]
  cases hc : okConf c with
  | false => rfl
  | true =>
  rw [Bool.not_true, cond_false, l6Docs_spec N hM (by omega) s.1 hod hl, Option.bind_some]
  cases hdd : okDocs s.1 with
  | false => rfl
  | true =>
  have hs := entries_small c (okDocs_ok hdd)
  have hal := hs.1
  rw [Bool.not_true, cond_false, l7Of_spec N c hc (okDocs_ok hdd) hM', Option.bind_some, Bool.true_and, Bool.true_and]
  generalize entriesS c s.1 = a at *
  obtain ⟨d, b⟩ := s
  by_cases h : (a.length : Int) = (b.length : Int)
  · rw [decide_eq_true h, Bool.not_true, cond_false]
    refine eq_scan _ a b (by omega) (fun n => ((n : Int), d, b, d, a)) (fun go => ?_) (fun go n hn hb => ?_) N (by omega)
    · dsimp only
      rw [decide_eq_false (Int.lt_irrefl _), cond_false]
    · dsimp only
      have hpn := hs.2 _ (List.getElem_mem hn)
      rw [decide_eq_true (by omega : (n : Int) < (a.length : Int)), cond_true, idx_at hn, Option.bind_some, idx_at hb, Option.bind_some, l7SameEntry_spec N _ _ (by omega) (by omega) (fun p hp => by have := hpn.2 p hp; omega), Option.bind_some, if_pos (fits_nat (n := n) (by omega)), cast_succ']
      cases decide (a[n] = b[n]) <;> rfl
  · rw [decide_eq_false h, Bool.not_false, cond_true, decide_eq_false (len_ne h)]
end Go.Proofs.YtcjbjmbialienaaGreat

/- Plain law: how far two words are apart, both ways. -/
set_option linter.unusedVariables false
set_option linter.unusedSimpArgs false
namespace Go.Proofs.YtcjbjmbialienaaGreat
open Go.RowKit
def farCell (x : UInt8) (b : List UInt8) (s : List Int × Int) (k : Nat) : List Int × Int :=
  (s.1.set (k + 1) (min (s.2 + (if x = b.getD k 0 then 0 else 1)) (min (s.1.getD k 0) (s.1.getD (k + 1) 0) + 1)), s.1.getD (k + 1) 0)
def farCells (x : UInt8) (b : List UInt8) (row : List Int) (i k : Nat) : List Int × Int := (List.range k).foldl (farCell x b) (row.set 0 ((i : Int) + 1), row.getD 0 0)
def farRow (a b : List UInt8) (row : List Int) (i : Nat) : List Int := (farCells (a.getD i 0) b row i b.length).1
def initRow (n k : Nat) : List Int := (List.range k).foldl (fun row j => row.set j (j : Int)) (List.replicate n 0)
def farRows (a b : List UInt8) (i : Nat) : List Int := (List.range i).foldl (farRow a b) (initRow (b.length + 1) (b.length + 1))
def far (a b : List UInt8) : Int := (farRows a b a.length).getD b.length 0
theorem farCells_succ (x : UInt8) (b : List UInt8) (row : List Int) (i k : Nat) : farCells x b row i (k + 1) = farCell x b (farCells x b row i k) k := by unfold farCells; rw [List.range_succ, List.foldl_append]; rfl
theorem initRow_succ (n k : Nat) : initRow n (k + 1) = (initRow n k).set k (k : Int) := by unfold initRow; rw [List.range_succ, List.foldl_append]; rfl
theorem farRows_succ (a b : List UInt8) (i : Nat) : farRows a b (i + 1) = farRow a b (farRows a b i) i := by unfold farRows; rw [List.range_succ, List.foldl_append]; rfl
def RowIn (L m : Nat) (row : List Int) : Prop := row.length = L + 1 ∧ ∀ v, v ∈ row → 0 ≤ v ∧ v ≤ (m : Int)
theorem RowIn.at {L m : Nat} {row : List Int} (h : RowIn L m row) (k : Nat) : 0 ≤ row.getD k 0 ∧ row.getD k 0 ≤ (m : Int) := by
  rw [List.getD_eq_getElem?_getD]
  by_cases hk : k < row.length
  · rw [List.getElem?_eq_getElem hk]
    exact h.2 _ (List.getElem_mem hk)
  · rw [List.getElem?_eq_none (by omega)]
    exact ⟨Int.le_refl _, Int.natCast_nonneg _⟩
theorem RowIn.set {L m : Nat} {row : List Int} (h : RowIn L m row) (k : Nat) {v : Int} (h0 : 0 ≤ v) (h1 : v ≤ (m : Int)) : RowIn L m (row.set k v) := by
  refine ⟨by rw [List.length_set]; exact h.1, fun x hx => ?_⟩
  rcases List.mem_or_eq_of_mem_set hx with h2 | rfl
  · exact h.2 x h2
  · exact ⟨h0, h1⟩
theorem RowIn.mono {L m n : Nat} {row : List Int} (h : RowIn L m row) (hm : m ≤ n) : RowIn L n row := ⟨h.1, fun v hv => ⟨(h.2 v hv).1, by have := (h.2 v hv).2; omega⟩⟩
theorem initRow_in (L k : Nat) (hk : k ≤ L + 1) : RowIn L L (initRow (L + 1) k) := by
  induction k with
  | zero =>
    refine ⟨by simp [initRow], fun v hv => ?_⟩
    have : v = 0 := List.eq_of_mem_replicate (n := L + 1) hv
    omega
  | succ k ih =>
    rw [initRow_succ]
    exact (ih (by omega)).set k (by omega) (by omega)
theorem getD_set_ne {l : List Int} {i j : Nat} (v : Int) (h : i ≠ j) : (l.set i v).getD j 0 = l.getD j 0 := by
  rw [List.getD_eq_getElem?_getD, List.getD_eq_getElem?_getD, List.getElem?_set_ne h]
theorem getD_set_self {l : List Int} {i : Nat} (v : Int) (h : i < l.length) : (l.set i v).getD i 0 = v := by
  rw [List.getD_eq_getElem?_getD, List.getElem?_set_self h]; rfl
theorem farCells_keep (x : UInt8) (b : List UInt8) (row : List Int) (i k : Nat) : (farCells x b row i k).2 = row.getD k 0 ∧ ∀ j, k < j → (farCells x b row i k).1.getD j 0 = row.getD j 0 := by
  induction k with
  | zero => exact ⟨rfl, fun j hj => getD_set_ne _ (by omega)⟩
  | succ k ih =>
    rw [farCells_succ]
    refine ⟨ih.2 (k + 1) (by omega), fun j hj => ?_⟩
    show ((farCells x b row i k).1.set (k + 1) _).getD j 0 = _
    rw [getD_set_ne _ (by omega)]
    exact ih.2 j (by omega)
theorem farCells_in (x : UInt8) (b : List UInt8) {row : List Int} (i k : Nat) {L m : Nat} (h : RowIn L m row) (hi : i ≤ m) : RowIn L (m + 1) (farCells x b row i k).1 := by
  induction k with
  | zero => exact (h.mono (Nat.le_succ m)).set 0 (by omega) (by omega)
  | succ k ih =>
    have h1 := h.at k
    have h2 := ih.at k
    have h3 := ih.at (k + 1)
    have hk := (farCells_keep x b row i k).1
    rw [farCells_succ]
    show RowIn L (m + 1) ((farCells x b row i k).1.set (k + 1) _)
    refine ih.set (k + 1) ?_ ?_
    · rw [hk]; split <;> omega
    · rw [hk]; split <;> omega
theorem farRows_in (a b : List UInt8) (i : Nat) : RowIn b.length (b.length + i) (farRows a b i) := by
  induction i with
  | zero => exact initRow_in _ _ (Nat.le_refl _)
  | succ i ih =>
    rw [farRows_succ]
    exact farCells_in _ b i _ ih (Nat.le_add_left _ _)
theorem get_at {l : List Int} {i : Nat} (h : i < l.length) : l[i]? = some (l.getD i 0) := by
  rw [List.getD_eq_getElem?_getD, List.getElem?_eq_getElem h]; rfl
theorem min_spec (N : Nat) (a b : Int) : s_l5Min_m N a b = some (min a b) := by
  unfold s_l5Min_m
  by_cases h : a < b
  · rw [decide_eq_true h, cond_true, Int.min_eq_left (by omega)]
  · rw [decide_eq_false h, cond_false, Int.min_eq_right (by omega)]
theorem u8_ne (c c2 : UInt8) : (!decide ((c.toNat : Int) = (c2.toNat : Int))) = !decide (c = c2) := by
  congr 1
  rw [decide_eq_decide]
  constructor
  · intro h
    exact UInt8.toNat_inj.1 (by omega)
  · rintro rfl; rfl
theorem l5Far_spec (N : Nat) (a b : List UInt8) (ha : a.length ≤ 1000) (hb : b.length ≤ 1000) (hN : 1010 < N) : s_l5Far_m N a b = some (far a b) := by
  refine Def.get ?_
  unfold s_l5Far_m
  rw [if_pos (fits_nat (n := b.length) (by omega)), if_pos (by omega), show ((b.length : Int) + 1).toNat = b.length + 1 from by omega]
  refine Def.upto (b.length + 1) (fun k g => g = (a, b, initRow (b.length + 1) k, (k : Int))) (fun go g hg => ?_) (fun go k g hk hg hgo => ?_) N 0 _ (Nat.zero_le _) rfl (by omega)
  · subst hg
    dsimp only
    rw [decide_eq_false (by omega), cond_false]
    refine Def.upto a.length (fun i g => g = (a, b, farRows a b i, (i : Int))) (fun go2 g hg => ?_) (fun go2 i g hi hg hgo2 => ?_) N 0 _ (Nat.zero_le _) rfl (by omega)
    · subst hg
      dsimp only
      have hr := farRows_in a b a.length
      have hl := hr.1
      rw [decide_eq_false (Int.lt_irrefl _), cond_false, if_pos (by omega), Int.toNat_natCast, get_at (by omega), Option.bind_some]
      exact Def.ret rfl
    · subst hg
      dsimp only
      have hr := farRows_in a b i
      have hl := hr.1
      have h0 : (0 : Int) ≤ 0 ∧ (0 : Int) < ((farRows a b i).length : Int) := ⟨Int.le_refl _, by omega⟩
      rw [decide_eq_true (by omega : (i : Int) < (a.length : Int)), cond_true, if_pos h0, show (0 : Int).toNat = 0 from rfl, get_at (by omega), Option.bind_some, if_pos (fits_nat (n := i) (by omega)), if_pos h0, Option.bind_some]
      refine Def.upto b.length (fun k g => g = (a, b, (farCells (a.getD i 0) b (farRows a b i) i k).1, (i : Int), (farCells (a.getD i 0) b (farRows a b i) i k).2, (k : Int))) (fun go3 g hg => ?_) (fun go3 k g hk hg hgo3 => ?_) N 0 _ (Nat.zero_le _) rfl (by omega)
      · subst hg
        dsimp only
        rw [decide_eq_false (Int.lt_irrefl _), cond_false, if_pos (fits_nat (n := i) (by omega))]
        refine hgo2 _ ?_
        rw [cast_succ', farRows_succ]
        rfl
      · subst hg
        dsimp only
        have hc := farCells_in (a.getD i 0) b i k hr (by omega)
        have hkp := (farCells_keep (a.getD i 0) b (farRows a b i) i k).1
        have hsucc := farCells_succ (a.getD i 0) b (farRows a b i) i k
        have hv := hr.at k
        rw [← hkp] at hv
        generalize farCells (a.getD i 0) b (farRows a b i) i k = s at *
        obtain ⟨row, ah⟩ := s
        have hcl := hc.1
        have hv1 := hc.at k
        have hv2 := hc.at (k + 1)
        dsimp only at *
        rw [decide_eq_true (by omega : (k : Int) < (b.length : Int)), cond_true]
        refine Def.meet (fun g => g = (a, b, row, (i : Int), (k : Int), ah + (if a.getD i 0 = b.getD k 0 then 0 else 1))) (fun g hg => ?_) (fun J hJ => ?_)
        · subst hg
          dsimp only
          have hkk : ((k : Int) + 1).toNat = k + 1 := by omega
          have hb1 : (0 : Int) ≤ (k : Int) + 1 ∧ (k : Int) + 1 < (row.length : Int) := by omega
          have hf1 := fits_nat (n := k) (by omega)
          rw [if_pos hf1, if_pos hb1, hkk, get_at (by omega), Option.bind_some, if_pos hf1, if_pos (by omega), Int.toNat_natCast, get_at (by omega), Option.bind_some, if_pos hf1, if_pos hb1, Option.bind_some, min_spec, Option.bind_some, if_pos (by unfold fits; omega), min_spec, Option.bind_some, if_pos hb1, Option.bind_some, if_pos hf1]
          refine hgo3 _ ?_
          rw [hsucc, cast_succ']
          rfl
        · have ea : a.getD i 0 = a[i] := by rw [List.getD_eq_getElem?_getD, List.getElem?_eq_getElem hi]; rfl
          have eb : b.getD k 0 = b[k] := by rw [List.getD_eq_getElem?_getD, List.getElem?_eq_getElem hk]; rfl
          rw [idx_at hi, Option.bind_some, idx_at hk, Option.bind_some, u8_ne]
          by_cases he : a[i] = b[k]
          · rw [decide_eq_true he, Bool.not_true, cond_false]
            exact hJ _ (by rw [ea, eb, if_pos he, Int.add_zero])
          · rw [decide_eq_false he, Bool.not_false, cond_true, if_pos (by unfold fits; omega)]
            exact hJ _ (by rw [ea, eb, if_neg he])
  · subst hg
    dsimp only
    have hr := (initRow_in b.length k (by omega)).1
    rw [decide_eq_true (by omega : (k : Int) ≤ (b.length : Int)), cond_true, if_pos (by omega), Int.toNat_natCast, get_at (by omega), Option.bind_some, if_pos (fits_nat (n := k) (by omega))]
    refine hgo _ ?_
    rw [cast_succ', initRow_succ]
theorem min3 (n r q : Int) : (if (r + 1) < (if (q + 1) < n then (q + 1) else n) then (r + 1) else (if (q + 1) < n then (q + 1) else n)) = min n (min r q + 1) := by
  by_cases h1 : q + 1 < n
  · rw [if_pos h1]
    by_cases h2 : r + 1 < q + 1
    · rw [if_pos h2]; omega
    · rw [if_neg h2]; omega
  · rw [if_neg h1]
    by_cases h2 : r + 1 < n
    · rw [if_pos h2]; omega
    · rw [if_neg h2]; omega
theorem nearFar_spec (N : Nat) (a b : List UInt8) (ha : a.length ≤ 1000) (hb : b.length ≤ 1000) (hN : 1010 < N) (hN2 : N ≤ 1099511627776) : i_NearFar_m N a b = some (bif okW a && okW b then far a b else -1) := by
  refine Def.get ?_
  unfold i_NearFar_m
  refine Def.meet (fun g => g = (a, b) ∧ okW a = true ∧ okW b = true) (fun g hg => ?_) (fun J hJ => ?_)
  · obtain ⟨rfl, h1, h2⟩ := hg
    rw [h1, h2, Bool.and_self, cond_true]
    dsimp only
    refine Def.meet (fun g => g = (a, b, List.replicate (b.length + 1) 0)) (fun g hg => ?_) (fun J hJ => ?_)
    · subst hg
      dsimp only
      rw [show ((List.replicate (b.length + 1) (0 : Int)).length : Int) = ((b.length + 1 : Nat) : Int) from by rw [List.length_replicate]]
      refine Def.upto (b.length + 1) (fun k g => g = (a, b, initRow (b.length + 1) k, ((b.length + 1 : Nat) : Int), (k : Int))) (fun go g hg => ?_) (fun go k g hk hg hgo => ?_) N 0 _ (Nat.zero_le _) rfl (by omega)
      · subst hg
        dsimp only
        rw [decide_eq_false (Int.lt_irrefl _), cond_false]
        refine Def.upto a.length (fun i g => g = (a, b, farRows a b i, (i : Int) + 1)) (fun go2 g hg => ?_) (fun go2 i g hi hg hgo2 => ?_) N 0 _ (Nat.zero_le _) rfl (by omega)
        · subst hg
          dsimp only
          have hr := farRows_in a b a.length
          have hl := hr.1
          rw [decide_eq_false (by omega), cond_false, if_pos (by omega), Int.toNat_natCast, get_at (by omega), Option.bind_some]
          exact Def.ret rfl
        · subst hg
          dsimp only
          have hr := farRows_in a b i
          have hl := hr.1
          have h0 : (0 : Int) ≤ 0 ∧ (0 : Int) < ((farRows a b i).length : Int) := ⟨Int.le_refl _, by omega⟩
          rw [decide_eq_true (by omega : (i : Int) + 1 ≤ (a.length : Int)), cond_true, if_pos h0, show (0 : Int).toNat = 0 from rfl, get_at (by omega), Option.bind_some, if_pos h0, Option.bind_some]
          refine Def.upto b.length (fun k g => g = (a, b, (farCells (a.getD i 0) b (farRows a b i) i k).1, (i : Int) + 1, (farCells (a.getD i 0) b (farRows a b i) i k).2, (k : Int) + 1)) (fun go3 g hg => ?_) (fun go3 k g hk hg hgo3 => ?_) N 0 _ (Nat.zero_le _) rfl (by omega)
          · subst hg
            dsimp only
            rw [decide_eq_false (by omega), cond_false, if_pos (by unfold fits; omega)]
            refine hgo2 _ ?_
            rw [cast_succ', farRows_succ]
            rfl
          · subst hg
            dsimp only
            have hc := farCells_in (a.getD i 0) b i k hr (by omega)
            have hkp := (farCells_keep (a.getD i 0) b (farRows a b i) i k).1
            have hsucc := farCells_succ (a.getD i 0) b (farRows a b i) i k
            have hv := hr.at k
            rw [← hkp] at hv
            generalize farCells (a.getD i 0) b (farRows a b i) i k = s at *
            obtain ⟨row, ah⟩ := s
            have hcl := hc.1
            have hv1 := hc.at k
            have hv2 := hc.at (k + 1)
            dsimp only at *
            rw [decide_eq_true (by omega : (k : Int) + 1 ≤ (b.length : Int)), cond_true]
            refine Def.meet (fun g => g = (a, b, row, (i : Int) + 1, (k : Int) + 1, ah + (if a.getD i 0 = b.getD k 0 then 0 else 1))) (fun g hg => ?_) (fun J hJ => ?_)
            · subst hg
              dsimp only
              have hkk : ((k : Int) + 1).toNat = k + 1 := by omega
              have hk1 : (k : Int) + 1 - 1 = (k : Int) := by omega
              have hb1 : (0 : Int) ≤ (k : Int) + 1 ∧ (k : Int) + 1 < (row.length : Int) := by omega
              rw [if_pos hb1, hkk, get_at (by omega), Option.bind_some, if_pos hb1, Option.bind_some, if_pos (by unfold fits; omega), hk1, if_pos (by unfold fits; omega), if_pos (by omega), Int.toNat_natCast, get_at (by omega), Option.bind_some, if_pos (by unfold fits; omega), if_pos hb1, Option.bind_some, if_pos (by unfold fits; omega), min3]
              refine hgo3 _ ?_
              rw [hsucc, cast_succ']
              rfl
            · have ea : a.getD i 0 = a[i] := by rw [List.getD_eq_getElem?_getD, List.getElem?_eq_getElem hi]; rfl
              have eb : b.getD k 0 = b[k] := by rw [List.getD_eq_getElem?_getD, List.getElem?_eq_getElem hk]; rfl
              rw [show (i : Int) + 1 - 1 = (i : Int) from by omega, show (k : Int) + 1 - 1 = (k : Int) from by omega, if_pos (by unfold fits; omega), idx_at hi, Option.bind_some, if_pos (by unfold fits; omega), idx_at hk, Option.bind_some, u8_ne]
              by_cases he : a[i] = b[k]
              · rw [decide_eq_true he, Bool.not_true, cond_false]
                exact hJ _ (by rw [ea, eb, if_pos he, Int.add_zero])
              · rw [decide_eq_false he, Bool.not_false, cond_true, if_pos (by unfold fits; omega)]
                exact hJ _ (by rw [ea, eb, if_neg he])
      · subst hg
        dsimp only
        have hr := (initRow_in b.length k (by omega)).1
        rw [decide_eq_true (by omega : (k : Int) < ((b.length + 1 : Nat) : Int)), cond_true, if_pos (by omega), Int.toNat_natCast, get_at (by omega), Option.bind_some, if_pos (fits_nat (n := k) (by omega))]
        refine hgo _ ?_
        rw [cast_succ' k, initRow_succ]
    · rw [if_pos (fits_nat (n := b.length) (by omega)), if_pos (by omega), show ((b.length : Int) + 1).toNat = b.length + 1 from by omega]
      exact hJ _ rfl
  · rw [wordOk_spec N a (by omega) hN2, Option.bind_some]
    cases h1 : okW a with
    | false => exact Def.ret rfl
    | true =>
    rw [Bool.not_true, cond_false, wordOk_spec N b (by omega) hN2, Option.bind_some]
    cases h2 : okW b with
    | false => exact Def.ret rfl
    | true =>
    rw [Bool.not_true, cond_false]
    have := hJ (a, b) ⟨rfl, h1, h2⟩
    rwa [h1, h2] at this
end Go.Proofs.YtcjbjmbialienaaGreat

/- Plain law: the word that is nearest, both ways. -/
set_option linter.unusedVariables false
set_option linter.unusedSimpArgs false
namespace Go.Proofs.YtcjbjmbialienaaGreat
open Go.RowKit
theorem okW_iff (s : List UInt8) : okW s = true ↔ (∀ c, c ∈ s → wB (c.toNat : Int) = true) ∧ 1 ≤ s.length ∧ s.length ≤ 12 := by
  unfold okW allN
  simp only [Bool.and_eq_true, decide_eq_true_eq, List.all_eq_true]
  constructor
  · rintro ⟨h1, h2, h3⟩
    refine ⟨fun c hc => ?_, by omega, by omega⟩
    obtain ⟨n, hn, rfl⟩ := List.mem_iff_getElem.1 hc
    rw [atB_eq hn]
    exact h1 n (by simp; omega)
  · rintro ⟨h1, h2, h3⟩
    refine ⟨fun n hn => ?_, by omega, by omega⟩
    have hn' : n < s.length := by simpa using hn
    rw [← atB_eq hn']
    exact h1 _ (List.getElem_mem hn')
theorem foB_byte {c : UInt8} (h : isL c = true) : wB ((UInt8.ofNat (foB c).toNat).toNat : Int) = true := by
  obtain ⟨h1, h2, h3⟩ := foB_ok h
  rw [UInt8.toNat_ofNat_of_lt' (by show (foB _).toNat < 256; omega), Int.toNat_of_nonneg h2]
  exact h1
theorem take_lead (l : List UInt8) : l.take (lead l) = l.takeWhile isL := ((List.prefix_iff_eq_take).1 (List.takeWhile_prefix isL)).symm
theorem words_ok (l : List UInt8) (p a : Int) : ∀ w, w ∈ wordsF l p a → okW w.1 = true := by
  intro w hw
  match l with
  | [] => rw [wordsF_nil] at hw; cases hw
  | c :: t =>
    cases hc : isL c with
    | false =>
      rw [wordsF_skip hc] at hw
      exact words_ok t _ _ w hw
    | true =>
      have hl : 0 < lead (c :: t) := by rw [lead_cons hc]; omega
      rw [wordsF_word hl rfl] at hw
      rcases List.mem_cons.1 hw with rfl | hw
      · rw [okW_iff]
        refine ⟨fun x hx => ?_, ?_, ?_⟩
        · obtain ⟨n, hn, rfl⟩ := List.mem_map.1 hx
          obtain ⟨y, hy, rfl⟩ := List.mem_map.1 (List.mem_of_mem_take hn)
          rw [take_lead] at hy
          exact foB_byte (List.all_eq_true.1 (List.all_takeWhile (l := c :: t)) y hy)
        · have := lead_le (c :: t)
          simp only [bytesOf, List.length_map, List.length_take]; omega
        · simp only [bytesOf, List.length_map, List.length_take]; omega
      · have hlt : ((c :: t).drop (lead (c :: t))).length < (c :: t).length := by rw [List.length_drop, List.length_cons]; omega
        exact words_ok _ _ _ w hw
termination_by l.length
decreasing_by
  all_goals simp only [List.length_drop, List.length_cons] at *
  all_goals omega
theorem cutEnd_ok {s e t : List UInt8} (h : cutEnd s e = some t) (hs : okW s = true) : okW t = true := by
  unfold cutEnd at h
  split at h
  · rename_i hh
    cases h
    rw [okW_iff] at hs ⊢
    refine ⟨fun c hc => hs.1 c (List.mem_of_mem_take hc), ?_, ?_⟩
    · rw [List.length_take]; omega
    · rw [List.length_take]; omega
  · cases h
theorem stem_ok (s : List UInt8) (hs : okW s = true) : okW (stemF s) = true := by
  cases h : once s with
  | none => rw [stemF_none h]; exact hs
  | some t =>
    rw [stemF_some h]
    have hlt := once_lt h
    have ht : okW t = true := by
      unfold once at h
      obtain ⟨e, _, h⟩ := List.exists_of_findSome?_eq_some h
      exact cutEnd_ok h hs
    exact stem_ok t ht
termination_by s.length
theorem plain_ok (st : List (List UInt8)) (s : List UInt8) : ∀ x, x ∈ plain st s → okW x.1 = true := by
  intro x hx
  obtain ⟨w, hw, hp⟩ := List.mem_filterMap.1 hx
  unfold plainW at hp
  split at hp
  · cases hp
  · cases hp
    exact stem_ok _ (words_ok _ _ _ w hw)
theorem termsF_ok (c2 : List ESyn) (hc : ∀ y, y ∈ c2 → okW y.2 = true) (l : List ETerm) (hl : ∀ x, x ∈ l → okW x.1 = true) : ∀ x, x ∈ termsF c2 l → okW x.1 = true := by
  intro x hx
  match l with
  | [] => rw [termsF_nil] at hx; cases hx
  | t :: r =>
    rw [termsF] at hx
    split at hx
    · rcases List.mem_cons.1 hx with rfl | hx
      · exact hl _ List.mem_cons_self
      · exact termsF_ok c2 hc r (fun y hy => hl y (List.mem_cons_of_mem _ hy)) x hx
    · rename_i y hy
      rcases List.mem_cons.1 hx with rfl | hx
      · exact hc _ (syn_mem c2 _ hy).1
      · exact termsF_ok c2 hc _ (fun z hz => hl z (List.mem_cons_of_mem _ (List.mem_of_mem_drop hz))) x hx
termination_by l.length
decreasing_by all_goals (simp; try omega)
theorem terms_ok (c : EConf) (hc : okConf c = true) (s : List UInt8) : ∀ x, x ∈ terms c s → okW x.1 = true :=
  termsF_ok c.2 (fun y hy => ((okConf_stops hc).2.2 y hy).2.2.1) _ (plain_ok c.1 s)
theorem entries_ok (c : EConf) (hc : okConf c = true) {docs : List EDoc} (hd : DOk docs) : ∀ e, e ∈ entriesS c docs → okW e.2.1 = true := by
  intro e he
  have hm := (entriesS_mem c hd.inn (keyE e)).1 (List.mem_map_of_mem he)
  obtain ⟨o, ho, hk⟩ := hm
  obtain ⟨d, _, ho⟩ := List.mem_flatMap.1 ho
  obtain ⟨f, _, ho⟩ := List.mem_flatMap.1 ho
  obtain ⟨t, ht, rfl⟩ := List.mem_map.1 ho
  have : e.2.1 = t.1 := (congrArg Prod.snd hk).symm
  rw [this]
  exact terms_ok c hc _ t ht
theorem entries_nodup (c : EConf) {docs : List EDoc} (hd : DOk docs) : ((entriesS c docs).map keyE).Nodup := (entriesS_up c docs).imp fun {a b} h e => by rw [e, ltK_irrefl] at h; cases h
end Go.Proofs.YtcjbjmbialienaaGreat

/- Plain law: the word that is nearest, both ways. -/
set_option linter.unusedVariables false
set_option linter.unusedSimpArgs false
namespace Go.Proofs.YtcjbjmbialienaaGreat
open Go.RowKit
abbrev EAcc := List UInt8 × Int × Int
def pick (w : List UInt8) (a : EAcc) (e : EEntry) : EAcc :=
  bif decide (far e.2.1 w < a.2.1) then (e.2.1, far e.2.1 w, (e.2.2.length : Int))
  else bif decide (far e.2.1 w = a.2.1) then bif decide (far e.2.1 w ≤ 2) then bif decide (a.2.2 < (e.2.2.length : Int)) then (e.2.1, far e.2.1 w, (e.2.2.length : Int)) else a else a else a
def pickIn (w field : List UInt8) (a : EAcc) (e : EEntry) : EAcc := if e.1 = field then pick w a e else a
def nearest (w field : List UInt8) (es : List EEntry) : EAcc := es.foldl (pickIn w field) ([], 3, 0)
def spellF (c : EConf) (s : ESeg) (field word : List UInt8) : List UInt8 := bif okSeg c s && okW word then (nearest (stemF word) field s.2).1 else []
def inField (field : List UInt8) (es : List EEntry) : List EEntry := es.filter fun e => decide (e.1 = field)
theorem nearest_in (w field : List UInt8) (es : List EEntry) : nearest w field es = (inField field es).foldl (pick w) ([], 3, 0) := by
  unfold nearest inField
  rw [List.foldl_filter]
  congr 1
  funext a e
  unfold pickIn
  by_cases h : e.1 = field
  · rw [if_pos h, if_pos (decide_eq_true h)]
  · rw [if_neg h, if_neg (by simp [h])]
theorem okSeg_ok {c : EConf} {s : ESeg} (h : okSeg c s = true) : okConf c = true ∧ DOk s.1 ∧ s.2 = entriesS c s.1 := by
  unfold okSeg at h
  simp only [Bool.and_eq_true, decide_eq_true_eq] at h
  exact ⟨h.1, okDocs_ok h.2.1, h.2.2.symm⟩
structure SegGood (s : ESeg) : Prop where
  small : Small 7680 s.2
  words : ∀ e, e ∈ s.2 → okW e.2.1 = true
  nodup : (s.2.map keyE).Nodup
theorem okSeg_good {c : EConf} {s : ESeg} (h : okSeg c s = true) : SegGood s := by
  obtain ⟨h1, h2, h3⟩ := okSeg_ok h
  exact ⟨by rw [h3]; exact entries_small c h2, by rw [h3]; exact entries_ok c h1 h2, by rw [h3]; exact entries_nodup c h2⟩
theorem spell_spec (N : Nat) (hM : Sm < N) (hN : N ≤ 16777216) (c : EConf) (ho : okD Sm TConf c) (s : ESeg) (hod : ∀ x, x ∈ s.1 → okD Sm TDoc x) (hl : s.1.length ≤ 1048576) (field word : List UInt8) (hw : word.length ≤ 1048576) : s_SpellOf_m N c.1 c.2 s.1 s.2 field word = some (spellF c s field word) := by
  have hM' : 1048576 < N := hM
  refine Def.get ?_
  unfold s_SpellOf_m
  refine Def.meet (fun g => g = (field, word, [], 3, 0, s.1, s.2) ∧ okSeg c s = true ∧ okW word = true) (fun g hg => ?_) (fun J hJ => ?_)
  · obtain ⟨rfl, h1, h2⟩ := hg
    have hg := okSeg_good h1
    have hwl := okW_len h2
    have hsl := hg.small.1
    dsimp only
    refine Def.meet (fun g => g = (field, [], 3, 0, stemF word, s.1, s.2)) (fun g hg2 => ?_) (fun J hJ => ?_)
    · subst hg2
      dsimp only
      have hst := stem_ok word h2
      have hstl := okW_len hst
      refine Def.upto s.2.length (fun n g => g = (field, ((s.2.take n).foldl (pickIn (stemF word) field) ([], 3, 0)).1, ((s.2.take n).foldl (pickIn (stemF word) field) ([], 3, 0)).2.1, ((s.2.take n).foldl (pickIn (stemF word) field) ([], 3, 0)).2.2, stemF word, (n : Int), s.1, s.2)) (fun go g hg2 => ?_) (fun go n g hn hg2 hgo => ?_) N 0 _ (Nat.zero_le _) rfl (by omega)
      · subst hg2
        dsimp only
        rw [decide_eq_false (Int.lt_irrefl _), cond_false, List.take_length]
        refine Def.ret ?_
        unfold spellF
        rw [h1, h2]
        rfl
      · subst hg2
        dsimp only
        have hstep := foldl_step (pickIn (stemF word) field) ([], 3, 0) s.2 n hn
        have hwn := okW_len (hg.words _ (List.getElem_mem hn))
        rw [decide_eq_true (by omega : (n : Int) < (s.2.length : Int)), cond_true, idx_at hn, Option.bind_some]
        generalize (s.2.take n).foldl (pickIn (stemF word) field) ([], 3, 0) = acc at *
        generalize (s.2.take (n + 1)).foldl (pickIn (stemF word) field) ([], 3, 0) = nxt at *
        refine Def.meet (fun g => g = (field, acc.1, acc.2.1, acc.2.2, stemF word, (n : Int), far s.2[n].2.1 (stemF word), s.1, s.2, s.2[n].1, s.2[n].2.1, s.2[n].2.2)) (fun g hg2 => ?_) (fun J hJ => ?_)
        · subst hg2
          dsimp only
          have hf := fits_nat (n := n) (by omega)
          simp only [if_pos hf]
          unfold pickIn at hstep
          by_cases hfe : s.2[n].1 = field
          · rw [decide_eq_true hfe, cond_true]
            rw [if_pos hfe] at hstep
            unfold pick at hstep
            by_cases a1 : far s.2[n].2.1 (stemF word) < acc.2.1
            · rw [decide_eq_true a1, cond_true] at *
              exact hgo _ (by rw [hstep, cast_succ'])
            · rw [decide_eq_false a1, cond_false] at *
              by_cases a2 : far s.2[n].2.1 (stemF word) = acc.2.1
              · rw [decide_eq_true a2, cond_true] at *
                by_cases a3 : far s.2[n].2.1 (stemF word) ≤ 2
                · rw [decide_eq_true a3, cond_true] at *
                  by_cases a4 : acc.2.2 < (s.2[n].2.2.length : Int)
                  · rw [decide_eq_true a4, cond_true] at *
                    exact hgo _ (by rw [hstep, cast_succ'])
                  · rw [decide_eq_false a4, cond_false] at *
                    exact hgo _ (by rw [hstep, cast_succ'])
                · rw [decide_eq_false a3, cond_false] at *
                  exact hgo _ (by rw [hstep, cast_succ'])
              · rw [decide_eq_false a2, cond_false] at *
                exact hgo _ (by rw [hstep, cast_succ'])
          · rw [decide_eq_false hfe, cond_false]
            rw [if_neg hfe] at hstep
            exact hgo _ (by rw [hstep, cast_succ'])
        · rw [l5Far_spec N _ _ (by omega) (by omega) (by omega), Option.bind_some]
          exact hJ _ rfl
    · rw [l2Stem_spec N word (by omega) (by omega), Option.bind_some]
      exact hJ _ rfl
  · rw [l7Ok_spec N hM hN c ho s hod hl, Option.bind_some]
    cases h1 : okSeg c s with
    | false => exact Def.ret (by unfold spellF; rw [h1]; rfl)
    | true =>
    rw [Bool.not_true, cond_false, l1WordOk_spec N word (by omega) (by omega), Option.bind_some]
    cases h2 : okW word with
    | false => exact Def.ret (by unfold spellF; rw [h2, Bool.and_false]; rfl)
    | true =>
    rw [Bool.not_true, cond_false]
    exact hJ _ ⟨rfl, h1, h2⟩
theorem segTerms_spec (N : Nat) (s : ESeg) (field : List UInt8) (hl : s.2.length < N) (hl2 : s.2.length ≤ 1000000) : i_Seg_terms_m N s field = some ((inField field s.2).map fun e => e.2.1) := by
  refine Def.get ?_
  unfold i_Seg_terms_m
  refine Def.upto s.2.length (fun n g => g = (field, (inField field (s.2.take n)).map (fun e => e.2.1), s.2, (s.2.length : Int), (n : Int))) (fun go g hg => ?_) (fun go n g hn hg hgo => ?_) N 0 _ (Nat.zero_le _) rfl (by omega)
  · subst hg
    dsimp only
    rw [decide_eq_false (Int.lt_irrefl _), cond_false, List.take_length]
    exact Def.ret rfl
  · subst hg
    dsimp only
    have hil : (inField field (s.2.take n)).length ≤ n := Nat.le_trans (List.length_filter_le _ _) (by rw [List.length_take]; omega)
    have hf := fits_nat (n := n) (by omega)
    rw [decide_eq_true (by omega : (n : Int) < (s.2.length : Int)), cond_true, idx_at hn, Option.bind_some]
    have hs : inField field (s.2.take (n + 1)) = inField field (s.2.take n) ++ (if s.2[n].1 = field then [s.2[n]] else []) := by
      unfold inField
      rw [List.take_succ_eq_append_getElem hn, List.filter_append]
      by_cases h : s.2[n].1 = field
      · simp [h]
      · simp [h]
    by_cases h : s.2[n].1 = field
    · rw [decide_eq_true h, cond_true, if_pos (room_of (by rw [List.length_map]; simp only [List.length_cons, List.length_nil]; omega) (by rw [List.length_map]; simp only [List.length_cons, List.length_nil]; omega)), if_pos hf]
      refine hgo _ ?_
      rw [hs, if_pos h, List.map_append, cast_succ']
      rfl
    · rw [decide_eq_false h, cond_false, if_pos hf]
      refine hgo _ ?_
      rw [hs, if_neg h, List.append_nil, cast_succ']
theorem nodup_at {es : List EEntry} (h : (es.map keyE).Nodup) {m n : Nat} (hm : m < es.length) (hn : n < es.length) (e : keyE es[m] = keyE es[n]) : m = n := by
  have h2 := List.pairwise_iff_getElem.1 (List.pairwise_map.1 h)
  rcases Nat.lt_trichotomy m n with hlt | hlt | hlt
  · exact absurd e (h2 m n hm hn hlt)
  · exact hlt
  · exact absurd e.symm (h2 n m hn hm hlt)
theorem segPosts_spec (N : Nat) (s : ESeg) (hl : s.2.length < N) (hl2 : s.2.length ≤ 1000000) (hn : (s.2.map keyE).Nodup) {e : EEntry} (he : e ∈ s.2) : i_Seg_posts_m N s e.1 e.2.1 = some e.2.2 := by
  refine Def.get ?_
  unfold i_Seg_posts_m
  obtain ⟨m, hm, rfl⟩ := List.mem_iff_getElem.1 he
  refine Def.upto s.2.length (fun n g => n ≤ m ∧ g = (s.2[m].1, s.2[m].2.1, s.2, (s.2.length : Int), (n : Int))) (fun go g hg => ?_) (fun go n g hnn hg hgo => ?_) N 0 _ (Nat.zero_le _) ⟨Nat.zero_le _, rfl⟩ (by omega)
  · exact absurd hg.1 (by omega)
  · obtain ⟨hnm, rfl⟩ := hg
    dsimp only
    have hf := fits_nat (n := n) (by omega)
    rw [decide_eq_true (by omega : (n : Int) < (s.2.length : Int)), cond_true, idx_at hnn, Option.bind_some, if_pos hf]
    by_cases e : n = m
    · subst e
      rw [decide_eq_true rfl, cond_true, decide_eq_true rfl, cond_true]
      exact Def.ret rfl
    · by_cases h1 : s.2[n].1 = s.2[m].1
      · rw [decide_eq_true h1, cond_true]
        by_cases h2 : s.2[n].2.1 = s.2[m].2.1
        · exact absurd (nodup_at hn hnn hm (Prod.ext h1 h2)) e
        · rw [decide_eq_false h2, cond_false]
          exact hgo _ ⟨by omega, by rw [cast_succ']⟩
      · rw [decide_eq_false h1, cond_false]
        exact hgo _ ⟨by omega, by rw [cast_succ']⟩
theorem iSpell_spec (N : Nat) (hM : Sm < N) (hN : N ≤ 16777216) (c : EConf) (ho : okD Sm TConf c) (s : ESeg) (hod : ∀ x, x ∈ s.1 → okD Sm TDoc x) (hl : s.1.length ≤ 1048576) (field word : List UInt8) (hw : word.length ≤ 1048576) : i_SpellOf_m N c.1 c.2 s.1 s.2 field word = some (spellF c s field word) := by
  have hM' : 1048576 < N := hM
  refine Def.get ?_
  unfold i_SpellOf_m
  rw [segOk_spec N hM hN c ho s hod hl, Option.bind_some]
  cases h1 : okSeg c s with
  | false => exact Def.ret (by unfold spellF; rw [h1]; rfl)
  | true =>
  rw [Bool.not_true, cond_false, wordOk_spec N word (by omega) (by omega), Option.bind_some]
  cases h2 : okW word with
  | false => exact Def.ret (by unfold spellF; rw [h2, Bool.and_false]; rfl)
  | true =>
  have hg := okSeg_good h1
  have hwl := okW_len h2
  have hsl := hg.small.1
  have hst := stem_ok word h2
  have hstl := okW_len hst
  rw [Bool.not_true, cond_false, segTerms_spec N (s.1, s.2) field (by show s.2.length < N; omega) (by show s.2.length ≤ _; omega), Option.bind_some]
  have hil : (inField field s.2).length ≤ s.2.length := List.length_filter_le _ _
  have hin : ∀ e, e ∈ inField field s.2 → e ∈ s.2 ∧ e.1 = field := fun e he => by
    have := List.mem_filter.1 he
    exact ⟨this.1, of_decide_eq_true this.2⟩
  have hres : spellF c s field word = ((inField field s.2).foldl (pick (stemF word)) ([], 3, 0)).1 := by
    unfold spellF
    rw [h1, h2, Bool.and_self, cond_true, nearest_in]
  show Def (iter _ N (field, word, ([] : List UInt8), (3 : Int), (0 : Int), (inField field s.2).map (fun e => e.2.1), (((inField field s.2).map (fun e => e.2.1)).length : Int), (0 : Int), s.1, s.2)) _
  generalize inField field s.2 = ts at *
  rw [List.length_map]
  refine Def.upto ts.length (fun n g => g = (field, word, ((ts.take n).foldl (pick (stemF word)) ([], 3, 0)).1, ((ts.take n).foldl (pick (stemF word)) ([], 3, 0)).2.1, ((ts.take n).foldl (pick (stemF word)) ([], 3, 0)).2.2, ts.map (fun e => e.2.1), (ts.length : Int), (n : Int), s.1, s.2)) (fun go g hg2 => ?_) (fun go n g hn hg2 hgo => ?_) N 0 _ (Nat.zero_le _) rfl (by omega)
  · subst hg2
    dsimp only
    rw [decide_eq_false (Int.lt_irrefl _), cond_false, List.take_length]
    exact Def.ret hres.symm
  · subst hg2
    dsimp only
    have hstep := foldl_step (pick (stemF word)) ([], 3, 0) ts n hn
    have hmem := hin _ (List.getElem_mem hn)
    have hwo := hg.words _ hmem.1
    have hwn := okW_len hwo
    have hf := fits_nat (n := n) (by omega)
    have hp := segPosts_spec N (s.1, s.2) (by show s.2.length < N; omega) (by show s.2.length ≤ _; omega) hg.nodup hmem.1
    rw [hmem.2] at hp
    rw [decide_eq_true (by omega : (n : Int) < (ts.length : Int)), cond_true, idx_at (xs := ts.map fun e => e.2.1) (n := n) (by rw [List.length_map]; exact hn), Option.bind_some, List.getElem_map, stemOf_spec N word (by omega) (by omega) (by omega), h2, cond_true, Option.bind_some, nearFar_spec N _ _ (by omega) (by omega) (by omega) (by omega), Option.bind_some, hwo, hst, Bool.and_self, cond_true, hp, Option.bind_some]
    simp only [if_pos hf]
    generalize (ts.take n).foldl (pick (stemF word)) ([], 3, 0) = acc at *
    generalize (ts.take (n + 1)).foldl (pick (stemF word)) ([], 3, 0) = nxt at *
    unfold pick at hstep
    by_cases a1 : far ts[n].2.1 (stemF word) < acc.2.1
    · rw [decide_eq_true a1, cond_true] at *
      exact hgo _ (by rw [hstep, cast_succ'])
    · rw [decide_eq_false a1, cond_false] at *
      by_cases a2 : far ts[n].2.1 (stemF word) = acc.2.1
      · rw [decide_eq_true a2, cond_true] at *
        by_cases a3 : far ts[n].2.1 (stemF word) ≤ 2
        · rw [decide_eq_true a3, cond_true] at *
          by_cases a4 : acc.2.2 < (ts[n].2.2.length : Int)
          · rw [decide_eq_true a4, cond_true] at *
            exact hgo _ (by rw [hstep, cast_succ'])
          · rw [decide_eq_false a4, cond_false] at *
            exact hgo _ (by rw [hstep, cast_succ'])
        · rw [decide_eq_false a3, cond_false] at *
          exact hgo _ (by rw [hstep, cast_succ'])
      · rw [decide_eq_false a2, cond_false] at *
        exact hgo _ (by rw [hstep, cast_succ'])
end Go.Proofs.YtcjbjmbialienaaGreat

/- Plain law: two words are at distance nought where they are the same; what the nearest word is. -/
set_option linter.unusedVariables false
set_option linter.unusedSimpArgs false
namespace Go.Proofs.YtcjbjmbialienaaGreat
open Go.RowKit
theorem farCells_len (x : UInt8) (b : List UInt8) (row : List Int) (i k : Nat) : (farCells x b row i k).1.length = row.length := by
  induction k with
  | zero => show (row.set 0 _).length = _; rw [List.length_set]
  | succ k ih =>
    rw [farCells_succ]
    show ((farCells x b row i k).1.set (k + 1) _).length = _
    rw [List.length_set]; exact ih
theorem farCells_stay (x : UInt8) (b : List UInt8) (row : List Int) (i : Nat) {j k : Nat} (h : j ≤ k) : (farCells x b row i k).1.getD j 0 = (farCells x b row i j).1.getD j 0 := by
  induction k with
  | zero => obtain rfl : j = 0 := by omega
            rfl
  | succ k ih =>
    by_cases hj : j = k + 1
    · subst hj; rfl
    · rw [farCells_succ]
      show ((farCells x b row i k).1.set (k + 1) _).getD j 0 = _
      rw [getD_set_ne _ (by omega)]
      exact ih (by omega)
def cell (a b : List UInt8) (i j : Nat) : Int := (farRows a b i).getD j 0
theorem initRow_at (n k j : Nat) (hk : k ≤ n) (hj : j < k) : (initRow n k).getD j 0 = (j : Int) := by
  induction k with
  | zero => omega
  | succ k ih =>
    rw [initRow_succ]
    by_cases h : j = k
    · subst h
      have hl : ∀ m, m ≤ n → (initRow n m).length = n := fun m => by
        induction m with
        | zero => intro _; simp [initRow]
        | succ m ihm => intro hm; rw [initRow_succ, List.length_set]; exact ihm (by omega)
      exact getD_set_self _ (by rw [hl j (by omega)]; omega)
    · rw [getD_set_ne _ (by omega)]
      exact ih (by omega) (by omega)
theorem cell_zero (a b : List UInt8) (j : Nat) (h : j ≤ b.length) : cell a b 0 j = (j : Int) := initRow_at _ _ _ (Nat.le_refl _) (by omega)
theorem cell_left (a b : List UInt8) (i : Nat) : cell a b (i + 1) 0 = (i : Int) + 1 := by
  unfold cell
  rw [farRows_succ]
  unfold farRow
  rw [farCells_stay _ _ _ _ (Nat.zero_le _)]
  have hl := (farRows_in a b i).1
  show ((farRows a b i).set 0 ((i : Int) + 1)).getD 0 0 = _
  exact getD_set_self _ (by omega)
theorem cell_next (a b : List UInt8) (i j : Nat) (hj : j < b.length) : cell a b (i + 1) (j + 1) = min (cell a b i j + (if a.getD i 0 = b.getD j 0 then 0 else 1)) (min (cell a b (i + 1) j) (cell a b i (j + 1)) + 1) := by
  unfold cell
  rw [farRows_succ]
  unfold farRow
  rw [farCells_stay _ _ _ _ (show j + 1 ≤ b.length from hj), farCells_stay _ _ _ _ (show j ≤ b.length from by omega), farCells_succ]
  have hl := (farRows_in a b i).1
  have hk := farCells_keep (a.getD i 0) b (farRows a b i) i j
  have hlen := farCells_len (a.getD i 0) b (farRows a b i) i j
  show ((farCells (a.getD i 0) b (farRows a b i) i j).1.set (j + 1) _).getD (j + 1) 0 = _
  rw [getD_set_self _ (by omega), hk.1, hk.2 (j + 1) (by omega)]
theorem cell_nonneg (a b : List UInt8) (i j : Nat) : 0 ≤ cell a b i j := ((farRows_in a b i).at j).1
theorem getD_get {l : List UInt8} {i : Nat} (h : i < l.length) : l.getD i 0 = l[i] := by rw [List.getD_eq_getElem?_getD, List.getElem?_eq_getElem h]; rfl
theorem cell_eq0 (a b : List UInt8) : ∀ i, i ≤ a.length → ∀ j, j ≤ b.length → cell a b i j = 0 → i = j ∧ a.take i = b.take j := by
  intro i
  induction i with
  | zero =>
    intro _ j hj h
    rw [cell_zero a b j hj] at h
    obtain rfl : j = 0 := by omega
    exact ⟨rfl, rfl⟩
  | succ i ih =>
    intro hi j hj h
    cases j with
    | zero => rw [cell_left] at h; omega
    | succ j =>
      have h1 := cell_nonneg a b (i + 1) j
      have h2 := cell_nonneg a b i (j + 1)
      have h3 := cell_nonneg a b i j
      rw [cell_next a b i j hj] at h
      by_cases he : a.getD i 0 = b.getD j 0
      · rw [if_pos he] at h
        obtain ⟨rfl, ht⟩ := ih (by omega) j (by omega) (by omega)
        refine ⟨rfl, ?_⟩
        rw [List.take_succ_eq_append_getElem (by omega), List.take_succ_eq_append_getElem (by omega), ht, ← getD_get, ← getD_get, he]
      · rw [if_neg he] at h
        omega
theorem cell_same (a : List UInt8) : ∀ i, i ≤ a.length → cell a a i i = 0 := by
  intro i
  induction i with
  | zero => intro _; exact cell_zero a a 0 (Nat.zero_le _)
  | succ i ih =>
    intro hi
    have h1 := cell_nonneg a a (i + 1) i
    have h2 := cell_nonneg a a i (i + 1)
    rw [cell_next a a i i (by omega), ih (by omega), if_pos rfl]
    omega
theorem far_zero (a b : List UInt8) : far a b = 0 ↔ a = b := by
  constructor
  · intro h
    obtain ⟨_, h⟩ := cell_eq0 a b a.length (Nat.le_refl _) b.length (Nat.le_refl _) h
    rwa [List.take_length, List.take_length] at h
  · rintro rfl
    exact cell_same a a.length (Nat.le_refl _)
theorem far_nonneg (a b : List UInt8) : 0 ≤ far a b := cell_nonneg a b a.length b.length
/-- What the nearest of some entries is. -/
structure Best (w : List UInt8) (ts : List EEntry) (a : EAcc) : Prop where
  none : a.1 = [] → a = ([], 3, 0) ∧ ∀ e, e ∈ ts → 2 < far e.2.1 w
  some : a.1 ≠ [] → (∃ e, e ∈ ts ∧ a = (e.2.1, far e.2.1 w, (e.2.2.length : Int))) ∧ a.2.1 ≤ 2 ∧ ∀ e, e ∈ ts → a.2.1 ≤ far e.2.1 w ∧ (far e.2.1 w = a.2.1 → (e.2.2.length : Int) ≤ a.2.2)
theorem pick_best (w : List UInt8) (ts : List EEntry) (a : EAcc) (h : Best w ts a) (e : EEntry) (he : e.2.1 ≠ []) : Best w (ts ++ [e]) (pick w a e) := by
  have hsnoc : ∀ (P : EEntry → Prop), (∀ x, x ∈ ts → P x) → P e → ∀ x, x ∈ ts ++ [e] → P x := fun P h1 h2 x hx => by
    rcases List.mem_append.1 hx with hx | hx
    · exact h1 x hx
    · rw [List.mem_singleton] at hx; subst hx; exact h2
  have hnew : a.2.1 ≤ 3 := by
    by_cases h0 : a.1 = []
    · rw [(h.none h0).1]; exact Int.le_refl _
    · have := (h.some h0).2.1; omega
  have hmin : ∀ x, x ∈ ts → a.2.1 ≤ far x.2.1 w ∧ (far x.2.1 w = a.2.1 → far x.2.1 w ≤ 2 → (x.2.2.length : Int) ≤ a.2.2) := fun x hx => by
    by_cases h0 : a.1 = []
    · have h1 := (h.none h0).2 x hx
      rw [(h.none h0).1]
      exact ⟨by show (3 : Int) ≤ _; omega, fun _ _ => by omega⟩
    · have h1 := (h.some h0).2.2 x hx
      exact ⟨h1.1, fun h2 _ => h1.2 h2⟩
  unfold pick
  by_cases a1 : far e.2.1 w < a.2.1
  · rw [decide_eq_true a1, cond_true]
    refine ⟨fun h0 => absurd h0 he, fun _ => ⟨⟨e, by simp, rfl⟩, by show far e.2.1 w ≤ 2; omega, hsnoc _ (fun x hx => ?_) ⟨Int.le_refl _, fun _ => Int.le_refl _⟩⟩⟩
    have := hmin x hx
    exact ⟨by show far e.2.1 w ≤ _; omega, fun h2 => by have h3 : far x.2.1 w = far e.2.1 w := h2; omega⟩
  · rw [decide_eq_false a1, cond_false]
    by_cases h0 : a.1 = []
    · have hn := h.none h0
      have h3 : a.2.1 = 3 := by rw [hn.1]
      have hsame : (bif decide (far e.2.1 w = a.2.1) then bif decide (far e.2.1 w ≤ 2) then bif decide (a.2.2 < (e.2.2.length : Int)) then (e.2.1, far e.2.1 w, (e.2.2.length : Int)) else a else a else a) = a := by
        rw [decide_eq_false (by omega : ¬ far e.2.1 w ≤ 2), cond_false, Bool.cond_self]
      rw [hsame]
      exact ⟨fun _ => ⟨hn.1, hsnoc _ hn.2 (by omega)⟩, fun h1 => absurd h0 h1⟩
    · obtain ⟨⟨x, hx, hax⟩, h2, h3⟩ := h.some h0
      have hstay : (far e.2.1 w = a.2.1 → (e.2.2.length : Int) ≤ a.2.2) → Best w (ts ++ [e]) a := fun hle => ⟨fun h1 => absurd h1 h0, fun _ => ⟨⟨x, List.mem_append_left _ hx, hax⟩, h2, hsnoc _ h3 ⟨by omega, hle⟩⟩⟩
      by_cases a2 : far e.2.1 w = a.2.1
      · rw [decide_eq_true a2, cond_true, decide_eq_true (by omega : far e.2.1 w ≤ 2), cond_true]
        by_cases a4 : a.2.2 < (e.2.2.length : Int)
        · rw [decide_eq_true a4, cond_true]
          refine ⟨fun h1 => absurd h1 he, fun _ => ⟨⟨e, by simp, rfl⟩, by show far e.2.1 w ≤ 2; omega, hsnoc _ (fun y hy => ?_) ⟨Int.le_refl _, fun _ => Int.le_refl _⟩⟩⟩
          have := h3 y hy
          exact ⟨by show far e.2.1 w ≤ _; omega, fun h4 => by
            have h5 : far y.2.1 w = far e.2.1 w := h4
            have := this.2 (by omega)
            show (y.2.2.length : Int) ≤ (e.2.2.length : Int)
            omega⟩
        · rw [decide_eq_false a4, cond_false]
          exact hstay fun _ => by omega
      · rw [decide_eq_false a2, cond_false]
        exact hstay fun h1 => absurd h1 a2
theorem nearest_best (w field : List UInt8) (es : List EEntry) (he : ∀ e, e ∈ es → e.2.1 ≠ []) : Best w (inField field es) (nearest w field es) := by
  rw [nearest_in]
  have hin : ∀ e, e ∈ inField field es → e.2.1 ≠ [] := fun e h => he e (List.mem_filter.1 h).1
  generalize inField field es = ts at *
  have key : ∀ n, n ≤ ts.length → Best w (ts.take n) ((ts.take n).foldl (pick w) ([], 3, 0)) := by
    intro n
    induction n with
    | zero => intro _; exact ⟨fun _ => ⟨rfl, fun e h => by cases h⟩, fun h => absurd rfl h⟩
    | succ n ih =>
      intro hn
      rw [foldl_step _ _ _ _ (by omega), List.take_succ_eq_append_getElem (by omega)]
      exact pick_best w _ _ (ih (by omega)) _ (hin _ (List.getElem_mem _))
  have := key ts.length (Nat.le_refl _)
  rwa [List.take_length] at this
end Go.Proofs.YtcjbjmbialienaaGreat

