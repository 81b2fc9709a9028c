import Derived.Test.YtcjbjmbialienaaGreatDoorSA
import Derived.Test.YtcjbjmbialienaaGreatDoorSI
set_option linter.unusedVariables false
set_option linter.unusedSimpArgs false
namespace Go.Proofs.YtcjbjmbialienaaGreatDoor
open Go.RowKit
theorem jaG {α β : Type} (g : α → List β) (B : Nat) : ∀ l : List α, (∀ x, x ∈ l → (g x).length ≤ B) → (l.flatMap g).length ≤ B * l.length
 | [], _ => by simp
 | x :: l, h => by
  have h1 := jaG g B l fun y hy => h y (zl _ hy)
  have h2 := h x zy
  rw [zbu, zam, zi, Nat.mul_succ]
  omega
theorem jbc {α β : Type} (g : α → List β) (l : List α) (n : Nat) (h : n < l.length) : (l.take (n + 1)).flatMap g = (l.take n).flatMap g ++ g l[n] := by
 rw [zo h, List.flatMap_append, zbu, List.flatMap_nil, zat]
theorem jeQ {α β : Type} (g : α → β) (l : List α) (n : Nat) (h : n < l.length) : (l.take (n + 1)).map g = (l.take n).map g ++ [g l[n]] := by
 rw [zo h, zaK]; rfl
theorem jg3 {docs : List EDoc} (hd : DOk docs) (n : Nat) : (namesS (docs.take n)).length ≤ 48 := by
 unfold namesS
 have h1 := putSs_len (fun f : EField => f.1) ((docs.take n).flatMap fun d => d.2.1) []
 have h2 := jaG (fun d : EDoc => d.2.1) 3 (docs.take n) fun d hd' => (hd.each d (zaP hd')).1
 have h3 : (docs.take n).length ≤ 16 := by rw [zah]; have := hd.few; omega
 simp only [zac] at h1
 omega
theorem jti (N : Nat) {docs : List EDoc} (hd : DOk docs) (hN : 1048576 < N) : jcK N docs = some (namesS docs) := by
 unfold jcK
 have hf := hd.few
 refine (iter_scan _ docs.length (fun n => (docs, namesS (docs.take n), (n : Int))) (fun _ => some (namesS docs)) (fun go => ?_) (fun go n hn hgo => ?_) N 0 (zaf _) (by omega)).trans rfl
 ·dsimp only
  rw [zd (zm _), ze, zq]
 ·dsimp only
  have hm := zr hn
  have he := (hd.each _ hm).1
  rw [zb (by omega : (n : Int) < (docs.length : Int)), zg, ← hgo]
  have hst : namesS (docs.take (n + 1)) = docs[n].2.1.foldl (fun a f => putS a f.1) (namesS (docs.take n)) := by unfold namesS; rw [jbc _ _ _ hn, zaX]
  refine (iter_scan _ docs[n].2.1.length (fun k => (docs, (docs[n].2.1.take k).foldl (fun a f => putS a f.1) (namesS (docs.take n)), (n : Int), (k : Int))) (fun _ => go (docs, namesS (docs.take (n + 1)), ((n + 1 : Nat) : Int))) (fun go2 => ?_) (fun go2 k hk hgo2 => ?_) N 0 (zaf _) (by omega)).trans rfl
  ·dsimp only
   rw [idx_at hn, za, zd (zm _), ze, zq, ← hst, zf (fits_nat (n := n) (by omega)), cast_succ']
  ·dsimp only
   have hl := putSs_len (fun f : EField => f.1) (docs[n].2.1.take k) (namesS (docs.take n))
   have hl2 := jg3 hd n
   rw [zah] at hl
   rw [idx_at hn, za, zb (by omega : (k : Int) < (docs[n].2.1.length : Int)), zg, za, idx_at hk, za, l7Put_spec N _ _ (by omega) hN, za, zf (fits_nat (n := k) (by omega)), ← hgo2, jbt _ _ _ _ hk, cast_succ']
theorem jd7 (c : EConf) {docs : List EDoc} (hd : DOk docs) (f : List UInt8) (n : Nat) : (termsL c (docs.take n) f).length ≤ 2560 := by
 unfold termsL
 have h1 := putSs_len (fun t : ETerm => t.1) ((docs.take n).flatMap fun d => terms c (fieldF d.2.1 f)) []
 have h2 := jaG (fun d : EDoc => terms c (fieldF d.2.1 f)) 160 (docs.take n) fun d hd' => zau (terms_len c _) (hd.text (zaP hd') f)
 have h3 : (docs.take n).length ≤ 16 := by rw [zah]; have := hd.few; omega
 simp only [zac] at h1
 omega
theorem jsS (N : Nat) (c : EConf) (hc : okConf c = true) {docs : List EDoc} (hd : DOk docs) (f : List UInt8) (hN : 1048576 < N) : jck N c.1 c.2 docs f = some (termsL c docs f) := by
 unfold jck
 have hf := hd.few
 refine (iter_scan _ docs.length (fun n => (docs, f, termsL c (docs.take n) f, (n : Int), c.1, c.2)) (fun _ => some (termsL c docs f)) (fun go => ?_) (fun go n hn hgo => ?_) N 0 (zaf _) (by omega)).trans rfl
 ·dsimp only
  rw [zd (zm _), ze, zq]
 ·dsimp only
  have hm := zr hn
  have he := (hd.each _ hm).1
  have htx := hd.text hm f
  rw [zb (by omega : (n : Int) < (docs.length : Int)), zg, idx_at hn, za, l6Field_spec N _ _ _ _ (by omega) hN, za, l2Terms_spec N c _ (by omega) hN hc, za, ← hgo]
  have hst : termsL c (docs.take (n + 1)) f = (terms c (fieldF docs[n].2.1 f)).foldl (fun a t => putS a t.1) (termsL c (docs.take n) f) := by unfold termsL; rw [jbc _ _ _ hn, zaX]
  have htl := terms_len c (fieldF docs[n].2.1 f)
  generalize terms c (fieldF docs[n].2.1 f) = ts at hst htl
  refine (iter_scan _ ts.length (fun k => (docs, f, (ts.take k).foldl (fun a t => putS a t.1) (termsL c (docs.take n) f), (n : Int), ts, (k : Int), c.1, c.2)) (fun _ => go (docs, f, termsL c (docs.take (n + 1)) f, ((n + 1 : Nat) : Int), c.1, c.2)) (fun go2 => ?_) (fun go2 k hk hgo2 => ?_) N 0 (zaf _) (by omega)).trans rfl
  ·dsimp only
   rw [zd (zm _), ze, zq, ← hst, zf (fits_nat (n := n) (by omega)), cast_succ']
  ·dsimp only
   have hl := putSs_len (fun t : ETerm => t.1) (ts.take k) (termsL c (docs.take n) f)
   have hl2 := jd7 c hd f n
   rw [zah] at hl
   rw [zb (by omega : (k : Int) < (ts.length : Int)), zg, idx_at hk, za, l7Put_spec N _ _ (by omega) hN, za, zf (fits_nat (n := k) (by omega)), ← hgo2, jbt _ _ _ _ hk, cast_succ']
theorem jla (N : Nat) (d : EDoc) (h1 : d.2.1.length ≤ 3) (h2 : d.2.2.length ≤ 3) : jb9 N d.1 d.2.1 d.2.2 = some d := by
 unfold jb9
 rw [zf (room_of (by simp; omega) (by simp; omega)), zf (room_of (by simp; omega) (by simp; omega))]
 rfl
theorem jpK (N : Nat) (c : EConf) (hc : okConf c = true) {docs : List EDoc} (hd : DOk docs) (hN : 1048576 < N) : jb8 N c.1 c.2 docs = some (docs, entriesS c docs) := by
 unfold jb8
 have hf := hd.few
 have hnl := jg3 hd docs.length
 rw [zq] at hnl
 rw [jti N hd hN, za]
 have hE : ∀ n : Nat, ((namesS docs).take n).flatMap (fun f => (termsL c docs f).map fun t => ((f, t, postsS c docs (f, t)) : EEntry)) = ((namesS docs).take n).flatMap fun f => (termsL c docs f).map fun t => (f, t, postsS c docs (f, t)) := fun _ => rfl
 have hEl : ∀ n : Nat, (((namesS docs).take n).flatMap fun f => (termsL c docs f).map fun t => ((f, t, postsS c docs (f, t)) : EEntry)).length ≤ 122880 := fun n => by
  have h2 := jaG (fun f => (termsL c docs f).map fun t => ((f, t, postsS c docs (f, t)) : EEntry)) 2560 ((namesS docs).take n) fun f _ => by
   rw [zar]
   have := jd7 c hd f docs.length
   rw [zq] at this
   exact this
  have h3 : ((namesS docs).take n).length ≤ 48 := by rw [zah]; omega
  omega
 refine (iter_scan _ (namesS docs).length (fun n => (docs, namesS docs, (n : Int), c.1, c.2, ((namesS docs).take n).flatMap fun f => (termsL c docs f).map fun t => ((f, t, postsS c docs (f, t)) : EEntry))) (fun _ => some (docs, entriesS c docs)) (fun go => ?_) (fun go n hn hgo => ?_) N 0 (zaf _) (by omega)).trans rfl
 ·dsimp only
  rw [zd (zm _), ze, zq]
  show iter _ N (docs, 0, [], entriesS c docs) = _
  refine (iter_scan _ docs.length (fun k => (docs, (k : Int), docs.take k, entriesS c docs)) (fun _ => some (docs, entriesS c docs)) (fun go2 => ?_) (fun go2 k hk hgo2 => ?_) N 0 (zaf _) (by omega)).trans rfl
  ·dsimp only
   rw [zd (zm _), ze, zq]
  ·dsimp only
   have he := hd.each _ (zr hk)
   rw [zb (by omega : (k : Int) < (docs.length : Int)), zg, idx_at hk, za, jla N docs[k] he.1 he.2.1, za, zf (room_of (by simp; omega) (by simp; omega)), zf (fits_nat (n := k) (by omega)), ← hgo2, zo hk, cast_succ']
 ·dsimp only
  have htl := jd7 c hd (namesS docs)[n] docs.length
  rw [zq] at htl
  rw [zb (by omega : (n : Int) < ((namesS docs).length : Int)), zg, idx_at hn, za, jsS N c hc hd _ hN, za, ← hgo]
  rw [show (((namesS docs).take n).flatMap fun f => (termsL c docs f).map fun t => ((f, t, postsS c docs (f, t)) : EEntry)) = (((namesS docs).take n).flatMap fun f => (termsL c docs f).map fun t => ((f, t, postsS c docs (f, t)) : EEntry)) ++ ((termsL c docs (namesS docs)[n]).take 0).map (fun t => (((namesS docs)[n], t, postsS c docs ((namesS docs)[n], t)) : EEntry)) from by simp]
  refine (iter_scan _ (termsL c docs (namesS docs)[n]).length (fun k => (docs, namesS docs, (n : Int), termsL c docs (namesS docs)[n], (k : Int), c.1, c.2, (((namesS docs).take n).flatMap fun f => (termsL c docs f).map fun t => ((f, t, postsS c docs (f, t)) : EEntry)) ++ ((termsL c docs (namesS docs)[n]).take k).map fun t => (((namesS docs)[n], t, postsS c docs ((namesS docs)[n], t)) : EEntry))) (fun _ => go (docs, namesS docs, ((n + 1 : Nat) : Int), c.1, c.2, ((namesS docs).take (n + 1)).flatMap fun f => (termsL c docs f).map fun t => ((f, t, postsS c docs (f, t)) : EEntry))) (fun go2 => ?_) (fun go2 k hk hgo2 => ?_) N 0 (zaf _) (by omega)).trans rfl
  ·dsimp only
   rw [zd (zm _), ze, zq, zf (fits_nat (n := n) (by omega)), cast_succ', jbc _ _ _ hn]
  ·dsimp only
   have hel := hEl n
   rw [zb (by omega : (k : Int) < ((termsL c docs (namesS docs)[n]).length : Int)), zg, idx_at hn, za, idx_at hk, za, l7Entry_spec N c hc hd _ _ hN, za, zf (room_of (by rw [zam, zar, zah]; simp only [zi, zac]; omega) (by rw [zam, zar, zah]; simp only [zi, zac]; omega)), zf (fits_nat (n := k) (by omega)), ← hgo2, jeQ _ _ _ hk, ← zao, cast_succ']
end Go.Proofs.YtcjbjmbialienaaGreatDoor
namespace Go.Proofs.YtcjbjmbialienaaGreatDoor
open Go.RowKit
def putB (b : List EDoc) (B : List EEntry) (x : Int) (t2 id : Int) : Option (List EDoc × List EEntry) :=
 (if 0 ≤ x ∧ x < (B.length : Int) then
 (Option.bind (B[x.toNat]?) fun (e25 : (List UInt8) × (List UInt8) × (List (Int × (List Int)))) =>
 (if fits ((e25.2.2.length : Int) - 1) then (bif (decide (((e25.2.2.length : Int) - 1) < 0)) then
 (Option.bind (B[x.toNat]?) fun (e26 : (List UInt8) × (List UInt8) × (List (Int × (List Int)))) =>
 (if x.toNat = x.toNat then
 (if room e25.2.2.length ([(id, ([] : List Int))] : List (Int × (List Int))).length 32 then
 (if x.toNat = x.toNat then
 (Option.bind (B[x.toNat]?) fun (e27 : (List UInt8) × (List UInt8) × (List (Int × (List Int)))) =>
 (if fits (((e25.2.2.length : Int) - 1) + 1) then (Option.bind ((B.set x.toNat (e27.1, e27.2.1, (e25.2.2 ++ ([(id, ([] : List Int))] : List (Int × (List Int))))))[x.toNat]?) fun (e28 : (List UInt8) × (List UInt8) × (List (Int × (List Int)))) =>
 (Option.bind (e28.2.2[(((e25.2.2.length : Int) - 1) + 1).toNat]?) fun (e29 : Int × (List Int)) =>
 (Option.bind ((B.set x.toNat (e27.1, e27.2.1, (e25.2.2 ++ ([(id, ([] : List Int))] : List (Int × (List Int))))))[x.toNat]?) fun (e30 : (List UInt8) × (List UInt8) × (List (Int × (List Int)))) =>
 (if x.toNat = x.toNat then
 (Option.bind ((B.set x.toNat (e27.1, e27.2.1, (e25.2.2 ++ ([(id, ([] : List Int))] : List (Int × (List Int))))))[x.toNat]?) fun (e31 : (List UInt8) × (List UInt8) × (List (Int × (List Int)))) =>
 (if x.toNat = x.toNat then
 (if 0 ≤ (((e25.2.2.length : Int) - 1) + 1) ∧ (((e25.2.2.length : Int) - 1) + 1) < (e28.2.2.length : Int) then
 (Option.bind (e28.2.2[(((e25.2.2.length : Int) - 1) + 1).toNat]?) fun (e32 : Int × (List Int)) =>
 (if (((e25.2.2.length : Int) - 1) + 1).toNat = (((e25.2.2.length : Int) - 1) + 1).toNat then
 (if room e29.2.length ([t2] : List Int).length 8 then
 (if 0 ≤ (((e25.2.2.length : Int) - 1) + 1) ∧ (((e25.2.2.length : Int) - 1) + 1) < (e28.2.2.length : Int) then
 (if (((e25.2.2.length : Int) - 1) + 1).toNat = (((e25.2.2.length : Int) - 1) + 1).toNat then
 (Option.bind (e28.2.2[(((e25.2.2.length : Int) - 1) + 1).toNat]?) fun (e33 : Int × (List Int)) =>
 (some (b, ((B.set x.toNat (e27.1, e27.2.1, (e25.2.2 ++ ([(id, ([] : List Int))] : List (Int × (List Int)))))).modify x.toNat fun y4 => (y4.1, y4.2.1, (e28.2.2.set (((e25.2.2.length : Int) - 1) + 1).toNat (e33.1, (e29.2 ++ ([t2] : List Int)))))))))
 else none)
 else none)
 else none)
 else none))
 else none)
 else none))
 else none)))) else none))
 else none)
 else none)
 else none))
 else
 (Option.bind (B[x.toNat]?) fun (e34 : (List UInt8) × (List UInt8) × (List (Int × (List Int)))) =>
 (if x.toNat = x.toNat then
 (if 0 ≤ ((e25.2.2.length : Int) - 1) ∧ ((e25.2.2.length : Int) - 1) < (e25.2.2.length : Int) then
 (Option.bind (e25.2.2[((e25.2.2.length : Int) - 1).toNat]?) fun (e35 : Int × (List Int)) =>
 (bif (!decide (e35.1 = id)) then
 (Option.bind (B[x.toNat]?) fun (e36 : (List UInt8) × (List UInt8) × (List (Int × (List Int)))) =>
 (if x.toNat = x.toNat then
 (if room e25.2.2.length ([(id, ([] : List Int))] : List (Int × (List Int))).length 32 then
 (if x.toNat = x.toNat then
 (Option.bind (B[x.toNat]?) fun (e37 : (List UInt8) × (List UInt8) × (List (Int × (List Int)))) =>
 (if fits (((e25.2.2.length : Int) - 1) + 1) then (Option.bind ((B.set x.toNat (e37.1, e37.2.1, (e25.2.2 ++ ([(id, ([] : List Int))] : List (Int × (List Int))))))[x.toNat]?) fun (e38 : (List UInt8) × (List UInt8) × (List (Int × (List Int)))) =>
 (Option.bind (e38.2.2[(((e25.2.2.length : Int) - 1) + 1).toNat]?) fun (e39 : Int × (List Int)) =>
 (Option.bind ((B.set x.toNat (e37.1, e37.2.1, (e25.2.2 ++ ([(id, ([] : List Int))] : List (Int × (List Int))))))[x.toNat]?) fun (e40 : (List UInt8) × (List UInt8) × (List (Int × (List Int)))) =>
 (if x.toNat = x.toNat then
 (Option.bind ((B.set x.toNat (e37.1, e37.2.1, (e25.2.2 ++ ([(id, ([] : List Int))] : List (Int × (List Int))))))[x.toNat]?) fun (e41 : (List UInt8) × (List UInt8) × (List (Int × (List Int)))) =>
 (if x.toNat = x.toNat then
 (if 0 ≤ (((e25.2.2.length : Int) - 1) + 1) ∧ (((e25.2.2.length : Int) - 1) + 1) < (e38.2.2.length : Int) then
 (Option.bind (e38.2.2[(((e25.2.2.length : Int) - 1) + 1).toNat]?) fun (e42 : Int × (List Int)) =>
 (if (((e25.2.2.length : Int) - 1) + 1).toNat = (((e25.2.2.length : Int) - 1) + 1).toNat then
 (if room e39.2.length ([t2] : List Int).length 8 then
 (if 0 ≤ (((e25.2.2.length : Int) - 1) + 1) ∧ (((e25.2.2.length : Int) - 1) + 1) < (e38.2.2.length : Int) then
 (if (((e25.2.2.length : Int) - 1) + 1).toNat = (((e25.2.2.length : Int) - 1) + 1).toNat then
 (Option.bind (e38.2.2[(((e25.2.2.length : Int) - 1) + 1).toNat]?) fun (e43 : Int × (List Int)) =>
 (some (b, ((B.set x.toNat (e37.1, e37.2.1, (e25.2.2 ++ ([(id, ([] : List Int))] : List (Int × (List Int)))))).modify x.toNat fun y5 => (y5.1, y5.2.1, (e38.2.2.set (((e25.2.2.length : Int) - 1) + 1).toNat (e43.1, (e39.2 ++ ([t2] : List Int)))))))))
 else none)
 else none)
 else none)
 else none))
 else none)
 else none))
 else none)))) else none))
 else none)
 else none)
 else none))
 else
 (if x.toNat = x.toNat then
 (Option.bind (e25.2.2[((e25.2.2.length : Int) - 1).toNat]?) fun (e44 : Int × (List Int)) =>
 (Option.bind (B[x.toNat]?) fun (e45 : (List UInt8) × (List UInt8) × (List (Int × (List Int)))) =>
 (if x.toNat = x.toNat then
 (Option.bind (B[x.toNat]?) fun (e46 : (List UInt8) × (List UInt8) × (List (Int × (List Int)))) =>
 (if x.toNat = x.toNat then
 (if 0 ≤ ((e25.2.2.length : Int) - 1) ∧ ((e25.2.2.length : Int) - 1) < (e25.2.2.length : Int) then
 (Option.bind (e25.2.2[((e25.2.2.length : Int) - 1).toNat]?) fun (e47 : Int × (List Int)) =>
 (if ((e25.2.2.length : Int) - 1).toNat = ((e25.2.2.length : Int) - 1).toNat then
 (if room e44.2.length ([t2] : List Int).length 8 then
 (if 0 ≤ ((e25.2.2.length : Int) - 1) ∧ ((e25.2.2.length : Int) - 1) < (e25.2.2.length : Int) then
 (if ((e25.2.2.length : Int) - 1).toNat = ((e25.2.2.length : Int) - 1).toNat then
 (Option.bind (e25.2.2[((e25.2.2.length : Int) - 1).toNat]?) fun (e48 : Int × (List Int)) =>
 (some (b, (B.modify x.toNat fun y6 => (y6.1, y6.2.1, (e25.2.2.set ((e25.2.2.length : Int) - 1).toNat (e48.1, (e44.2 ++ ([t2] : List Int)))))))))
 else none)
 else none)
 else none)
 else none))
 else none)
 else none))
 else none)))
 else none)))
 else none)
 else none))) else none))
 else none)
set_option maxRecDepth 100000 in
theorem jom (N : Nat) (field t : List UInt8) (t2 id : Int) (b : List EDoc) (b2 : List EEntry) : jbI N field t t2 id b b2 = Option.bind (jaQ N b2 (field, t, t2)) fun r => bif decide (r < 0) then (if room b2.length ([(field, t, [])] : List EEntry).length 56 then putB b (b2 ++ ([(field, t, [])] : List EEntry)) (b2.length : Int) t2 id else none) else putB b b2 r t2 id := rfl
theorem jen {α : Type} (B : List α) (n : Nat) (v : α) (g : α → α) (h : n < B.length) : (B.set n v).modify n g = B.set n (g v) := by
 apply zbc
 intro i
 rw [List.getElem?_modify, zbm, zbm]
 by_cases hi : n = i
 ·subst hi; simp [h]
 ·simp [hi]
theorem joz {α : Type} (B : List α) (n : Nat) (g : α → α) (h : n < B.length) : B.modify n g = B.set n (g B[n]) := by
 apply zbc
 intro i
 rw [List.getElem?_modify, zbm]
 by_cases hi : n = i
 ·subst hi; simp [h]
 ·simp [hi]
theorem jjw (b : List EDoc) (B : List EEntry) (n : Nat) (t2 id : Int) (e : EEntry) (he : B[n]? = some e) (hl : e.2.2.length ≤ 1000000) (hp : ∀ p, p ∈ e.2.2 → p.2.length ≤ 1000000) : putB b B (n : Int) t2 id = some (b, B.set n (e.1, e.2.1, addPost e.2.2 id t2)) := by
 have hn : n < B.length := (zh.1 he).1
 have heq : B[n] = e := (zh.1 he).2
 obtain ⟨f, t, ps⟩ := e
 unfold putB
 rw [zf ⟨Int.natCast_nonneg n, by omega⟩]
 simp only [zai, he, za, if_true]
 have hs : ∀ v : EEntry, (B.set n v)[n]? = some v := fun v => by rw [List.getElem?_set_self hn]
 simp only [hs, za]
 rcases List.eq_nil_or_concat ps with rfl | ⟨q, p, rfl⟩
 ·rw [zf (by unfold fits; decide), zb (by decide), zg, zf (room_of (by simp) (by simp)), zf (by unfold fits; decide)]
  rw [show ((([] : List EPost).length : Int) - 1 + 1) = 0 from rfl]
  rw [show (([] : List EPost) ++ [(id, ([] : List Int))])[Int.toNat 0]? = some (id, []) from rfl]
  simp only [za]
  rw [zf (by simp), zf (room_of (by simp) (by simp)), zf (by simp), jen _ _ _ _ hn]
  rfl
 ·rw [List.concat_eq_append] at *
  have h1 : ((q ++ [p]).length : Int) - 1 = (q.length : Int) := by simp
  have h2 : (q ++ [p])[q.length]? = some p := by simp
  have hl' : q.length + 1 ≤ 1000000 := by simpa using hl
  have hp' : p.2.length ≤ 1000000 := hp p (by simp)
  rw [h1, zf (by unfold fits; omega), zd (by omega), ze]
  simp only [zai, h2, za]
  have c1 : (0 : Int) ≤ (q.length : Int) ∧ (q.length : Int) < ((q ++ [p]).length : Int) := ⟨by omega, by rw [zam]; simp only [zi, zac]; omega⟩
  rw [zf c1]
  have hlast : (q ++ [p]).getLast? = some p := by simp
  by_cases hi : p.1 = id
  ·rw [zb hi, zn, ze, zf c1, zf (room_of (by simp only [zi, zac]; omega) (by simp only [zi, zac]; omega)), zf c1, joz _ _ _ hn, heq]
   unfold addPost
   rw [hlast]
   dsimp only
   rw [zf hi, List.dropLast_concat]
   simp
  ·have c2 : ((q.length : Int) + 1).toNat = q.length + 1 := by omega
   have h3 : (q ++ [p] ++ [(id, ([] : List Int))])[q.length + 1]? = some (id, []) := by simp
   have c3 : (0 : Int) ≤ (q.length : Int) + 1 ∧ (q.length : Int) + 1 < ((q ++ [p] ++ [(id, ([] : List Int))]).length : Int) := ⟨by omega, by simp only [zam, zi, zac]; omega⟩
   rw [zd hi, zaI, zg, zf (room_of (by simp only [zam, zi, zac]; omega) (by simp only [zam, zi, zac]; omega)), zf (fits_nat (n := q.length) (by omega)), c2, h3]
   simp only [za]
   rw [zf c3, zf (room_of (by simp) (by simp)), zf c3, jen _ _ _ _ hn]
   unfold addPost
   rw [hlast]
   dsimp only
   rw [zu hi]
   simp
theorem jgo (o : EOcc) : ∀ es : List EEntry, o.1 ∉ es.map keyE → putE o es = es ++ [(o.1.1, o.1.2, addPost [] o.2.1 o.2.2)]
 | [], _ => rfl
 | e :: l, h => by
  rw [zv, zp, not_or] at h
  unfold putE
  rw [zu (fun e => h.1 e.symm), jgo o l h.2]
  rfl
theorem jfJ (o : EOcc) : ∀ (es : List EEntry) (n : Nat) (hn : n < es.length), keyE es[n] = o.1 → (∀ m (hm : m < n), keyE (es[m]'(by omega)) ≠ o.1) → putE o es = es.set n (es[n].1, es[n].2.1, addPost es[n].2.2 o.2.1 o.2.2)
 | e :: l, 0, _, h, _ => by
  unfold putE
  rw [zf (show keyE e = o.1 from h)]
  rfl
 | e :: l, n + 1, hn, h, hb => by
  unfold putE
  rw [zu (show ¬ keyE e = o.1 from hb 0 (by omega)), jfJ o l n (by simpa using hn) h (fun m hm => hb (m + 1) (by omega))]
  rfl
theorem jrf (N : Nat) (es : List EEntry) (f : List UInt8) (t : ETerm) (hl : es.length < N) (hl2 : es.length ≤ 1000000) : Def (jaQ N es (f, t)) fun r => (r = -1 ∧ (f, t.1) ∉ es.map keyE) ∨ ∃ (n : Nat) (hn : n < es.length), r = (n : Int) ∧ keyE es[n] = (f, t.1) ∧ ∀ m (hm : m < n), keyE (es[m]'(by omega)) ≠ (f, t.1) := by
 unfold jaQ
 refine Def.upto es.length (fun n g => g = (es, (f, t), (es.length : Int), (n : Int)) ∧ ∀ m (hm : m < es.length), m < n → keyE es[m] ≠ (f, t.1)) (fun go g hg => ?_) (fun go n g hn hg hgo => ?_) N 0 _ (zaf _) ⟨rfl, fun m _ h => absurd h (Nat.not_lt_zero _)⟩ (by omega)
 ·obtain ⟨rfl, h⟩ := hg
  dsimp only
  rw [zd (zm _), ze]
  refine Def.ret (.inl ⟨rfl, fun hk => ?_⟩)
  obtain ⟨e, he, hk⟩ := zab.1 hk
  obtain ⟨m, hm, rfl⟩ := zav.1 he
  exact h m hm hm hk
 ·obtain ⟨rfl, h⟩ := hg
  dsimp only
  rw [zb (by omega : (n : Int) < (es.length : Int)), zg, idx_at hn, za]
  have hk : jbF N es[n].1 es[n].2.1 es[n].2.2 f t = some (decide (keyE es[n] = (f, t.1))) := by
   unfold jbF keyE
   by_cases h1 : es[n].1 = f
   ·rw [zb h1, zg]; simp [h1]
   ·rw [zd h1, ze]; simp [h1]
  rw [hk, za]
  by_cases h1 : keyE es[n] = (f, t.1)
  ·rw [zb h1, zg]
   exact Def.ret (.inr ⟨n, hn, rfl, h1, fun m hm => h m (by omega) hm⟩)
  ·rw [zd h1, ze, zf (fits_nat (n := n) (by omega))]
   refine hgo _ ⟨by rw [cast_succ'], fun m hm hmn => ?_⟩
   by_cases hm2 : m = n
   ·subst hm2; exact h1
   ·exact h m hm (by omega)
theorem jpC (N : Nat) (f : List UInt8) (t : ETerm) (id : Int) (b : List EDoc) (es : List EEntry) (hl : es.length < N) (hl2 : es.length ≤ 1000000) (hp : ∀ e, e ∈ es → e.2.2.length ≤ 1000000 ∧ ∀ p, p ∈ e.2.2 → p.2.length ≤ 1000000) : jbI N f t.1 t.2 id b es = some (b, putE ((f, t.1), id, t.2) es) := by
 rw [jom]
 refine Def.get (Def.bind (jrf N es f t hl hl2) fun r hr => ?_)
 rcases hr with ⟨rfl, hk⟩ | ⟨n, hn, rfl, hk, hb⟩
 ·rw [zb (by decide), zg, zf (room_of (by simp only [zi, zac]; omega) (by simp only [zi, zac]; omega))]
  rw [jjw b _ es.length t.2 id (f, t.1, []) (by simp) (by simp) (by simp), jgo _ _ hk]
  refine Def.ret ?_
  simp
 ·rw [zd (by omega), ze]
  have hm := hp _ (zr hn)
  rw [jjw b es n t.2 id es[n] (zc hn) hm.1 hm.2, jfJ ((f, t.1), id, t.2) es n hn hk hb]
  exact Def.ret rfl
end Go.Proofs.YtcjbjmbialienaaGreatDoor
namespace Go.Proofs.YtcjbjmbialienaaGreatDoor
open Go.RowKit
theorem compareS_spec (N : Nat) (x y : List UInt8) : jam N x y = some (if Op.bytesLess x y then -1 else if Op.bytesLess y x then 1 else 0) := by
 unfold jam
 have h : ∀ z : List UInt8, jbn N z = some false := fun z => by unfold jbn; simp
 rw [h, h]
 simp only [za, ze]
 rw [jqg]
 cases h1 : Op.bytesLess x y
 ·cases h2 : Op.bytesLess y x <;> simp
 ·simp
theorem or2_spec (N : Nat) (hN : 4 ≤ N) (x y : Int) : jbe N [x, y] = some (if x ≠ 0 then x else if y ≠ 0 then y else 0) := by
 unfold jbe
 obtain ⟨N, rfl⟩ : ∃ m, N = m + 4 := ⟨N - 4, by omega⟩
 by_cases h1 : x = 0
 ·by_cases h2 : y = 0
  ·subst h1; subst h2
   simp [iter, idx, fits]
  ·subst h1
   simp [iter, idx, fits, h2]
 ·simp [iter, idx, fits, h1]
theorem jgq (N : Nat) (hN : 4 ≤ N) (a b : EEntry) : Def (jX N () a b) fun r => decide (r < 0) = ltK (keyE a) (keyE b) := by
 show Def (je N a.1 a.2.1 a.2.2 b.1 b.2.1 b.2.2) _
 unfold je
 rw [compareS_spec, za, compareS_spec, za, or2_spec N hN, za]
 refine Def.ret ?_
 unfold ltK keyE
 dsimp only
 cases h1 : Op.bytesLess a.1 b.1
 ·cases h2 : Op.bytesLess b.1 a.1
  ·have he : a.1 = b.1 := by
    have := bytesLess_or a.1 b.1
    rw [h1, h2] at this
    simpa using this
   cases h3 : Op.bytesLess a.2.1 b.2.1
   ·cases h4 : Op.bytesLess b.2.1 a.2.1 <;> simp [he]
   ·simp [he]
  ·have he : a.1 ≠ b.1 := by
    rintro e
    rw [e, bl_irrefl] at h2
    cases h2
   simp [he]
 ·simp
theorem jlu {a b : EKey} (h : ltK a b = true) : ltK b a = false := by
 cases h2 : ltK b a
 ·rfl
 ·have := ltK_trans h h2
  rw [ltK_irrefl] at this
  cases this
theorem ji8 {a b : EKey} (h : a ≠ b) : ltK a b = true ∨ ltK b a = true := by
 unfold ltK
 cases h1 : Op.bytesLess a.1 b.1
 ·cases h2 : Op.bytesLess b.1 a.1
  ·have he : a.1 = b.1 := by
    have := bytesLess_or a.1 b.1
    rw [h1, h2] at this
    simpa using this
   have hne : a.2 ≠ b.2 := fun e => h (Prod.ext he e)
   cases h3 : Op.bytesLess a.2 b.2
   ·right; simp [he, bl_total h3 hne]
   ·left; simp [he]
  ·right; simp
 ·left; simp
theorem ji6 : Ordr fun a b : EEntry => ltK (keyE a) (keyE b) := ⟨fun x y h => jlu h, fun x y z h k => ltK_trans h k⟩
def Small (m : Nat) (es : List EEntry) : Prop := es.length ≤ m ∧ ∀ e, e ∈ es → e.2.2.length ≤ m ∧ ∀ p, p ∈ e.2.2 → p.2.length ≤ m
theorem jjx {m : Nat} {ps : List EPost} (id a : Int) (h : ps.length ≤ m ∧ ∀ p, p ∈ ps → p.2.length ≤ m) : (addPost ps id a).length ≤ m + 1 ∧ ∀ p, p ∈ addPost ps id a → p.2.length ≤ m + 1 := by
 rcases List.eq_nil_or_concat ps with rfl | ⟨q, p, rfl⟩
 ·unfold addPost
  simp
 ·rw [List.concat_eq_append] at *
  unfold addPost
  rw [show (q ++ [p]).getLast? = some p from by simp]
  dsimp only
  have hp := h.2 p (by simp)
  have hq : ∀ y, y ∈ q → y.2.length ≤ m := fun y hy => h.2 y (by simp [hy])
  have hl := h.1
  simp only [zam, zi, zac] at hl
  by_cases e : p.1 = id
  ·rw [zf e, List.dropLast_concat]
   refine ⟨by simp only [zam, zi, zac]; omega, fun y hy => ?_⟩
   rcases zaB.1 hy with hy | hy
   ·exact Nat.le_succ_of_le (hq y hy)
   ·rw [zaD] at hy
    subst hy
    simp only [zam, zi, zac]; omega
  ·rw [zu e]
   refine ⟨by simp only [zam, zi, zac]; omega, fun y hy => ?_⟩
   rcases zaB.1 hy with hy | hy
   ·exact Nat.le_succ_of_le (h.2 y hy)
   ·rw [zaD] at hy
    subst hy
    simp
theorem jgc {m : Nat} (o : EOcc) : ∀ es : List EEntry, (∀ e, e ∈ es → e.2.2.length ≤ m ∧ ∀ p, p ∈ e.2.2 → p.2.length ≤ m) → (putE o es).length ≤ es.length + 1 ∧ ∀ e, e ∈ putE o es → e.2.2.length ≤ m + 1 ∧ ∀ p, p ∈ e.2.2 → p.2.length ≤ m + 1
 | [], _ => by
  unfold putE
  refine ⟨by simp, fun e he => ?_⟩
  rw [zaD] at he
  subst he
  exact jjx _ _ (m := m) (ps := []) ⟨by simp, by simp⟩
 | d :: l, h => by
  have hm : ∀ e, e ∈ d :: l → e.2.2.length ≤ m + 1 ∧ ∀ p, p ∈ e.2.2 → p.2.length ≤ m + 1 := fun e he => ⟨Nat.le_succ_of_le (h e he).1, fun p hp => Nat.le_succ_of_le ((h e he).2 p hp)⟩
  unfold putE
  by_cases hk : keyE d = o.1
  ·rw [zf hk]
   refine ⟨by simp, fun e he => ?_⟩
   rcases zp.1 he with rfl | he
   ·exact jjx _ _ (h d zy)
   ·exact hm e (zl _ he)
  ·rw [zu hk]
   have ih := jgc o l fun e he => h e (zl _ he)
   refine ⟨by simp only [zi]; omega, fun e he => ?_⟩
   rcases zp.1 he with rfl | he
   ·exact hm _ zy
   ·exact ih.2 e he
theorem jcS (l : List EOcc) : Small l.length (putAll l) := by
 have key : ∀ (l : List EOcc) (es : List EEntry) (m : Nat), Small m es → Small (m + l.length) (l.foldl (fun es o => putE o es) es) := by
  intro l
  induction l with
  | nil => intro es m h; exact h
  | cons o l ih =>
   intro es m h
   have h2 := jgc o es h.2
   have := ih (putE o es) (m + 1) ⟨by have := h.1; omega, h2.2⟩
   rw [zi, show m + (l.length + 1) = m + 1 + l.length from by omega]
   exact this
 have := key l [] 0 ⟨by simp, fun e he => by cases he⟩
 rwa [zaY] at this
theorem jnq (N : Nat) (d : EDoc) (h1 : d.2.1.length ≤ 3) (h2 : d.2.2.length ≤ 3) : jbO N d.1 d.2.1 d.2.2 = some d := by
 unfold jbO
 rw [zf (room_of (by simp; omega) (by simp; omega)), zf (room_of (by simp; omega) (by simp; omega))]
 rfl
theorem jrH (N : Nat) {docs : List EDoc} (hd : DOk docs) (hN : 16 < N) : jbV N docs = some docs := by
 unfold jbV
 have hf := hd.few
 refine (iter_scan _ docs.length (fun k => (docs.take k, docs, (docs.length : Int), (k : Int))) (fun _ => some docs) (fun go => ?_) (fun go k hk hgo => ?_) N 0 (zaf _) (by omega)).trans rfl
 ·dsimp only
  rw [zd (zm _), ze, zq]
 ·dsimp only
  have he := hd.each _ (zr hk)
  rw [zb (by omega : (k : Int) < (docs.length : Int)), zg, idx_at hk, za, jnq N docs[k] he.1 he.2.1, za, zf (room_of (by simp; omega) (by simp; omega)), zf (fits_nat (n := k) (by omega)), ← hgo, zo hk, cast_succ']
theorem jfD (c : EConf) {docs : List EDoc} (hd : DOk docs) {d : EDoc} (h : d ∈ docs) (k : Nat) : (occF c d.1 (d.2.1.take k)).length ≤ 480 := by
 unfold occF
 have he := hd.each d h
 have h1 := jaG (fun f : EField => (terms c f.2).map fun t => (((f.1, t.1), d.1, t.2) : EOcc)) 160 (d.2.1.take k) fun f hf => by
  rw [zar]
  exact zau (terms_len c _) (he.2.2 f (zaP hf)).2
 have h2 : (d.2.1.take k).length ≤ 3 := by rw [zah]; omega
 omega
theorem jdD (c : EConf) {docs : List EDoc} (hd : DOk docs) (n : Nat) : (occ c (docs.take n)).length ≤ 7680 := by
 unfold occ
 have hf := hd.few
 have h1 := jaG (fun d : EDoc => occF c d.1 d.2.1) 480 (docs.take n) fun d hx => by
  have := jfD c hd (zaP hx) d.2.1.length
  rw [zq] at this
  exact this
 have h2 : (docs.take n).length ≤ 16 := by rw [zah]; omega
 omega
theorem jme (N : Nat) (hM : Sm < N) (hN : N ≤ 16777216) (c : EConf) (ho : okD Sm TConf c) (docs : List EDoc) (hod : ∀ x, x ∈ docs → okD Sm TDoc x) (hl : docs.length ≤ 1048576) : jbT N c.1 c.2 docs = some (bif okConf c && okDocs docs then (docs, entriesS c docs) else ([], [])) := by
 have hM' : 1048576 < N := hM
 refine Def.get ?_
 unfold jbT
 rw [jdu N hM (by omega) c ho, za]
 cases hc : okConf c with
 | false => exact Def.ret rfl
 | true =>
 rw [zn, ze, jjB N hM (by omega) docs hod hl, za]
 cases hdd : okDocs docs with
 | false => exact Def.ret rfl
 | true =>
 have hd := okDocs_ok hdd
 have hf := hd.few
 rw [zn, ze, jrH N hd (by omega), za, Bool.and_self, zg]
 refine Def.upto docs.length (fun n g => g = (docs, (docs.length : Int), (n : Int), c.1, c.2, docs, putAll (occ c (docs.take n)))) (fun go g hg => ?_) (fun go n g hn hg hgo => ?_) N 0 _ (zaf _) rfl (by omega)
 ·subst hg
  dsimp only
  rw [zd (zm _), ze, zq]
  have hsm := jcS (occ c docs)
  have hol := jdD c hd docs.length
  rw [zq] at hol
  refine Def.bind (jiZ (fun a b => ltK (keyE a) (keyE b)) ji6 N hN (by omega) (putAll (occ c docs)) () ⟨fun x hx y hy => jgq N (by omega) x y, ?_⟩ (by have := hsm.1; omega)) fun R hR => Def.ret ?_
  ·exact (zbb.1 (putAll_canon (occ c docs)).nodup).imp fun h => ji8 h
  ·rw [sorted_entries c hd.inn hR.1 hR.2]
 ·subst hg
  dsimp only
  have hmem := zr hn
  have he := hd.each _ hmem
  rw [zb (by omega : (n : Int) < (docs.length : Int)), zg, idx_at hn, za]
  have ho1 := jdD c hd n
  refine Def.upto docs[n].2.1.length (fun k g => g = (docs, (docs.length : Int), (n : Int), docs[n].2.1, (docs[n].2.1.length : Int), (k : Int), c.1, c.2, docs, putAll (occ c (docs.take n) ++ occF c docs[n].1 (docs[n].2.1.take k)), docs[n].1, docs[n].2.1, docs[n].2.2)) (fun go2 g hg => ?_) (fun go2 k g hk hg hgo2 => ?_) N 0 _ (zaf _) (by rw [List.take_zero, show occF c docs[n].1 [] = [] from rfl, zat]; rfl) (by omega)
  ·subst hg
   dsimp only
   rw [zd (zm _), ze, zq, zf (fits_nat (n := n) (by omega))]
   refine hgo _ ?_
   rw [cast_succ']
   unfold occ
   rw [jbc _ _ _ hn]
  ·subst hg
   dsimp only
   have hok := he.2.2 _ (zr hk)
   rw [zb (by omega : (k : Int) < (docs[n].2.1.length : Int)), zg, idx_at hk, za, termsOf_spec N c _ (by omega) hM (by omega) ho, za, hc, hok.1, Bool.and_self, zg]
   have htl := terms_len c docs[n].2.1[k].2
   have ho2 := jfD c hd hmem k
   refine Def.upto (terms c docs[n].2.1[k].2).length (fun j g => g = (docs, (docs.length : Int), (n : Int), docs[n].2.1, (docs[n].2.1.length : Int), (k : Int), terms c docs[n].2.1[k].2, ((terms c docs[n].2.1[k].2).length : Int), (j : Int), c.1, c.2, docs, putAll (occ c (docs.take n) ++ occF c docs[n].1 (docs[n].2.1.take k) ++ ((terms c docs[n].2.1[k].2).take j).map fun t => ((docs[n].2.1[k].1, t.1), docs[n].1, t.2)), docs[n].1, docs[n].2.1, docs[n].2.2, docs[n].2.1[k].1, docs[n].2.1[k].2)) (fun go3 g hg => ?_) (fun go3 j g hj hg hgo3 => ?_) N 0 _ (zaf _) (by rw [List.take_zero, List.map_nil, zat]; rfl) (by omega)
   ·subst hg
    dsimp only
    rw [zd (zm _), ze, zq, zf (fits_nat (n := k) (by omega))]
    refine hgo2 _ ?_
    rw [cast_succ']
    unfold occF
    rw [jbc _ _ _ hk, zao]
   ·subst hg
    dsimp only
    rw [zb (by omega : (j : Int) < ((terms c docs[n].2.1[k].2).length : Int)), zg, idx_at hj, za]
    have hsm := jcS (occ c (docs.take n) ++ occF c docs[n].1 (docs[n].2.1.take k) ++ ((terms c docs[n].2.1[k].2).take j).map fun t => (((docs[n].2.1[k].1, t.1), docs[n].1, t.2) : EOcc))
    have hlen : (occ c (docs.take n) ++ occF c docs[n].1 (docs[n].2.1.take k) ++ ((terms c docs[n].2.1[k].2).take j).map fun t => (((docs[n].2.1[k].1, t.1), docs[n].1, t.2) : EOcc)).length ≤ 8320 := by
     rw [zam, zam, zar, zah]
     omega
    rw [jpC N _ _ _ _ _ (by have := hsm.1; omega) (by have := hsm.1; omega) (fun e h => ⟨by have := (hsm.2 e h).1; omega, fun p hp => by have := (hsm.2 e h).2 p hp; omega⟩), za, zf (fits_nat (n := j) (by omega))]
    refine hgo3 _ ?_
    rw [cast_succ', jeQ _ _ _ hj, ← zao, joA]
end Go.Proofs.YtcjbjmbialienaaGreatDoor
namespace Go.Proofs.YtcjbjmbialienaaGreatDoor
open Go.RowKit
theorem entries_small (c : EConf) {docs : List EDoc} (hd : DOk docs) : Small 7680 (entriesS c docs) := by
 have hsm := jcS (occ c docs)
 have hol := jdD c hd docs.length
 rw [zq] at hol
 obtain ⟨R, _, hp, hs⟩ := jiZ (fun a b => ltK (keyE a) (keyE b)) ji6 16777216 (zae _) (by omega) (putAll (occ c docs)) () ⟨fun x hx y hy => jgq _ (by omega) x y, (zbb.1 (putAll_canon (occ c docs)).nodup).imp fun h => ji8 h⟩ (by have := hsm.1; omega)
 rw [← sorted_entries c hd.inn hp hs]
 refine ⟨by rw [hp.length_eq]; exact zau hsm.1 hol, fun e he => ?_⟩
 have := hsm.2 e (hp.mem_iff.1 he)
 exact ⟨zau this.1 hol, fun p hp => zau (this.2 p hp) hol⟩
theorem jaH {α δ : Type} [DecidableEq α] (F : (δ → Option Bool) → δ → Option Bool) (a b : List α) (h : a.length = b.length) (st : Nat → δ) (hend : ∀ go, F go (st a.length) = some true) (hstep : ∀ go (n : Nat) (hn : n < a.length) (hb : n < b.length), F go (st n) = bif decide (a[n] = b[n]) then go (st (n + 1)) else some false) (N : Nat) (hN : a.length < N) : iter F N (st 0) = some (decide (a = b)) := by
 refine (iter_scan F a.length st (fun n => some (decide (a.drop n = b.drop n))) (fun go => ?_) (fun go n hn hgo => ?_) N 0 (zaf _) (by omega)).trans (by rw [List.drop_zero, List.drop_zero])
 ·rw [hend, zbp, h, zbp]; simp
 ·rw [hstep go n hn (by omega), jhZ hn (by omega), hgo]
  cases decide (a[n] = b[n]) <;> rfl
theorem jat {α : Type} {a b : List α} (h : ¬ (a.length : Int) = (b.length : Int)) : ¬ a = b := fun e => h (by rw [e])
theorem jp3 (N : Nat) (a b : List Int) (hN : a.length < N) (hl : a.length ≤ 1000000) : jbX N a b = some (decide (a = b)) := by
 unfold jbX
 by_cases h : (a.length : Int) = (b.length : Int)
 ·rw [zb h, zn, ze]
  refine jaH _ a b (by omega) (fun n => (a, b, (a.length : Int), (n : Int))) (fun go => ?_) (fun go n hn hb => ?_) N hN
  ·dsimp only
   rw [zd (zm _), ze]
  ·dsimp only
   rw [zb (by omega : (n : Int) < (a.length : Int)), zg, idx_at hn, za, idx_at hb, za, zf (fits_nat (n := n) (by omega)), cast_succ']
   cases decide (a[n] = b[n]) <;> rfl
 ·rw [zd h, zaI, zg, zd (jat h)]
theorem jsm (N : Nat) (a b : List Int) (hN : a.length < N) (hl : a.length ≤ 1000000) : jb1 N a b = some (decide (a = b)) := by
 unfold jb1
 by_cases h : (a.length : Int) = (b.length : Int)
 ·rw [zb h, zn, ze]
  refine jaH _ a b (by omega) (fun n => (a, b, (n : Int))) (fun go => ?_) (fun go n hn hb => ?_) N hN
  ·dsimp only
   rw [zd (zm _), ze]
  ·dsimp only
   rw [zb (by omega : (n : Int) < (a.length : Int)), zg, idx_at hn, za, idx_at hb, za, zf (fits_nat (n := n) (by omega)), cast_succ']
   cases decide (a[n] = b[n]) <;> rfl
 ·rw [zd h, zaI, zg, zd (jat h)]
theorem je2 (a b : EPost) : decide (a = b) = (decide (a.1 = b.1) && decide (a.2 = b.2)) := by
 rw [Bool.eq_iff_iff, zj, zw, zw, zw, Prod.ext_iff]
theorem jjZ (a b : EEntry) : decide (a = b) = (decide (a.1 = b.1) && (decide (a.2.1 = b.2.1) && decide (a.2.2 = b.2.2))) := by
 rw [Bool.eq_iff_iff, zj, zj, zw, zw, zw, zw, Prod.ext_iff, Prod.ext_iff]
theorem jls (N : Nat) (a b : EPost) (hN : a.2.length < N) (hl : a.2.length ≤ 1000000) : jcp N a.1 a.2 b.1 b.2 = some (decide (a = b)) := by
 unfold jcp
 rw [jp3 N _ _ hN hl, za, je2]
 cases decide (a.1 = b.1) <;> rfl
theorem jpo (N : Nat) (a b : List EPost) (hN : a.length < N) (hl : a.length ≤ 1000000) (hp : ∀ p, p ∈ a → p.2.length < N ∧ p.2.length ≤ 1000000) : jb6 N a b () = some (decide (a = b)) := by
 unfold jb6
 by_cases h : (a.length : Int) = (b.length : Int)
 ·rw [zb h, zn, ze]
  refine jaH _ a b (by omega) (fun n => (b, (), a, (a.length : Int), (n : Int))) (fun go => ?_) (fun go n hn hb => ?_) N hN
  ·dsimp only
   rw [zd (zm _), ze]
  ·dsimp only
   have hpn := hp _ (zr hn)
   rw [zb (by omega : (n : Int) < (a.length : Int)), zg, idx_at hn, za, idx_at hb, za, jls N _ _ hpn.1 hpn.2, za, zf (fits_nat (n := n) (by omega)), cast_succ']
   cases decide (a[n] = b[n]) <;> rfl
 ·rw [zd h, zaI, zg, zd (jat h)]
theorem jkm (N : Nat) (a b : EEntry) (hN : a.2.2.length < N) (hl : a.2.2.length ≤ 1000000) (hp : ∀ p, p ∈ a.2.2 → p.2.length < N ∧ p.2.length ≤ 1000000) : jcz N a.1 a.2.1 a.2.2 b.1 b.2.1 b.2.2 = some (decide (a = b)) := by
 unfold jcz
 rw [jpo N _ _ hN hl hp, za, jjZ]
 cases decide (a.1 = b.1) <;> cases decide (a.2.1 = b.2.1) <;> rfl
theorem jqe (N : Nat) (a b : List EEntry) (m : Nat) (hm : m < N) (hm2 : m ≤ 1000000) (hs : Small m a) : jcn N a b () = some (decide (a = b)) := by
 unfold jcn
 have hal := hs.1
 by_cases h : (a.length : Int) = (b.length : Int)
 ·rw [zb h, zn, ze]
  refine jaH _ a b (by omega) (fun n => (b, (), a, (a.length : Int), (n : Int))) (fun go => ?_) (fun go n hn hb => ?_) N (by omega)
  ·dsimp only
   rw [zd (zm _), ze]
  ·dsimp only
   have hpn := hs.2 _ (zr hn)
   rw [zb (by omega : (n : Int) < (a.length : Int)), zg, idx_at hn, za, idx_at hb, za, jkm N _ _ (by omega) (by omega) (fun p hp => by have := hpn.2 p hp; omega), za, zf (fits_nat (n := n) (by omega)), cast_succ']
   cases decide (a[n] = b[n]) <;> rfl
 ·rw [zd h, zaI, zg, zd (jat h)]
theorem jqj (N : Nat) (a b : EEntry) (hN : a.2.2.length < N) (hl : a.2.2.length ≤ 1000000) (hp : ∀ p, p ∈ a.2.2 → p.2.length < N ∧ p.2.length ≤ 1000000) : jbQ N a.1 a.2.1 a.2.2 b.1 b.2.1 b.2.2 = some (decide (a = b)) := by
 unfold jbQ
 rw [jjZ]
 by_cases h1 : a.1 = b.1
 ·rw [zb h1, zn, ze, zaj]
  by_cases h2 : a.2.1 = b.2.1
  ·rw [zb h2, zn, ze, zaj]
   by_cases h : (a.2.2.length : Int) = (b.2.2.length : Int)
   ·rw [zb h, zn, ze]
    refine jaH _ a.2.2 b.2.2 (by omega) (fun n => ((n : Int), a.1, a.2.1, a.2.2, b.1, b.2.1, b.2.2)) (fun go => ?_) (fun go n hn hb => ?_) N hN
    ·dsimp only
     rw [zd (zm _), ze]
    ·dsimp only
     have hpn := hp _ (zr hn)
     rw [zb (by omega : (n : Int) < (a.2.2.length : Int)), zg, idx_at hn, za, idx_at hb, za, za, za, jsm N _ _ hpn.1 hpn.2, za, zf (fits_nat (n := n) (by omega)), cast_succ', je2]
     cases decide (a.2.2[n].1 = b.2.2[n].1) <;> cases decide (a.2.2[n].2 = b.2.2[n].2) <;> rfl
   ·rw [zd h, zaI, zg, zd (jat h)]
  ·rw [zd h2]; rfl
 ·rw [zd h1]; rfl
def okSeg (c : EConf) (s : ESeg) : Bool := okConf c && (okDocs s.1 && decide (entriesS c s.1 = s.2))
theorem segOk_spec (N : Nat) (hM : Sm < N) (hN : N ≤ 16777216) (c : EConf) (ho : okD Sm TConf c) (s : ESeg) (hod : ∀ x, x ∈ s.1 → okD Sm TDoc x) (hl : s.1.length ≤ 1048576) : jbN N c.1 c.2 s.1 s.2 = some (okSeg c s) := by
 have hM' : 1048576 < N := hM
 unfold jbN okSeg
 rw [jdu N hM (by omega) c ho, za]
 cases hc : okConf c with
 | false => rfl
 | true =>
 rw [zn, ze, jjB N hM (by omega) s.1 hod hl, za]
 cases hdd : okDocs s.1 with
 | false => rfl
 | true =>
 rw [zn, ze, jme N hM hN c ho s.1 hod hl, za, hc, hdd, Bool.and_self, zg]
 rw [jqe N _ _ 7680 (by omega) (by omega) (entries_small c (okDocs_ok hdd))]
 rfl
theorem l7Ok_spec (N : Nat) (hM : Sm < N) (hN : N ≤ 16777216) (c : EConf) (ho : okD Sm TConf c) (s : ESeg) (hod : ∀ x, x ∈ s.1 → okD Sm TDoc x) (hl : s.1.length ≤ 1048576) : jcR N c.1 c.2 s.1 s.2 = some (okSeg c s) := by
 have hM' : 1048576 < N := hM
 unfold jcR okSeg
 rw [jsb N hM (by omega) c ho, za]
 cases hc : okConf c with
 | false => rfl
 | true =>
 rw [zn, ze, jk7 N hM (by omega) s.1 hod hl, za]
 cases hdd : okDocs s.1 with
 | false => rfl
 | true =>
 have hs := entries_small c (okDocs_ok hdd)
 have hal := hs.1
 rw [zn, ze, jpK N c hc (okDocs_ok hdd) hM', za, zaj, zaj]
 generalize entriesS c s.1 = a at *
 obtain ⟨d, b⟩ := s
 by_cases h : (a.length : Int) = (b.length : Int)
 ·rw [zb h, zn, ze]
  refine jaH _ a b (by omega) (fun n => ((n : Int), d, b, d, a)) (fun go => ?_) (fun go n hn hb => ?_) N (by omega)
  ·dsimp only
   rw [zd (zm _), ze]
  ·dsimp only
   have hpn := hs.2 _ (zr hn)
   rw [zb (by omega : (n : Int) < (a.length : Int)), zg, idx_at hn, za, idx_at hb, za, jqj N _ _ (by omega) (by omega) (fun p hp => by have := hpn.2 p hp; omega), za, zf (fits_nat (n := n) (by omega)), cast_succ']
   cases decide (a[n] = b[n]) <;> rfl
 ·rw [zd h, zaI, zg, zd (jat h)]
end Go.Proofs.YtcjbjmbialienaaGreatDoor
