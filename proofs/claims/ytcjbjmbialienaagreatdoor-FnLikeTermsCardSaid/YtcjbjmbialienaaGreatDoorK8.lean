/- The engine, eighth part: appending. -/
import Derived.Test.YtcjbjmbialienaaGreatDoorK7
set_option linter.unusedSimpArgs false
set_option linter.unusedVariables false
namespace Go.Proofs.YtcjbjmbialienaaGreatDoor
open Go.RowKit
def tab (m n : Nat) (u : Nat → Nat → Value) : List Value := (List.range (n * m)).map fun t => u (t / m) (t % m)
theorem tab_len (m n : Nat) (u : Nat → Nat → Value) : (tab m n u).length = n * m := by simp [tab]
theorem tab_at (m n : Nat) (u : Nat → Nat → Value) (i j : Nat) (hi : i < n) (hj : j < m) : (tab m n u)[i * m + j]? = some (u i j) := by
 have h1 : i * m + j < n * m := by
  have : (i + 1) * m ≤ n * m := Nat.mul_le_mul_right _ hi
  rw [Nat.add_mul] at this; omega
 have h2 : (i * m + j) / m = i := by rw [Nat.mul_comm, Nat.mul_add_div (by omega), Nat.div_eq_of_lt hj]; omega
 have h3 : (i * m + j) % m = j := by rw [Nat.mul_comm, Nat.mul_add_mod, Nat.mod_eq_of_lt hj]
 simp [tab, h1, h2, h3]
theorem tab_get (m n : Nat) (hm : 0 < m) (u : Nat → Nat → Value) (t : Nat) (v : Value) (h : (tab m n u)[t]? = some v) : t / m < n ∧ t % m < m ∧ v = u (t / m) (t % m) ∧ t = t / m * m + t % m := by
 have ht : t < n * m := by have := (List.getElem?_eq_some_iff.1 h).1; rwa [tab_len] at this
 have h1 : t / m < n := (Nat.div_lt_iff_lt_mul hm).2 ht
 have h2 : t % m < m := Nat.mod_lt _ hm
 have h3 : t = t / m * m + t % m := by rw [Nat.mul_comm]; exact (Nat.div_add_mod t m).symm
 refine ⟨h1, h2, ?_, h3⟩
 have := tab_at m n u _ _ h1 h2
 rw [← h3, h] at this
 exact Option.some.inj this
structure Tab (w : World) (S : Stab) (b o : Nat) (r : Tp) (xs : List r.D) (u : Nat → Nat → Value) : Prop where
 cell : ∀ i j, i < xs.length → j < r.w → w.cell? ⟨b, o + i * r.w + j, none⟩ = some (u i j)
 rep : ∀ (i j : Nat) (x : r.D) (p : PV), xs[i]? = some x → (enc r x)[j]? = some p → Rep w S (u i j) p
theorem Elems.tab {w : World} {S : Stab} {v : Value} {r : Tp} {xs : List r.D} (h : Elems w S v r xs) : ∃ a cap b o u, v = .slice a xs.length cap ∧ xs.length ≤ cap ∧ (xs ≠ [] → a = some ⟨b, o, none⟩) ∧ Tab w S b o r xs u := by
 obtain ⟨a, cap, b, o, hv, hc, ha, hr⟩ := h.ex
 refine ⟨a, cap, b, o, fun i j => (w.cell? ⟨b, o + i * r.w + j, none⟩).getD undef, hv, hc, ha, fun i j hi hj => ?_, fun i j x p hx hp => ?_⟩
 ·have hj' : j < (enc r xs[i]).length := by rw [enc_len]; exact hj
  obtain ⟨u, h1, _⟩ := hr i j xs[i] (enc r xs[i])[j] (by simp [hi]) (by simp [hj'])
  simp [h1]
 ·obtain ⟨u, h1, h2⟩ := hr i j x p hx hp
  simpa [h1] using h2
theorem Tab.one {w : World} {S : Stab} {b o : Nat} {r : Tp} {xs : List r.D} {u : Nat → Nat → Value} (h : Tab w S b o r xs u) (hm : 0 < r.w) : ∀ v, v ∈ tab r.w xs.length u → v.oneCell' = true := by
 intro v hv
 obtain ⟨t, ht, hv⟩ := List.mem_iff_getElem.1 hv
 obtain ⟨h1, h2, rfl, _⟩ := tab_get r.w xs.length hm u t v (by rw [List.getElem?_eq_getElem ht, hv])
 have hl : t % r.w < (enc r xs[t / r.w]).length := by rw [enc_len]; exact h2
 exact (h.rep (t / r.w) (t % r.w) xs[t / r.w] ((enc r xs[t / r.w])[t % r.w]) (List.getElem?_eq_getElem h1) (by simp [hl])).one
structure Appended (w w' : World) (e : TypeId) (m n k : Nat) (cells : List Value) (v v' : Value) (b' cap' : Nat) (vs' : Array Value) : Prop where
 val : v' = .slice (some ⟨b', 0, none⟩) (n + k) cap'
 heap : w'.heap[b']? = some (.cells vs' e (0, 0))
 size : vs'.size = cap' * m
 fits : n + k ≤ cap'
 capm : cap' ≤ maxLen
 take : vs'.toList.take ((n + k) * m) = cells
 os : w'.os = w.os
 tape : w'.tape = w.tape
 output : w'.output = w.output
 grow : w.heap.size ≤ w'.heap.size
 same : ∀ i, i < w.heap.size → i ≠ b' → w'.heap[i]? = w.heap[i]?
 place : b' = w.heap.size ∨ ∃ c, v = .slice (some ⟨b', 0, none⟩) n c
theorem run_append_zero {P : Program} (w : World) (t ty e : TypeId) (i : TypeInfo) (ht : P.underlying t = some (.slice e)) (hi : P.info? e = some i) (a a' : Option Addr) (n c c' : Nat) (hc : n ≤ c) :
  (Builtin.append_ #[t, t] ty #[.slice a n c, .slice a' 0 c']).run P w = .ok (.slice a n c) w := by
 have hf : (Builtin.firstCells i.size 0 (.slice a' 0 c')).run P w = .ok #[] w := by
  cases a' <;> simp [Builtin.firstCells, loadCells, loadCellsFrom]
 cases a <;> simp [Builtin.append_, run_underlying ht, sizeOf, typeInfo, hi, Builtin.lenOf, hc, hf, storeCells]
theorem run_append_room' {P : Program} {w : World} (t ty e T : TypeId) (i : TypeInfo) (ht : P.underlying t = some (.slice e)) (hi : P.info? e = some i) (g n cap : Nat) (cur : Array Value) (hg : w.heap[g]? = some (.cells cur T (0, 0)))
  (a : Addr) (k c : Nat) (news : List Value) (hl : news.length = k * i.size) (hnews : ∀ j u, news[j]? = some u → w.cell? (a.add j) = some u) (h1 : ∀ u ∈ news, u.oneCell' = true) (hroom : n + k ≤ cap) (hfit : n * i.size + news.length ≤ cur.size) :
  (Builtin.append_ #[t, t] ty #[.slice (some ⟨g, 0, none⟩) n cap, .slice (some a) k c]).run P w =
   .ok (.slice (some ⟨g, 0, none⟩) (n + k) cap) (w.setRow g (cur.toList.take (n * i.size) ++ news ++ cur.toList.drop (n * i.size + news.length)).toArray) := by
 have hf := run_firstCells_some (P := P) w i.size k a k c news hl hnews
 have hst := run_storeCells_at P g (n * i.size) T news 0 cur w hg (by simpa using hfit) h1
 simp only [Nat.add_zero] at hst
 simp [Builtin.append_, run_underlying ht, sizeOf, typeInfo, hi, Builtin.lenOf, hroom, hf, Addr.add_lit, hst]
theorem run_append_more {P : Program} (w : World) (t ty e : TypeId) (i : TypeInfo) (z : Value) (m bytes : Nat) (ht : P.underlying t = some (.slice e)) (hi : P.info? e = some i) (hz : i.zero = some z)
  (hsize : i.size = m) (hby : i.bytes = bytes) (hzs : z.cells.size = m) (v : Value) (n : Nat) (xs : List Value)
  (hv : (v = .slice none 0 0 ∧ n = 0) ∨ ∃ b cap vs T, v = .slice (some ⟨b, 0, none⟩) n cap ∧ w.heap[b]? = some (.cells vs T (0, 0)) ∧ vs.size = cap * m ∧ n ≤ cap ∧ cap ≤ maxLen ∧ vs.toList.take (n * m) = xs) (hxs : xs.length = n * m)
  (a : Addr) (k c : Nat) (news : List Value) (hk : 0 < k) (hl : news.length = k * m) (hnews : ∀ j u, news[j]? = some u → w.cell? (a.add j) = some u) (h1 : ∀ u ∈ news, u.oneCell' = true)
  (h63 : n + k ≤ 9223372036854775807) (hbytes : (n + k) * bytes ≤ 140737488355328) :
  ∃ v' w' e' b' cap' vs', (Builtin.append_ #[t, t] ty #[v, .slice (some a) k c]).run P w = .ok v' w' ∧ Appended w w' e' m n k (xs ++ news) v v' b' cap' vs' := by
 subst hsize
 subst hby
 have hmx : n + k ≤ maxLen := by simp only [maxLen]; omega
 have hlen : (xs ++ news).length = (n + k) * i.size := by rw [List.length_append, hxs, hl, Nat.add_mul]
 have grown : ∀ old, old < n + k → Appended w (w.drew.alloc (.cells (xs.toArray ++ news.toArray ++ Builtin.zeroCells z.cells (grownCap w (n + k) old e - (n + k))) e)) e i.size n k (xs ++ news) v
   (.slice (some ⟨w.heap.size, 0, none⟩) (n + k) (grownCap w (n + k) old e)) w.heap.size (grownCap w (n + k) old e) (xs.toArray ++ news.toArray ++ Builtin.zeroCells z.cells (grownCap w (n + k) old e - (n + k))) := fun old ho => by
  have hge := grownCap_ge w (n + k) old e
  refine ⟨rfl, heap_alloc_new w.drew _, ?_, hge, grownCap_le_maxLen w (n + k) old e hmx, ?_, rfl, rfl, rfl, by simp, fun i hi _ => heap_alloc_old w.drew _ hi, .inl rfl⟩
  ·simp only [Array.size_append, List.size_toArray, size_zeroCells, hzs, hxs, hl, ← Nat.add_mul]
   congr 1; omega
  ·simp only [Array.toList_append, List.append_assoc]
   rw [← List.append_assoc, ← hlen]
   exact List.take_left
 rcases hv with ⟨rfl, rfl⟩ | ⟨g, cap, cur, T, rfl, hg, hcs, hnc, hcm, htake⟩
 ·have hx : xs = [] := List.eq_nil_of_length_eq_zero (by simpa using hxs)
  subst hx
  have hr := run_append_nil (P := P) w t ty e i z ht hi hz a k c news hl hnews hk (by omega) (by have hb := hbytes; simp only [Nat.zero_add] at hb; omega)
  have hgr := grown 0 (by omega)
  simp only [Nat.zero_add, List.nil_append, Array.empty_append] at hgr hr ⊢
  exact ⟨_, _, _, _, _, _, hr, hgr⟩
 ·by_cases hroom : n + k ≤ cap
  ·have hfit : n * i.size + news.length ≤ cur.size := by rw [hl, hcs, ← Nat.add_mul]; exact Nat.mul_le_mul_right _ hroom
   have hr := run_append_room' (P := P) (w := w) t ty e T i ht hi g n cap cur hg a k c news hl hnews h1 hroom hfit
   refine ⟨_, _, T, g, cap, _, hr, rfl, setRow_heap w g cur _ T _ hg, ?_, hroom, hcm, ?_, rfl, rfl, rfl, by simp [World.setRow], fun j _ hj => setRow_other w g j _ hj, .inr ⟨cap, rfl⟩⟩
   ·simp only [List.size_toArray, List.length_append, List.length_take, List.length_drop, Array.length_toList]
    omega
   ·rw [htake, ← hlen]
    exact List.take_left
  ·have holds : ∀ j u, xs[j]? = some u → w.cell? ((⟨g, 0, none⟩ : Addr).add j) = some u := fun j u hj => by
    rw [add_at, Nat.zero_add, cell_of_row w g j cur T (0, 0) hg]
    rw [← htake, List.getElem?_take] at hj
    split at hj
    ·simpa using hj
    ·cases hj
   have hr := run_append_grow (P := P) w t ty e i z ht hi hz ⟨g, 0, none⟩ n cap xs hxs holds a k c news hl hnews (by omega) (by omega) (growslice_fits (by omega) hbytes)
   exact ⟨_, _, _, _, _, _, hr, grown cap (by omega)⟩
theorem Appended.cell {w w' : World} {e : TypeId} {m n k : Nat} {u1 u2 : Nat → Nat → Value} {v v' : Value} {b' cap' : Nat} {vs' : Array Value} (h : Appended w w' e m n k (tab m n u1 ++ tab m k u2) v v' b' cap' vs') (i j : Nat) (hi : i < n + k) (hj : j < m) :
  w'.cell? ⟨b', i * m + j, none⟩ = some (if i < n then u1 i j else u2 (i - n) j) := by
 have hlt : i * m + j < (n + k) * m := by
  have : (i + 1) * m ≤ (n + k) * m := Nat.mul_le_mul_right _ hi
  rw [Nat.add_mul] at this; omega
 have hx : (tab m n u1 ++ tab m k u2)[i * m + j]? = some (if i < n then u1 i j else u2 (i - n) j) := by
  by_cases hin : i < n
  ·rw [if_pos hin, List.getElem?_append_left (by
    rw [tab_len]
    have : (i + 1) * m ≤ n * m := Nat.mul_le_mul_right _ hin
    rw [Nat.add_mul] at this; omega)]
   exact tab_at m n u1 i j hin hj
  ·rw [if_neg hin, List.getElem?_append_right (by
    rw [tab_len]
    have : n * m ≤ i * m := Nat.mul_le_mul_right _ (by omega)
    omega), tab_len]
   rw [show i * m + j - n * m = (i - n) * m + j from by
    have : n * m ≤ i * m := Nat.mul_le_mul_right _ (by omega)
    rw [Nat.sub_mul]; omega]
   exact tab_at m k u2 _ j (by omega) hj
 rw [cell_of_row w' b' _ vs' e (0, 0) h.heap, ← Array.getElem?_toList]
 rw [← h.take, List.getElem?_take, if_pos hlt] at hx
 exact hx
def stabApp (wr : Bool) (S : Stab) (b' r : Nat) : Stab := fun b o => S b o ∨ (wr = false ∧ b = b' ∧ o < r)
theorem Appended.step {w w' : World} {S : Stab} {e : TypeId} {m n k : Nat} {u1 u2 : Nat → Nat → Value} {v v' : Value} {b' cap' : Nat} {vs' : Array Value} (wr : Bool) (h : Appended w w' e m n k (tab m n u1 ++ tab m k u2) v v' b' cap' vs') (hm : 0 < m)
  (hl : ∀ b o, S b o → b < w.heap.size) (hS : ∀ o, S b' o → b' < w.heap.size → o < n * m) (hold : b' < w.heap.size → ∀ i j, i < n → j < m → w.cell? ⟨b', i * m + j, none⟩ = some (u1 i j)) :
  Step (fun x => x = b' ∧ x < w.heap.size) S (stabApp wr S b' ((n + k) * m)) w w' := by
 have hb' : b' < w'.heap.size := lt_of_at h.heap
 refine ⟨⟨h.os, h.tape, h.output, h.grow, fun i hi hx => h.same i hi (fun e => hx ⟨e, hi⟩)⟩, fun b o hb => ?_, fun b o hb => .inl hb, fun b o hb => ?_, fun b o hb => ?_⟩
 ·by_cases e : b = b'
  ·subst e
   have hlt := hl b o hb
   have ho := hS o hb hlt
   have h1 : o / m < n := (Nat.div_lt_iff_lt_mul hm).2 ho
   have h2 : o % m < m := Nat.mod_lt _ hm
   have h3 : o = o / m * m + o % m := by rw [Nat.mul_comm]; exact (Nat.div_add_mod o m).symm
   rw [h3, h.cell (o / m) (o % m) (by omega) h2, if_pos h1, hold hlt _ _ h1 h2]
  ·exact World.cell?_of_block (w := w) (h.same b (hl b o hb) e)
 ·rcases hb with hb | ⟨_, rfl, hb⟩
  ·exact .inl hb
  ·by_cases hlt : b < w.heap.size
   ·exact .inr (.inr ⟨rfl, hlt⟩)
   ·exact .inr (.inl (by omega))
 ·rcases hb with hb | ⟨_, rfl, hb⟩
  ·exact Nat.lt_of_lt_of_le (hl b o hb) h.grow
  ·exact hb'
theorem cells_at {r : Tp} (x : r.D) {j : Nat} (h : j < r.w) : ∃ c, (cellsOf r x)[j]? = some c := ⟨_, List.getElem?_eq_getElem (by rw [cells_len]; exact h)⟩
theorem cells_lt {r : Tp} {x : r.D} {j : Nat} {c : AV} (h : (cellsOf r x)[j]? = some c) : j < r.w := by have := (List.getElem?_eq_some_iff.1 h).1; rwa [cells_len] at this
theorem Deep.openU {w : World} {F : Nat → Prop} {v : Value} {r : Tp} {xs : List r.D} (h : Deep w F v (.pv (.sl r) xs)) :
  xs = [] ∨ ∃ (b cap : Nat) (u : Nat → Nat → Value) (q : Nat → Nat → Nat → Prop), v = .slice (some ⟨b, 0, none⟩) xs.length cap ∧ F b ∧ (∀ i j, i < xs.length → j < r.w → w.cell? ⟨b, i * r.w + j, none⟩ = some (u i j)) ∧
   (∀ i j k, q i j k → F k ∧ k ≠ b) ∧ (∀ i j i' j' k, q i j k → q i' j' k → i = i' ∧ j = j') ∧ ∀ (i j : Nat) (x : r.D) (c : AV), xs[i]? = some x → (cellsOf r x)[j]? = some c → Deep w (q i j) (u i j) c := by
 cases h with
 | lit _ _ _ _ p he hl hv => cases he; cases hl
 | nil _ _ => exact .inl rfl
 | sl _ cap _ _ u b q vs T hb hg hz hc hx hu hq hd hr =>
  refine .inr ⟨b, cap, u, q, rfl, hb, fun i j hi hj => ?_, hq, hd, hr⟩
  obtain ⟨c, hc'⟩ := cells_at xs[i] hj
  rw [cell_of_row w b _ vs T (0, 0) hg]
  exact hu i j xs[i] c (List.getElem?_eq_getElem hi) hc'
theorem rep_litV {w : World} {S : Stab} {v : Value} {p : PV} (h : Rep w S v p) (hp : p.isLit = true) : v = litOf p := by
 cases h <;> first | rfl | cases hp
theorem flat_isLit : ∀ (t : Tp) (x : t.D), t.flatB = true → ∀ p, p ∈ enc t x → p.isLit = true
 | .bool, x, _, p, hp => by simp [enc] at hp; subst hp; rfl
 | .int _, x, _, p, hp => by simp [enc] at hp; subst hp; rfl
 | .str, x, _, p, hp => by simp [enc] at hp; subst hp; rfl
 | .unit, _, _, p, hp => by simp [enc] at hp
 | .pair a b, x, h, p, hp => by
  simp only [Tp.flatB, Bool.and_eq_true] at h
  rcases List.mem_append.1 hp with hp | hp
  ·exact flat_isLit a x.1 h.1 p hp
  ·exact flat_isLit b x.2 h.2 p hp
 | .sl _, _, h, _, _ => by cases h
 | .opt _, _, h, _, _ => by cases h
 | .q, _, h, _, _ => by cases h
theorem Deep.leaf {w : World} {S : Stab} {F : Nat → Prop} {r : Tp} {x : r.D} (hf : r.flatB = true) {j : Nat} {c : AV} (hc : (cellsOf r x)[j]? = some c) {u : Value} (hu : ∀ p, (enc r x)[j]? = some p → Rep w S u p) : Deep w F u c := by
 have hall := cells_enc r x
 obtain ⟨p, hp, t, y, rfl, he⟩ := hall.get j c hc
 have hl := flat_isLit r x hf p (List.mem_of_getElem? hp)
 exact .lit F u t y p he hl (rep_litV (hu p hp) hl)
theorem rows_w {r : Tp} (xs : List r.D) : ∀ row, row ∈ xs.map (enc r) → row.length = r.w := fun row hr => by obtain ⟨x, _, rfl⟩ := List.mem_map.1 hr; exact enc_len r x
theorem TokOk.plain {Fr : Nat → Prop} {w : World} {S : Stab} {tk : Tok} {v : Value} {F : Nat → Prop} (h : TokOk Fr w S tk v F) (hw : tk.wr = false) : tk.tr = none := by
 have := h.2.2
 unfold Once at this
 split at this
 ·assumption
 ·rw [this.1] at hw; cases hw
theorem TokOk.deepOf {Fr : Nat → Prop} {w : World} {S : Stab} {tk : Tok} {v : Value} {F : Nat → Prop} (h : TokOk Fr w S tk v F) (ht : tk.tr = none) (hd : tk.deep = true) : Deep w F v (.pv (.sl tk.t) tk.xs) := by
 have := h.2.2
 unfold Once at this
 rw [ht] at this
 exact this hd
theorem TokOk.rep {Fr : Nat → Prop} {w : World} {S : Stab} {tk : Tok} {v : Value} {F : Nat → Prop} (h : TokOk Fr w S tk v F) (hw : tk.wr = false) : Rep w S v (.sl (tk.xs.map (enc tk.t))) := by
 have htr := h.plain hw
 obtain ⟨_, h, _⟩ := h
 rcases h with ⟨rfl, h⟩ | ⟨b, cap, vs, T, e, hF, hg, hz, hn, hm, hst, hwr, hc⟩
 ·rw [h]; exact rep_nils
 ·rw [e, show tk.xs.length = (tk.xs.map (enc tk.t)).length from by simp]
  refine Rep.mk (b := b) (o := 0) (m := tk.t.w) (by simpa using hn) (fun _ => rfl) (fun i row hi => rows_w tk.xs row (List.mem_of_getElem? hi)) (fun i row hi j c hj => ?_)
  rw [List.getElem?_map] at hi
  obtain ⟨x, hx, rfl⟩ := Option.map_eq_some_iff.1 hi
  obtain ⟨u, h1, h2, h3⟩ := hc i j x c hx hj
  exact ⟨by rw [Nat.zero_add]; exact h3 hw, u, by rw [Nat.zero_add, cell_of_row w b _ vs T (0, 0) hg]; exact h1, h2 htr⟩
theorem append_core {P : Program} {R : Root} {w : World} {S : Stab} {box : Nat → Option BS} {tok : Nat → Option TS} {β : Nat → Nat} {τ : Nat → Value} {F : Nat → Nat → Prop} (hM : Mem R box tok β τ F S w)
  (T ty e : TypeId) (i : TypeInfo) (z : Value) (r : Tp) (bytes : Nat) (ht : P.underlying T = some (.slice e)) (hi : P.info? e = some i) (hz : i.zero = some z) (hsize : i.size = r.w) (hby : i.bytes = bytes) (hzs : z.cells.size = r.w) (hm : 0 < r.w)
  (v vs : Value) (xs ys : List r.D) (wr bdeep sdeep : Bool) (Fb Fs : Nat → Prop)
  (hb : TokOk R.fr w S ⟨r, xs, e, wr, bdeep, none⟩ v Fb) (hs : Elems w S vs r ys)
  (hsd : sdeep = true → r.flatB = true ∨ (Deep w Fs vs (.pv (.sl r) ys) ∧ ∀ b, Fs b → ¬ Fb b)) (hsB : ∀ b, Fs b → R.fr b ∧ b < w.heap.size)
  (hbt : ∀ t tk b, tok t = some (.live tk) → Fb b → ¬ F t b) (hbb : ∀ k b, box k = some b → ¬ Fb (β k))
  (hbytes : (xs.length + ys.length) * bytes ≤ 140737488355328) (h63 : xs.length + ys.length ≤ 9223372036854775807) :
  ∃ v' w' S', (Builtin.append_ #[T, T] ty #[v, vs]).run P w = .ok v' w' ∧ Mem R box tok β τ F S' w' ∧ (∀ live tok' live' β' τ', Ctx.Le ⟨w, S, live, β, tok', τ⟩ ⟨w', S', live', β', tok', τ'⟩) ∧
   TokOk R.fr w' S' ⟨r, xs ++ ys, e, wr, bdeep && sdeep, none⟩ v' (fun b => (Fb b ∨ Fs b ∨ w.heap.size ≤ b) ∧ b < w'.heap.size) := by
 have hb0 := hb
 obtain ⟨hb1, hb3, hb4⟩ := hb
 simp only at hb3 hb4
 obtain ⟨a2, cap2, b2, o2, u2, rfl, _, ha2, hU2⟩ := hs.tab
 obtain ⟨a1, cap1, b1, o1, u1, ev, hc1, ha1, hU1⟩ := (Elems.of_tok hb0 rfl).tab
 simp only at ev hc1 ha1 hU1
 by_cases hne : ys = []
 ·
  subst hne
  refine ⟨_, w, S, by rw [ev]; exact run_append_zero w T ty e i ht hi a1 a2 xs.length cap1 cap2 hc1, hM, fun _ _ _ _ _ => ⟨fun _ _ h => h, fun _ _ _ => rfl⟩, fun b h => ⟨?_, h.2⟩, ?_, fun hd => ?_⟩
  ·rcases h.1 with h1 | h1 | h1
   ·exact (hb1 b h1).1
   ·exact (hsB b h1).1
   ·exact .inl (Nat.le_trans hM.size h1)
  ·rw [← ev]
   rcases hb3 with h | ⟨b, cap, us, T', e1, hF, q⟩
   ·exact .inl (by simpa using h)
   ·exact .inr ⟨b, cap, us, T', by simpa using e1, ⟨.inl hF, (hb1 b hF).2⟩, by simpa using q⟩
  ·rw [← ev]
   simp only [Bool.and_eq_true] at hd
   have := (hb4 hd.1).mono (G := fun b => (Fb b ∨ Fs b ∨ w.heap.size ≤ b) ∧ b < w.heap.size) (fun b h => ⟨.inl h, (hb1 b h).2⟩)
   simpa using this
 ·have ea2 := ha2 hne
  subst ea2
  have hk : 0 < ys.length := List.length_pos_iff.2 hne
  have hhead : ∀ b cap us T', v = .slice (some ⟨b, 0, none⟩) xs.length cap → w.heap[b]? = some (.cells us T' (0, 0)) → us.size = cap * r.w → xs.length ≤ cap → us.toList.take (xs.length * r.w) = tab r.w xs.length u1 ∧ (xs ≠ [] → b1 = b ∧ o1 = 0) := fun b cap us T' e1 hg hz hn => by
   have hh : xs ≠ [] → b1 = b ∧ o1 = 0 := fun hr => by
    have := ha1 hr
    rw [ev] at e1
    cases e1
    rw [Option.some.injEq, Addr.mk.injEq] at this
    exact ⟨this.1.symm, this.2.1.symm⟩
   refine ⟨List.ext_getElem? (fun t => ?_), hh⟩
   by_cases ht' : t < xs.length * r.w
   ·have h1 : t / r.w < xs.length := (Nat.div_lt_iff_lt_mul hm).2 ht'
    have h2 : t % r.w < r.w := Nat.mod_lt _ hm
    have h3 : t = t / r.w * r.w + t % r.w := by rw [Nat.mul_comm]; exact (Nat.div_add_mod t r.w).symm
    rw [List.getElem?_take, if_pos ht']
    have h4 := tab_at r.w xs.length u1 _ _ h1 h2
    rw [← h3] at h4
    rw [h4]
    obtain ⟨hb, ho⟩ := hh (by intro hr; rw [hr] at h1; simp at h1)
    have h5 := hU1.cell _ _ h1 h2
    rw [hb, ho, Nat.zero_add, ← h3, cell_of_row w b t us T' (0, 0) hg, ← Array.getElem?_toList] at h5
    exact h5
   ·rw [List.getElem?_eq_none (by simp; omega), List.getElem?_eq_none (by rw [tab_len]; omega)]
  have hv : (v = .slice none 0 0 ∧ xs.length = 0) ∨ ∃ b cap vs T', v = .slice (some ⟨b, 0, none⟩) xs.length cap ∧ w.heap[b]? = some (.cells vs T' (0, 0)) ∧ vs.size = cap * r.w ∧ xs.length ≤ cap ∧ cap ≤ maxLen ∧ vs.toList.take (xs.length * r.w) = tab r.w xs.length u1 := by
   rcases hb3 with ⟨h1, h2⟩ | ⟨b, cap, us, T', e1, hF, hg, hz, hn, hmx, hst⟩
   ·exact .inl ⟨h1, by rw [h2]; rfl⟩
   ·exact .inr ⟨b, cap, us, T', e1, hg, hz, hn, hmx, (hhead b cap us T' e1 hg hz hn).1⟩
  have hnews : ∀ j u, (tab r.w ys.length u2)[j]? = some u → w.cell? ((⟨b2, o2, none⟩ : Addr).add j) = some u := fun j u hj => by
   obtain ⟨h1, h2, rfl, h3⟩ := tab_get r.w ys.length hm u2 j u hj
   rw [add_at]
   have := hU2.cell _ _ h1 h2
   rw [Nat.add_assoc, ← h3] at this
   exact this
  obtain ⟨v', w', e', b', cap', vs', hrun, hA⟩ := run_append_more (P := P) w T ty e i z r.w bytes ht hi hz hsize hby hzs v xs.length (tab r.w xs.length u1) hv (tab_len _ _ _) ⟨b2, o2, none⟩ ys.length cap2 (tab r.w ys.length u2) hk (tab_len _ _ _) hnews (hU2.one hm) h63 hbytes
  have hplace : (b' = w.heap.size) ∨ (b' < w.heap.size ∧ Fb b' ∧ (∀ o, S b' o → wr = false ∧ o < xs.length * r.w) ∧ (xs ≠ [] → b1 = b' ∧ o1 = 0)) := by
   rcases hA.place with h | ⟨c, h⟩
   ·exact .inl h
   ·right
    rcases hb3 with ⟨h1, _⟩ | ⟨b, cap, us, T', e1, hF, hg, hz, hn, hmx, hst, hwr, _⟩
    ·rw [h1] at h; cases h
    ·rw [e1] at h
     cases h
     refine ⟨(hb1 _ hF).2, hF, fun o ho => ?_, (hhead _ _ us T' e1 hg hz hn).2⟩
     cases wr with
     | false => exact ⟨rfl, hst rfl o ho⟩
     | true => exact absurd ho (hwr rfl o)
  have hb'B : R.fr b' := by
   rcases hplace with h | h
   ·rw [h]; exact .inl hM.size
   ·exact (hb1 _ h.2.1).1
  have hb'lt : b' < w'.heap.size := lt_of_at hA.heap
  have hstep := hA.step (S := S) wr hm hM.lt (fun o ho hlt => by
    rcases hplace with h | h
    ·omega
    ·exact (h.2.2.1 o ho).2) (fun hlt i j hi hj => by
    rcases hplace with h | h
    ·omega
    ·have hne1 : xs ≠ [] := by intro hr; rw [hr] at hi; simp at hi
     have := hU1.cell i j hi hj
     rw [(h.2.2.2 hne1).1, (h.2.2.2 hne1).2, Nat.zero_add] at this
     exact this)
  have hcont : ∀ (i j : Nat) (x : r.D) (p : PV), (xs ++ ys)[i]? = some x → (enc r x)[j]? = some p → ∃ u, vs'[i * r.w + j]? = some u ∧ Rep w' (stabApp wr S b' ((xs.length + ys.length) * r.w)) u p ∧ u = (if i < xs.length then u1 i j else u2 (i - xs.length) j) ∧ i * r.w + j < (xs.length + ys.length) * r.w := fun i j x p hx hp => by
   have hil : i < xs.length + ys.length := by have := (List.getElem?_eq_some_iff.1 hx).1; simpa using this
   have hjm : j < r.w := by have := (List.getElem?_eq_some_iff.1 hp).1; rwa [enc_len] at this
   have hcell := hA.cell i j hil hjm
   rw [cell_of_row w' b' _ vs' e' (0, 0) hA.heap] at hcell
   refine ⟨_, hcell, ?_, rfl, ?_⟩
   ·by_cases hin : i < xs.length
    ·rw [if_pos hin]
     rw [List.getElem?_append_left hin] at hx
     exact (hU1.rep i j x p hx hp).mono hstep.old hstep.cell
    ·rw [if_neg hin]
     rw [List.getElem?_append_right (by omega)] at hx
     exact (hU2.rep _ j x p hx hp).mono hstep.old hstep.cell
   ·have : (i + 1) * r.w ≤ (xs.length + ys.length) * r.w := Nat.mul_le_mul_right _ hil
    rw [Nat.add_mul] at this; omega
  refine ⟨v', w', stabApp wr S b' ((xs.length + ys.length) * r.w), hrun, hM.step hstep (fun k hk => hk.1 ▸ hb'B) (fun k b hk hx => ?_) (fun t tk ht' k hF hx => ?_), fun live tok' live' β' τ' => ⟨hstep.old, hstep.cell⟩, fun b h => ⟨?_, h.2⟩, .inr ⟨b', cap', vs', e', ?_, ⟨?_, hb'lt⟩, hA.heap, hA.size, ?_, hA.capm, fun hw o ho => ?_, fun hw o ho => ?_, fun i j x p hx hp => ?_⟩, fun hd => ?_⟩
  ·rcases hplace with h | h
   ·have := hx.2; omega
   ·exact hbb k b hk (hx.1 ▸ h.2.1)
  ·rcases hplace with h | h
   ·have := hx.2; omega
   ·exact hbt t tk k ht' (hx.1 ▸ h.2.1) hF
  ·rcases h.1 with h1 | h1 | h1
   ·exact (hb1 b h1).1
   ·exact (hsB b h1).1
   ·exact .inl (Nat.le_trans hM.size h1)
  ·rw [hA.val]; simp
  ·rcases hplace with h | h
   ·exact .inr (.inr (by omega))
   ·exact .inl h.2.1
  ·simpa using hA.fits
  ·simp only [List.length_append]
   rcases ho with ho | ⟨_, _, ho⟩
   ·rcases hplace with h | h
    ·have := hM.lt _ _ ho; omega
    ·have h1 := (h.2.2.1 o ho).2
     have : xs.length * r.w ≤ (xs.length + ys.length) * r.w := Nat.mul_le_mul_right _ (by omega)
     omega
   ·exact ho
  ·simp only at hw
   rcases ho with ho | ⟨h, _, _⟩
   ·rcases hplace with h | h
    ·have := hM.lt _ _ ho; omega
    ·have := (h.2.2.1 o ho).1; rw [hw] at this; cases this
   ·rw [hw] at h; cases h
  ·obtain ⟨u, h1, h2, _, h4⟩ := hcont i j x p hx hp
   exact ⟨u, h1, fun _ => h2, fun hw => .inr ⟨hw, rfl, h4⟩⟩
  ·
   simp only [Bool.and_eq_true] at hd
   obtain ⟨hd1, hd2⟩ := hd
   have hD := hb4 hd1
   have hD : Deep w Fb v (.pv (.sl r) xs) := hD
   obtain ⟨q1, hq1F, hq1d, hq1⟩ : ∃ q : Nat → Nat → Nat → Prop, (∀ i j k, q i j k → Fb k ∧ k < w.heap.size ∧ k ≠ b') ∧ (∀ i j i' j' k, q i j k → q i' j' k → i = i' ∧ j = j') ∧
     ∀ (i j : Nat) (x : r.D) (c : AV), xs[i]? = some x → (cellsOf r x)[j]? = some c → Deep w (q i j) (u1 i j) c := by
    rcases hD.openU with he | ⟨b, cap, u, q, e1, hFb, hcell, hqF, hqd, hqD⟩
    ·exact ⟨fun _ _ _ => False, fun _ _ _ h => h.elim, fun _ _ _ _ _ h => h.elim, fun i j x c hr _ => by rw [he] at hr; simp at hr⟩
    ·refine ⟨q, fun i j k hk => ⟨(hqF i j k hk).1, (hb1 _ (hqF i j k hk).1).2, fun ek => ?_⟩, hqd, fun i j x c hr hc => ?_⟩
     ·rcases hplace with h | h
      ·have := (hb1 _ (hqF i j k hk).1).2; omega
      ·have hne1 : b = b' := by
        by_cases hr : xs = []
        ·rcases hA.place with h' | ⟨c', h'⟩
         ·omega
         ·rw [e1] at h'; cases h'; rfl
        ·have := ha1 hr
         rw [e1] at ev
         cases ev
         rw [Option.some.injEq, Addr.mk.injEq] at this
         rw [this.1]; exact (h.2.2.2 hr).1
       exact (hqF i j k hk).2 (by rw [hne1]; exact ek)
     ·have hi' : i < xs.length := (List.getElem?_eq_some_iff.1 hr).1
      have hj' : j < r.w := cells_lt hc
      have h1 := hcell i j hi' hj'
      have h2 := hU1.cell i j hi' hj'
      have hne1 : xs ≠ [] := by intro h; rw [h] at hi'; simp at hi'
      have := ha1 hne1
      rw [e1] at ev
      cases ev
      rw [Option.some.injEq, Addr.mk.injEq] at this
      rw [← this.1, ← this.2.1, Nat.zero_add] at h2
      rw [h2] at h1
      rw [Option.some.inj h1]
      exact hqD i j x c hr hc
   obtain ⟨q2, hq2F, hq2d, hq2⟩ : ∃ q : Nat → Nat → Nat → Prop, (∀ i j k, q i j k → Fs k ∧ ¬ Fb k ∧ k < w.heap.size ∧ k ≠ b') ∧ (∀ i j i' j' k, q i j k → q i' j' k → i = i' ∧ j = j') ∧
     ∀ (i j : Nat) (x : r.D) (c : AV), ys[i]? = some x → (cellsOf r x)[j]? = some c → Deep w (q i j) (u2 i j) c := by
    rcases hsd hd2 with hd2 | ⟨hd2, hdis⟩
    ·exact ⟨fun _ _ _ => False, fun _ _ _ h => h.elim, fun _ _ _ _ _ h => h.elim, fun i j x c hr hc => .leaf (S := S) hd2 hc (fun p hp => hU2.rep i j x p hr hp)⟩
    ·rcases hd2.openU with he | ⟨b, cap, u, q, e1, hFb, hcell, hqF, hqd, hqD⟩
     ·exact absurd he hne
     ·cases e1
      refine ⟨q, fun i j k hk => ⟨(hqF i j k hk).1, hdis _ (hqF i j k hk).1, (hsB _ (hqF i j k hk).1).2, fun ek => ?_⟩, hqd, fun i j x c hr hc => ?_⟩
      ·rcases hplace with h | h
       ·have := (hsB _ (hqF i j k hk).1).2; omega
       ·exact hdis _ (hqF i j k hk).1 (ek ▸ h.2.1)
      ·have hi' : i < ys.length := (List.getElem?_eq_some_iff.1 hr).1
       have hj' : j < r.w := cells_lt hc
       have h1 := hcell i j hi' hj'
       have h2 := hU2.cell i j hi' hj'
       rw [Nat.zero_add] at h2
       rw [h2] at h1
       rw [Option.some.inj h1]
       exact hqD i j x c hr hc
   rw [hA.val, show xs.length + ys.length = (xs ++ ys).length from by simp]
   refine .sl _ cap' r (xs ++ ys) (fun i j => if i < xs.length then u1 i j else u2 (i - xs.length) j) b' (fun i j k => if i < xs.length then q1 i j k else q2 (i - xs.length) j k) vs' e' ⟨?_, hb'lt⟩ hA.heap hA.size (by simpa using hA.fits) hA.capm
    (fun i j x c hx hc => ?_) (fun i j k hk => ?_) (fun i j i' j' k hk hk' => ?_) (fun i j x c hx hc => ?_)
   ·rcases hplace with h | h
    ·exact .inr (.inr (by omega))
    ·exact .inl h.2.1
   ·obtain ⟨p, hp⟩ : ∃ p, (enc r x)[j]? = some p := ⟨_, List.getElem?_eq_getElem (by rw [enc_len]; exact cells_lt hc)⟩
    obtain ⟨u, h1, _, h3, _⟩ := hcont i j x p hx hp
    rw [h1, h3]
   ·split at hk
    ·have := hq1F i j k hk; exact ⟨⟨.inl this.1, Nat.lt_of_lt_of_le this.2.1 hA.grow⟩, this.2.2⟩
    ·have := hq2F _ j k hk; exact ⟨⟨.inr (.inl this.1), Nat.lt_of_lt_of_le this.2.2.1 hA.grow⟩, this.2.2.2⟩
   ·split at hk <;> split at hk'
    ·exact hq1d i j i' j' k hk hk'
    ·exact absurd (hq1F i j k hk).1 (hq2F _ j' k hk').2.1
    ·exact absurd (hq1F i' j' k hk').1 (hq2F _ j k hk).2.1
    ·have := hq2d _ j _ j' k hk hk'; exact ⟨by omega, this.2⟩
   ·by_cases hin : i < xs.length
    ·simp only [hin, if_true]
     rw [List.getElem?_append_left hin] at hx
     exact (hq1 i j x c hx hc).same (fun k hk => hA.same k (hq1F i j k hk).2.1 (hq1F i j k hk).2.2)
    ·simp only [hin, if_false]
     rw [List.getElem?_append_right (by omega)] at hx
     exact (hq2 _ j x c hx hc).same (fun k hk => hA.same k (hq2F _ j k hk).2.2.1 (hq2F _ j k hk).2.2.2)
end Go.Proofs.YtcjbjmbialienaaGreatDoor
