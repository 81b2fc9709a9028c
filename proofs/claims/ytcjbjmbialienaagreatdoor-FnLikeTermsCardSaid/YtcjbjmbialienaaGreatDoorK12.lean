/- The engine, twelfth part: literals of slices. -/
import Derived.Test.YtcjbjmbialienaaGreatDoorK11
set_option linter.unusedSimpArgs false
set_option linter.unusedVariables false
namespace Go.Proofs.YtcjbjmbialienaaGreatDoor
open Go.RowKit
section
variable {E : Env} {o : Oper} {s : LSt} {e : Eff} {fp : FP}
theorem jdC {c : Ctx} {a : Act} (hev : ∀ y, V3 c (s.ev y) (a.eval y)) (m : Nat) : ∀ (parts : List (Nat × Operand)) (i : Nat) (cs : List AV), partCells m i (parts.map fun q => (q.1, s.ev q.2)) = some cs →
  (parts.map fun q => (q.1, a.eval q.2)) = ((parts.map fun q => a.eval q.2).zipIdx i).map (fun x => (x.2, x.1)) ∧ (∀ v, v ∈ parts.map (fun q => a.eval q.2) → v.cells.size = m) ∧ All2 (V1c c) cs ((parts.map fun q => (a.eval q.2).cells.toList).flatten) ∧ cs.length = parts.length * m
 | [], i, cs, h => by simp [partCells] at h; subst h; exact ⟨rfl, fun v h => by simp at h, True.intro, by simp⟩
 | (j, x) :: parts, i, cs, h => by
  simp only [List.map_cons, partCells] at h
  split at h
  case isFalse => cases h
  case isTrue e =>
  subst e
  cases hx : (s.ev x).cells? with
  | none => simp [hx] at h
  | some ds =>
   cases hp : partCells m (i + 1) (parts.map fun q => (q.1, s.ev q.2)) with
   | none => simp [hx, hp] at h
   | some es =>
    simp only [hx, hp] at h
    split at h
    case isFalse => cases h
    case isTrue hl =>
    simp at h
    subst h
    obtain ⟨h1, h2, h3, h4⟩ := jdC hev m parts (i + 1) es hp
    have hc := cells_of hx (hev x)
    have hcl := hc.len
    refine ⟨by simp [h1], fun v hv => ?_, ?_, ?_⟩
    ·simp only [List.map_cons, List.mem_cons] at hv
     rcases hv with rfl | hv
     ·rw [← hl, hcl]; simp
     ·exact h2 v hv
    ·simp only [List.map_cons, List.flatten_cons]; exact hc.append h3
    ·simp only [List.length_append, List.length_cons, h4, hl, Nat.add_mul]; omega
def AsPV (x : AV) (p : PV) : Prop := ∃ t y, x.as t = some y ∧ enc t y = [p]
theorem jdg : ∀ (t : Tp) (cs : List AV) (y : t.D), mkRow t cs = some y → All2 AsPV cs (enc t y) := by
 have leaf : ∀ (t : Tp), (∀ y : t.D, ∃ p, enc t y = [p]) → ∀ (cs : List AV) (y : t.D), one t cs = some y → All2 AsPV cs (enc t y) := fun t ht cs y h => by
  match cs, h with
  | [a], h =>
   obtain ⟨p, hp⟩ := ht y
   rw [hp]; exact ⟨⟨t, y, h, hp⟩, True.intro⟩
 intro t
 induction t with
 | bool => exact leaf .bool (fun y => ⟨_, rfl⟩)
 | int k => exact leaf (.int k) (fun y => ⟨_, rfl⟩)
 | str => exact leaf .str (fun y => ⟨_, rfl⟩)
 | sl r _ => exact leaf (.sl r) (fun y => ⟨_, rfl⟩)
 | opt r _ => exact leaf (.opt r) (fun y => ⟨_, rfl⟩)
 | unit =>
  intro cs y h
  match cs, h with
  | [], _ => exact True.intro
 | pair a b iha ihb =>
  intro cs y h
  simp only [mkRow] at h
  split at h
  ·rename_i x1 x2 h1 h2
   cases h
   have := (iha _ _ h1).append (ihb _ _ h2)
   rwa [List.take_append_drop] at this
  ·cases h
 | q =>
  intro cs y h
  simp only [mkRow] at h
  match cs, h with
  | [k, f, ws, a, b, kids], h =>
   simp only [mkQ] at h
   split at h
   ·rename_i k' f' ws' a' b' kids' g1 g2 g3 g4 g5 g6
    cases h
    exact ⟨⟨_, _, g1, rfl⟩, ⟨_, _, g2, rfl⟩, ⟨_, _, g3, rfl⟩, ⟨_, _, g4, rfl⟩, ⟨_, _, g5, rfl⟩, ⟨_, _, g6, by simp only [enc, encQs_eq]⟩, True.intro⟩
   ·cases h
theorem jeA (r : Tp) : ∀ (n : Nat) (cs : List AV) (xs : List r.D), mkRows r n cs = some xs → xs.length = n ∧ ∀ i x, xs[i]? = some x → All2 AsPV ((cs.drop (i * r.w)).take r.w) (enc r x)
 | 0, cs, xs, h => by cases h; exact ⟨rfl, fun i x h => by simp at h⟩
 | n + 1, cs, xs, h => by
  simp only [mkRows] at h
  split at h
  ·rename_i x ys h1 h2
   cases h
   obtain ⟨h3, h4⟩ := jeA r n _ _ h2
   refine ⟨by simp [h3], fun i y hy => ?_⟩
   cases i with
   | zero => simp at hy; subst hy; simpa using jdg r _ _ h1
   | succ i =>
    have := h4 i y (by simpa using hy)
    rw [List.drop_drop] at this
    rw [Nat.add_mul, Nat.one_mul, Nat.add_comm]; exact this
  ·cases h
def AsAV (x c : AV) : Prop := ∃ t y, x.as t = some y ∧ c = .pv t y
theorem jdM : ∀ (t : Tp) (cs : List AV) (y : t.D), mkRow t cs = some y → All2 AsAV cs (cellsOf t y) := by
 have leaf : ∀ (t : Tp), (∀ y : t.D, cellsOf t y = [.pv t y]) → ∀ (cs : List AV) (y : t.D), one t cs = some y → All2 AsAV cs (cellsOf t y) := fun t ht cs y h => by
  match cs, h with
  | [a], h =>
   rw [ht y]; exact ⟨⟨t, y, h, rfl⟩, True.intro⟩
 intro t
 induction t with
 | bool => exact leaf .bool (fun y => rfl)
 | int k => exact leaf (.int k) (fun y => rfl)
 | str => exact leaf .str (fun y => rfl)
 | sl r _ => exact leaf (.sl r) (fun y => rfl)
 | opt r _ => exact leaf (.opt r) (fun y => rfl)
 | unit =>
  intro cs y h
  match cs, h with
  | [], _ => exact True.intro
 | pair a b iha ihb =>
  intro cs y h
  simp only [mkRow] at h
  split at h
  ·rename_i x1 x2 h1 h2
   cases h
   have := (iha _ _ h1).append (ihb _ _ h2)
   rwa [List.take_append_drop] at this
  ·cases h
 | q =>
  intro cs y h
  simp only [mkRow] at h
  match cs, h with
  | [k, f, ws, a, b, kids], h =>
   simp only [mkQ] at h
   split at h
   ·rename_i k' f' ws' a' b' kids' g1 g2 g3 g4 g5 g6
    cases h
    exact ⟨⟨_, _, g1, rfl⟩, ⟨_, _, g2, rfl⟩, ⟨_, _, g3, rfl⟩, ⟨_, _, g4, rfl⟩, ⟨_, _, g5, rfl⟩, ⟨_, _, g6, rfl⟩, True.intro⟩
   ·cases h
theorem jc8 (r : Tp) : ∀ (n : Nat) (cs : List AV) (xs : List r.D), mkRows r n cs = some xs → xs.length = n ∧ ∀ i x, xs[i]? = some x → All2 AsAV ((cs.drop (i * r.w)).take r.w) (cellsOf r x)
 | 0, cs, xs, h => by cases h; exact ⟨rfl, fun i x h => by simp at h⟩
 | n + 1, cs, xs, h => by
  simp only [mkRows] at h
  split at h
  ·rename_i x ys h1 h2
   cases h
   obtain ⟨h3, h4⟩ := jc8 r n _ _ h2
   refine ⟨by simp [h3], fun i y hy => ?_⟩
   cases i with
   | zero => simp at hy; subst hy; simpa using jdM r _ _ h1
   | succ i =>
    have := h4 i y (by simpa using hy)
    rw [List.drop_drop] at this
    rw [Nat.add_mul, Nat.one_mul, Nat.add_comm]; exact this
  ·cases h
theorem jjN {c : Ctx} {x : AV} {v : Value} {p : PV} (hx : AsPV x p) (h : V1 c x v) : Rep c.w c.S v p := by
 obtain ⟨t, y, h1, h2⟩ := hx
 obtain ⟨p', h3, h4⟩ := jF h1 (V3_of_V1 h)
 rw [h2] at h3; cases h3; exact h4
def jgA (s : LSt) (cs : List AV) (l : List Nat) (deep : Bool) : Prop :=
 (∀ t, t ∈ l ↔ ∃ r xs, AV.own t r xs ∈ cs) ∧
 (deep = true → (∀ x, x ∈ cs → (∃ t y, x = .pv t y ∧ t.flatB = true) ∨ x = .nils ∨ ∃ t r xs tk, x = .own t r xs ∧ lookT s.T t = some (.live tk) ∧ tk.deep = true) ∧ ∀ (k k' : Nat) t r r' xs xs', cs[k]? = some (.own t r xs) → cs[k']? = some (.own t r' xs') → k = k')
theorem jed : ∀ (cs : List AV) (f : List (Nat × Option TS) → Bool → RD) (rb rt : List Nat), (giveToks cs f).R s rb rt e fp → ∃ l p rt', jgA s cs l p ∧ (f (l.map fun t => (t, some TS.spent)) p).R s rb rt' e fp
 | [], f, rb, rt, h => ⟨[], true, rt, ⟨fun t => by simp, fun _ => ⟨fun x hx => by simp at hx, fun k k' t r r' xs xs' h => by simp at h⟩⟩, h⟩
 | x :: cs, f, rb, rt, h => by
  have other : ∀ (g : List (Nat × Option TS) → Bool → RD) (pr : Bool), (∀ t r xs, x ≠ .own t r xs) → (pr = true → (∃ t y, x = .pv t y ∧ t.flatB = true) ∨ x = .nils) → (giveToks cs g).R s rb rt e fp → (∀ es p, g es p = f es (pr && p)) → ∃ l p rt', jgA s (x :: cs) l p ∧ (f (l.map fun t => (t, some TS.spent)) p).R s rb rt' e fp := fun g pr hno hfl hg hgf => by
   obtain ⟨l, p, rt', ⟨g2, g3⟩, h'⟩ := jed cs g rb rt hg
   rw [hgf] at h'
   refine ⟨l, pr && p, rt', ⟨fun t => ?_, fun hp => ?_⟩, h'⟩
   ·rw [g2 t]
    constructor
    ·rintro ⟨r, xs, h⟩; exact ⟨r, xs, List.mem_cons_of_mem _ h⟩
    ·rintro ⟨r, xs, h⟩
     rcases List.mem_cons.1 h with h | h
     ·exact absurd h.symm (hno t r xs)
     ·exact ⟨r, xs, h⟩
   ·simp only [Bool.and_eq_true] at hp
    refine ⟨fun y hy => ?_, fun k k' t r r' xs xs' h1 h2 => ?_⟩
    ·rcases List.mem_cons.1 hy with rfl | hy
     ·exact (hfl hp.1).imp id .inl
     ·exact (g3 hp.2).1 y hy
    ·cases k with
     | zero => simp at h1; exact absurd h1 (hno t r xs)
     | succ k => cases k' with
      | zero => simp at h2; exact absurd h2 (hno t r' xs')
      | succ k' => rw [(g3 hp.2).2 k k' t r r' xs xs' (by simpa using h1) (by simpa using h2)]
  cases x with
  | own t r xs =>
   simp only [giveToks, RD.R] at h
   obtain ⟨l, p, rt', ⟨g2, g3⟩, h'⟩ := jed cs _ rb _ h
   refine ⟨t :: l, _, rt', ⟨fun t' => ?_, fun hp => ?_⟩, h'⟩
   ·constructor
    ·intro hy
     rcases List.mem_cons.1 hy with rfl | hy
     ·exact ⟨r, xs, List.mem_cons_self⟩
     ·obtain ⟨r', xs', hr⟩ := (g2 t').1 hy; exact ⟨r', xs', List.mem_cons_of_mem _ hr⟩
    ·rintro ⟨r', xs', hr⟩
     rcases List.mem_cons.1 hr with hr | hr
     ·cases hr; exact List.mem_cons_self
     ·exact List.mem_cons_of_mem _ ((g2 t').2 ⟨r', xs', hr⟩)
   ·simp only [Bool.and_eq_true] at hp
    obtain ⟨⟨hp1, hp2⟩, hp3⟩ := hp
    have hnew : t ∉ l := fun hin => by
     have := List.all_eq_true.1 hp3 (t, some .spent) (List.mem_map.2 ⟨t, hin, rfl⟩)
     simp at this
    refine ⟨fun y hy => ?_, fun k k' t' r1 r2 xs1 xs2 h1 h2 => ?_⟩
    ·rcases List.mem_cons.1 hy with rfl | hy
     ·cases ht : lookT s.T t with
      | none => rw [ht] at hp1; cases hp1
      | some z => cases z with
       | spent => rw [ht] at hp1; cases hp1
       | live tk => rw [ht] at hp1; exact .inr (.inr ⟨t, r, xs, tk, rfl, ht, hp1⟩)
     ·exact (g3 hp2).1 y hy
    ·have hno : ∀ (k : Nat) r xs, cs[k]? = some (.own t r xs) → False := fun k r xs hk => hnew ((g2 t).2 ⟨r, xs, List.mem_of_getElem? hk⟩)
     cases k with
     | zero =>
      simp at h1
      cases k' with
      | zero => rfl
      | succ k' => simp at h2; rw [← h1.1] at h2; exact (hno k' _ _ h2).elim
     | succ k => cases k' with
      | zero => simp at h2 h1; rw [← h2.1] at h1; exact (hno k _ _ h1).elim
      | succ k' => rw [(g3 hp2).2 k k' t' r1 r2 xs1 xs2 (by simpa using h1) (by simpa using h2)]
  | pv t y => exact other _ t.flatB (fun _ _ _ h => by cases h) (fun hq => .inl ⟨t, y, rfl, hq⟩) h (fun es p => rfl)
  | nils => exact other _ true (fun _ _ _ h => by cases h) (fun _ => .inr rfl) h (fun es p => by simp)
  | dead => exact other _ false (fun _ _ _ h => by cases h) (fun h => by cases h) h (fun es p => by simp)
  | nilp => exact other _ false (fun _ _ _ h => by cases h) (fun h => by cases h) h (fun es p => by simp)
  | agg _ => exact other _ false (fun _ _ _ h => by cases h) (fun h => by cases h) h (fun es p => by simp)
  | tup _ => exact other _ false (fun _ _ _ h => by cases h) (fun h => by cases h) h (fun es p => by simp)
  | box _ _ => exact other _ false (fun _ _ _ h => by cases h) (fun h => by cases h) h (fun es p => by simp)
  | ptr _ _ _ => exact other _ false (fun _ _ _ h => by cases h) (fun h => by cases h) h (fun es p => by simp)
  | mtk _ => exact other _ false (fun _ _ _ h => by cases h) (fun h => by cases h) h (fun es p => by simp)
  | mptr _ _ _ => exact other _ false (fun _ _ _ h => by cases h) (fun h => by cases h) h (fun es p => by simp)
  | gmap _ => exact other _ false (fun _ _ _ h => by cases h) (fun h => by cases h) h (fun es p => by simp)
  | clo _ _ => exact other _ false (fun _ _ _ h => by cases h) (fun h => by cases h) h (fun es p => by simp)
theorem jjq {P : Program} (w : World) (T e : TypeId) (parts : List (Nat × Value)) (len m : Nat) (ie : TypeInfo) (z : Value) (hu : P.underlying T = some (.slice e)) (hie : P.info? e = some ie) (hz : ie.zero = some z) (hsz : ie.size = m) (hzs : z.cells.size = m) (hm : 0 < m) (hsmall : len * m ≤ 16777216)
  (vals : List Value) (hp : parts = (vals.zipIdx 0).map (fun x => (x.2, x.1))) (hlen : vals.length = len) (hv : ∀ v, v ∈ vals → v.cells.size = m) :
  (Instr.buildSlice T len parts.toArray).run P w = .ok (.slice (some ⟨w.heap.size, 0, none⟩) len len) (w.alloc (.cells (vals.map fun v => v.cells.toList).flatten.toArray e)) := by
 by_cases h0 : len = 0
 ·subst h0
  have : vals = [] := List.eq_nil_of_length_eq_zero hlen
  subst this
  subst hp
  simp [Instr.buildSlice, run_underlying hu, sizeOf, typeInfo, hie, Instr.fill, newRow]
  rw [show Array.map (fun _ => default) (Array.range 0) = (#[] : Array Value) from by apply Array.ext'; simp]
 ·have hpos : ¬ len * ie.size = 0 := by rw [hsz]; exact fun h => (Nat.mul_eq_zero.1 h).elim h0 (by omega)
  obtain ⟨r, hf, hrs, hrk⟩ := Go.Great.fill_dense hm vals 0 ((Array.range (len * ie.size)).map (z.cells[· % z.cells.size]!)) hv (by simp [hlen, hsz])
  have hr : r = (vals.map fun v => v.cells.toList).flatten.toArray := by
   apply Array.ext'
   apply List.ext_getElem?
   intro t
   have hml : ∀ cs, cs ∈ vals.map (fun v => v.cells.toList) → cs.length = m := fun cs hcs => by
    obtain ⟨v, hv', rfl⟩ := List.mem_map.1 hcs
    simpa using hv v hv'
   have htot := flatten_len (vals.map fun v => v.cells.toList) m hml
   simp only [List.length_map, hlen] at htot
   by_cases ht : t < len * m
   ·have h1 : t / m < len := (Nat.div_lt_iff_lt_mul hm).2 ht
    have h2 : t % m < m := Nat.mod_lt _ hm
    have h3 : t = t / m * m + t % m := by rw [Nat.mul_comm]; exact (Nat.div_add_mod t m).symm
    have hk := hrk t
    rw [if_pos (by simp [hlen, ht]), Nat.sub_zero, List.getElem?_eq_getElem (by omega), Option.bind_some] at hk
    have hvs : (vals[t / m]'(by omega)).cells.size = m := hv _ (by simp)
    have hfl := flatten_at _ m hml (t / m) ((vals[t / m]'(by omega)).cells.toList) (by simp; exact ⟨_, List.getElem?_eq_getElem (by omega), rfl⟩) (t % m) ((vals[t / m]'(by omega)).cells.toList[t % m]'(by simp [hvs, h2])) (by simp)
    rw [← h3] at hfl
    rw [Array.getElem?_toList, hk]
    simp only [hfl]
    rw [Array.getElem?_eq_getElem (by omega)]
    simp
   ·rw [List.getElem?_eq_none (by simp [hrs, hsz]; omega), List.getElem?_eq_none (by simp only [htot]; omega)]
  rw [← hr]
  exact run_buildSlice w T e len parts.toArray r ie z hu hie hz (by rw [hsz]; omega) hpos (by rw [show parts.toArray.toList = parts from by simp, hp]; rw [hsz] at hf ⊢; exact hf)
theorem joN (hE : EnvOk E) (T : TypeId) (len : Nat) (parts : Array (Nat × Operand)) (ho : o.op = .buildSlice T len parts)
  (htree : ∀ (d : Nat) (ty : Ty) (e' : TypeId) (r : Tp) (by' : Nat) (cs : List AV) (xs : List r.D), o.dst = some d → E.ty T = some ty → ty.elem = some (e', r, by') → partCells r.w 0 (parts.toList.map fun q => (q.1, s.ev q.2)) = some cs → mkRows r len cs = some xs → len = parts.toList.length → len * r.w ≤ 16777216 → zeroDeep cs = true → (newTree E d r xs e' []).R s [] [] e fp → Sim E o s e)
  (h : (opRD E o.op o.dst s.ev).R s [] [] e fp) : Sim E o s e := by
 rw [ho] at h
 simp only [opRD] at h
 split at h
 case h_2 => exact h.elim
 rename_i d ty hdst hty
 have hT := hE.ty T ty hty
 split at h
 case h_2 => exact h.elim
 rename_i e' r by' he
 split at h
 case h_2 => exact h.elim
 rename_i cs hcs
 split at h
 case h_2 => exact h.elim
 rename_i xs hxs
 split at h
 case isFalse => exact h.elim
 rename_i hlen
 obtain ⟨hlen, hsmall⟩ := hlen
 split at h
 ·rename_i hz
  exact htree d ty e' r _ cs xs hdst hty he hcs hxs hlen hsmall hz.2.2 h
 obtain ⟨l, deep, rt', ⟨hll, hgd⟩, h⟩ := jed cs _ _ _ h
 obtain ⟨hd, hfr, hres, rfl⟩ := jds h
 rintro R a w hR0 ⟨β, τ, F, S, hM, hn, hdf, hsl⟩ K Q hK
 have hev := V3_ev hsl
 obtain ⟨hu, hpos, ie, z, hie, hsz, hby, hz, hzs⟩ := hT.elem _ _ _ he
 obtain ⟨p1, p2, p3, p4⟩ := jdC hev r.w parts.toList 0 cs hcs
 obtain ⟨hxl, hxr⟩ := jeA r len cs xs hxs
 obtain ⟨vals, hvals⟩ : ∃ vals, vals = parts.toList.map fun q => a.eval q.2 := ⟨_, rfl⟩
 have hvl : vals.length = len := by rw [hvals, hlen]; simp
 have hrun0 := jjq (P := E.P) w T e' (parts.toList.map fun q => (q.1, a.eval q.2)) len r.w ie z hu hie hz hsz hzs hpos hsmall vals (by rw [p1, ← hvals]) hvl (by rw [hvals]; exact p2)
 obtain ⟨us, hus⟩ : ∃ us, us = (vals.map fun v => v.cells.toList).flatten := ⟨_, rfl⟩
 have hcu : All2 (V1c (s.ctx w S β τ)) cs us := by
  rw [hus, hvals, List.map_map]; exact p3
 have hul : us.length = len * r.w := by rw [← hcu.len, p4, ← hlen]
 rw [← hus] at hrun0
 have hrun : (execOp a.eval o).run E.P w = .ok (.value (.slice (some ⟨w.heap.size, 0, none⟩) len len)) (w.alloc (.cells us.toArray e')) := by
  have ep : (parts.map fun (i, x) => (i, a.eval x)) = (parts.toList.map fun q => (q.1, a.eval q.2)).toArray := by apply Array.ext'; simp
  simp only [execOp, ho, Sem.run_bind, ep, hrun0, Result.andThen_ok, Sem.run_pure]
 have hdl : d ∉ l := fun hin => hfr (d, some .spent) (List.mem_map.2 ⟨d, hin, rfl⟩) rfl
 obtain ⟨w', hw'⟩ : ∃ w', w' = w.alloc (.cells us.toArray e') := ⟨_, rfl⟩
 rw [← hw'] at hrun
 have hb : Below w.heap.size w w' := by rw [hw']; exact (Below.refl _ _).alloc (Nat.le_refl _) _
 have hnew : w'.heap[w.heap.size]? = some (.cells us.toArray e' (0, 0)) := by rw [hw']; exact heap_alloc_new w _
 have hsz' : w'.heap.size = w.heap.size + 1 := by rw [hw']; simp
 obtain ⟨S', hS'⟩ : ∃ S' : Stab, S' = stabApp (E.wr d) S w.heap.size (len * r.w) := ⟨_, rfl⟩
 have hSo : ∀ b q, S b q → S' b q := fun b q h => by rw [hS']; exact .inl h
 have hSn : ∀ b q, S' b q → S b q ∨ w.heap.size ≤ b := fun b q h => by
  rw [hS'] at h
  rcases h with h | ⟨_, rfl, _⟩
  ·exact .inl h
  ·exact .inr (Nat.le_refl _)
 have hSl : ∀ b q, S' b q → b < w'.heap.size := fun b q h => by
  rw [hS'] at h
  rcases h with h | ⟨_, rfl, _⟩
  ·have := hM.lt b q h; omega
  ·omega
 have hM1 := (hM.drop (tok' := jd (lookT s.T) l) (fun t ht => jQ ht) (fun t tk h => (jo h).2)).grow hb hSo hSn hSl
 have hcell : ∀ k, w'.cell? ⟨w.heap.size, k, none⟩ = us[k]? := fun k => cell_box hnew k
 have hrow : ∀ (i j : Nat) (x : r.D) (c : PV), xs[i]? = some x → (enc r x)[j]? = some c → i < len ∧ j < r.w ∧ i * r.w + j < len * r.w ∧ ∃ y u, cs[i * r.w + j]? = some y ∧ AsPV y c ∧ us[i * r.w + j]? = some u ∧ V1c (s.ctx w S β τ) y u := fun i j x c hx hc => by
  have hi : i < len := by rw [← hxl]; exact (List.getElem?_eq_some_iff.1 hx).1
  have hj : j < r.w := by have := (List.getElem?_eq_some_iff.1 hc).1; rwa [enc_len] at this
  have him : i * r.w + r.w ≤ len * r.w := by
   have : (i + 1) * r.w ≤ len * r.w := Nat.mul_le_mul_right _ hi
   rw [Nat.add_mul] at this; omega
  have ha := hxr i x hx
  have hal := ha.len
  rw [enc_len] at hal
  obtain ⟨y, hy⟩ : ∃ y, ((cs.drop (i * r.w)).take r.w)[j]? = some y := ⟨_, List.getElem?_eq_getElem (by rw [hal]; exact hj)⟩
  have hyc := ha.get' j y c hy hc
  rw [List.getElem?_take, if_pos hj, List.getElem?_drop] at hy
  obtain ⟨u, hu1, hu2⟩ := hcu.get _ _ hy
  exact ⟨hi, hj, by omega, y, u, hy, hyc, hu1, hu2⟩
 have hlm : len ≤ maxLen := by
  have : len ≤ len * r.w := Nat.le_mul_of_pos_right _ hpos
  simp only [maxLen]; omega
 have hTk : TokOk R.fr w' S' ⟨r, xs, e', E.wr d, deep, none⟩ (.slice (some ⟨w.heap.size, 0, none⟩) len len) (fun b => b = w.heap.size ∨ (deep = true ∧ ∃ t tk, t ∈ l ∧ lookT s.T t = some (.live tk) ∧ F t b)) := by
  refine ⟨fun b hb' => ?_, .inr ⟨w.heap.size, len, us.toArray, e', by rw [hxl], .inl rfl, hnew, by simpa using hul, by rw [hxl]; exact Nat.le_refl _, hlm, fun hw q hq => ?_, fun hw q hq => ?_, fun i j x c hx hc => ?_⟩, ?_⟩
  ·rcases hb' with rfl | ⟨_, t, tk, _, h2, h3⟩
   ·exact ⟨.inl hM.size, by omega⟩
   ·have := (hM.toks t tk h2).1 b h3; exact ⟨this.1, by omega⟩
  ·simp only [hxl]
   rw [hS'] at hq
   rcases hq with hq | ⟨_, _, hq⟩
   ·have := hM.lt _ _ hq; omega
   ·exact hq
  ·simp only at hw
   rw [hS'] at hq
   rcases hq with hq | ⟨hq, _⟩
   ·have := hM.lt _ _ hq; omega
   ·rw [hw] at hq; cases hq
  ·obtain ⟨h1, h1', h2, y, u, h3, h4, h5, h6⟩ := hrow i j x c hx hc
   exact ⟨u, by simpa using h5, fun _ => (jjN h4 h6.1).mono hSo (fun b q hq => (bcell hb).1 b q (hM.lt b q hq)), fun hw => by rw [hS']; exact .inr ⟨hw, rfl, h2⟩⟩
  ·show (deep = true → Deep w' _ (.slice (some ⟨w.heap.size, 0, none⟩) len len) (.pv (.sl r) xs))
   intro hp
   obtain ⟨g4, g5⟩ := hgd hp
   obtain ⟨_, hxt⟩ := jc8 r len cs xs hxs
   have hrow' : ∀ (i j : Nat) (x : r.D) (c : AV), xs[i]? = some x → (cellsOf r x)[j]? = some c → i < len ∧ j < r.w ∧ ∃ y u, cs[i * r.w + j]? = some y ∧ AsAV y c ∧ us[i * r.w + j]? = some u ∧ V1c (s.ctx w S β τ) y u := fun i j x c hx hc => by
    have hi : i < len := by rw [← hxl]; exact (List.getElem?_eq_some_iff.1 hx).1
    have hj : j < r.w := cells_lt hc
    have ha := hxt i x hx
    have hal := ha.len
    rw [cells_len] at hal
    obtain ⟨y, hy⟩ : ∃ y, ((cs.drop (i * r.w)).take r.w)[j]? = some y := ⟨_, List.getElem?_eq_getElem (by rw [hal]; exact hj)⟩
    have hyc := ha.get' j y c hy hc
    rw [List.getElem?_take, if_pos hj, List.getElem?_drop] at hy
    obtain ⟨u, hu1, hu2⟩ := hcu.get _ _ hy
    exact ⟨hi, hj, y, u, hy, hyc, hu1, hu2⟩
   have := Deep.sl (w := w') (fun b => b = w.heap.size ∨ (deep = true ∧ ∃ t tk, t ∈ l ∧ lookT s.T t = some (.live tk) ∧ F t b)) len r xs (fun i j => (us[i * r.w + j]?).getD undef) w.heap.size (fun i j b => j < r.w ∧ ∃ t r' zs tk, cs[i * r.w + j]? = some (.own t r' zs) ∧ lookT s.T t = some (.live tk) ∧ F t b) us.toArray e' (.inl rfl) hnew (by simpa using hul) (by rw [hxl]; exact Nat.le_refl _) hlm
    (fun i j x c hx hc => ?_) (fun i j k hk => ?_) (fun i j i' j' k hk hk' => ?_) (fun i j x c hx hc => ?_)
   ·rwa [hxl] at this
   ·obtain ⟨h1, h1', y, u, h3, h4, h5, h6⟩ := hrow' i j x c hx hc
    simp only [List.getElem?_toArray, h5, Option.getD_some]
   ·obtain ⟨hjm, t, r', zs, tk, h1, h2, h3⟩ := hk
    refine ⟨.inr ⟨hp, t, tk, (hll t).2 ⟨r', zs, List.mem_of_getElem? h1⟩, h2, h3⟩, fun ek => ?_⟩
    have := ((hM.toks t tk h2).1 k h3).2
    omega
   ·obtain ⟨hjm, t, r1, zs, tk, h1, h2, h3⟩ := hk
    obtain ⟨hjm', t', r2, zs', tk', h1', h2', h3'⟩ := hk'
    obtain rfl := hM.tdis t t' tk tk' k h2 h2' h3 h3'
    have hh := g5 _ _ t r1 r2 zs zs' h1 h1'
    have e1 : (i * r.w + j) / r.w = i := by rw [Nat.mul_comm, Nat.mul_add_div hpos, Nat.div_eq_of_lt hjm]; omega
    have e2 : (i' * r.w + j') / r.w = i' := by rw [Nat.mul_comm, Nat.mul_add_div hpos, Nat.div_eq_of_lt hjm']; omega
    have e3 : i = i' := by rw [← e1, hh, e2]
    subst e3
    exact ⟨rfl, by omega⟩
   ·obtain ⟨h1, h1', y, u, h3, h4, h5, h6⟩ := hrow' i j x c hx hc
    simp only [h5, Option.getD_some]
    obtain ⟨t0, y0, ha, rfl⟩ := h4
    rcases g4 y (List.mem_of_getElem? h3) with ⟨t1, z1, rfl, hfl⟩ | rfl | ⟨t1, r1, zs, tk, rfl, h7, h8⟩
    ·simp only [AV.as] at ha
     split at ha
     ·rename_i et
      subst et
      cases ha
      obtain ⟨p, he, hr⟩ := v3_pv (V3_of_V1 h6.1)
      have hl := flat_isLit _ _ hfl p (by rw [he]; simp)
      exact .lit _ u _ _ p he hl (rep_litV hr hl)
     ·cases ha
    ·cases t0 with
     | sl r0 =>
      cases ha
      have e : u = .slice none 0 0 := h6.1
      rw [e]
      exact .nil _ _
     | _ => cases ha
    ·simp only [AV.as] at ha
     split at ha
     ·rename_i et
      subst et
      cases ha
      obtain ⟨_, _, k3⟩ := v3_own (V3_of_V1 h6.1)
      obtain ⟨e0, e1, e2⟩ := k3 tk h7
      have hD := (hM.toks t1 tk h7).deepOf ((hM.toks t1 tk h7).plain e0) h8
      rw [show τ t1 = u from e1.symm] at hD
      have hD' := (je3 hD e2).same (w' := w') (fun k hk => hb.block k ((hM.toks t1 tk h7).1 k hk).2)
      exact hD'.mono (fun k hk => ⟨h1', t1, r1, zs, tk, h3, h7, hk⟩)
     ·cases ha
 refine wp_value hrun (hK _ _ (jak (s := s) l hM1 hn hdf hsl (fun _ _ _ _ _ => ⟨hSo, fun b q hq => (bcell hb).1 b q (hM.lt b q hq)⟩) d hd (hR0.tn hres) ⟨r, xs, e', E.wr d, deep, none⟩ _ _ hTk rfl (fun t tk' b htl ht hb' hF => ?_) (fun k b hk hb' => ?_) o.dst hdl _ rfl))
 ·rcases hb' with rfl | ⟨_, t', tk, h1, h2, h3⟩
  ·have := ((hM.toks t tk' ht).1 _ hF).2; omega
  ·exact htl (hM.tdis t t' tk' tk b ht h2 hF h3 ▸ h1)
 ·rcases hb' with h | ⟨_, t', tk, h1, h2, h3⟩
  ·have := hM.blt hk; omega
  ·exact hM.tbox t' tk k b h2 hk h3
end
end Go.Proofs.YtcjbjmbialienaaGreatDoor
