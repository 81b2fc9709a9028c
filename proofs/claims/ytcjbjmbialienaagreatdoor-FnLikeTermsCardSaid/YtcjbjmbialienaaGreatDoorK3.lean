/- The engine, third part: what abstract values mean in memory. -/
import Derived.Test.YtcjbjmbialienaaGreatDoorK2
set_option linter.unusedSimpArgs false
set_option linter.unusedVariables false
namespace Go.Proofs.YtcjbjmbialienaaGreatDoor
open Go.RowKit
abbrev Stab := Nat → Nat → Prop
inductive Rep (w : World) (S : Stab) : Value → PV → Prop where
 | bool (b : Bool) : Rep w S (.bool b) (.bool b)
 | int (k : IntKind) (n : Int) : Rep w S (.int k n) (.int k n)
 | str (s : ByteArray) : Rep w S (.string s) (.str s)
 | nil : Rep w S (.pointer none) (.opt none)
 | ptr (row : List PV) (u : Nat → Value) (b o : Nat)
   (hs : ∀ (j : Nat) (c : PV), row[j]? = some c → S b (o + j))
   (hu : ∀ (j : Nat) (c : PV), row[j]? = some c → w.cell? ⟨b, o + j, none⟩ = some (u j))
   (hr : ∀ (j : Nat) (c : PV), row[j]? = some c → Rep w S (u j) c) : Rep w S (.pointer (some ⟨b, o, none⟩)) (.opt (some row))
 | sl (a : Option Addr) (cap : Nat) (rows : List (List PV)) (u : Nat → Nat → Value) (b o m : Nat) (hc : rows.length ≤ cap) (ha : rows ≠ [] → a = some ⟨b, o, none⟩)
   (hm : ∀ (i : Nat) (row : List PV), rows[i]? = some row → row.length = m)
   (hs : ∀ (i j : Nat) (row : List PV) (c : PV), rows[i]? = some row → row[j]? = some c → S b (o + i * m + j))
   (hu : ∀ (i j : Nat) (row : List PV) (c : PV), rows[i]? = some row → row[j]? = some c → w.cell? ⟨b, o + i * m + j, none⟩ = some (u i j))
   (hr : ∀ (i j : Nat) (row : List PV) (c : PV), rows[i]? = some row → row[j]? = some c → Rep w S (u i j) c) : Rep w S (.slice a rows.length cap) (.sl rows)
theorem Rep.mono {w w' : World} {S S' : Stab} (hS : ∀ b o, S b o → S' b o) (hw : ∀ b o, S b o → w'.cell? ⟨b, o, none⟩ = w.cell? ⟨b, o, none⟩) {v : Value} {p : PV} (h : Rep w S v p) : Rep w' S' v p := by
 induction h with
 | bool b => exact .bool b
 | int k n => exact .int k n
 | str s => exact .str s
 | nil => exact .nil
 | ptr row u b o hs hu hr ih => exact .ptr row u b o (fun j c h => hS _ _ (hs j c h)) (fun j c h => (hw _ _ (hs j c h)).trans (hu j c h)) ih
 | sl a cap rows u b o m hc ha hm hs hu hr ih =>
  exact .sl a cap rows u b o m hc ha hm (fun i j row c h1 h2 => hS _ _ (hs i j row c h1 h2)) (fun i j row c h1 h2 => (hw _ _ (hs i j row c h1 h2)).trans (hu i j row c h1 h2)) ih
theorem Rep.one {w : World} {S : Stab} {v : Value} {p : PV} (h : Rep w S v p) : v.oneCell' = true := by cases h <;> rfl
def CellsAt (w : World) (S : Stab) (b o : Nat) (row : List PV) : Prop := ∀ (j : Nat) (c : PV), row[j]? = some c → S b (o + j) ∧ ∃ u, w.cell? ⟨b, o + j, none⟩ = some u ∧ Rep w S u c
theorem CellsAt.mono {w w' : World} {S S' : Stab} (hS : ∀ b o, S b o → S' b o) (hw : ∀ b o, S b o → w'.cell? ⟨b, o, none⟩ = w.cell? ⟨b, o, none⟩) {b o : Nat} {row : List PV} (h : CellsAt w S b o row) : CellsAt w' S' b o row := by
 intro j c hj
 obtain ⟨h1, u, h2, h3⟩ := h j c hj
 exact ⟨hS _ _ h1, u, (hw _ _ h1).trans h2, h3.mono hS hw⟩
theorem Rep.optOpen {w : World} {S : Stab} {v : Value} {row : List PV} (h : Rep w S v (.opt (some row))) : ∃ b o, v = .pointer (some ⟨b, o, none⟩) ∧ CellsAt w S b o row := by
 cases h with
 | ptr row u b o hs hu hr => exact ⟨b, o, rfl, fun j c hj => ⟨hs j c hj, u j, hu j c hj, hr j c hj⟩⟩
theorem Rep.optMk {w : World} {S : Stab} {b o : Nat} {row : List PV} (h : CellsAt w S b o row) : Rep w S (.pointer (some ⟨b, o, none⟩)) (.opt (some row)) := by
 refine .ptr row (fun j => (w.cell? ⟨b, o + j, none⟩).getD undef) b o (fun j c hj => (h j c hj).1) (fun j c hj => ?_) (fun j c hj => ?_)
 ·obtain ⟨_, u, h2, _⟩ := h j c hj; simp [h2]
 ·obtain ⟨_, u, h2, h3⟩ := h j c hj; simpa [h2] using h3
theorem Rep.opened {w : World} {S : Stab} {v : Value} {rows : List (List PV)} (h : Rep w S v (.sl rows)) :
  ∃ a cap b o m, v = .slice a rows.length cap ∧ rows.length ≤ cap ∧ (rows ≠ [] → a = some ⟨b, o, none⟩) ∧ (∀ (i : Nat) (row : List PV), rows[i]? = some row → row.length = m) ∧ ∀ (i : Nat) (row : List PV), rows[i]? = some row → CellsAt w S b (o + i * m) row := by
 cases h with
 | sl a cap rows u b o m hc ha hm hs hu hr =>
  exact ⟨a, cap, b, o, m, rfl, hc, ha, hm, fun i row hi j c hj => ⟨hs i j row c hi hj, u i j, hu i j row c hi hj, hr i j row c hi hj⟩⟩
theorem Rep.mk {w : World} {S : Stab} {a : Option Addr} {cap b o m : Nat} {rows : List (List PV)} (hc : rows.length ≤ cap) (ha : rows ≠ [] → a = some ⟨b, o, none⟩)
  (hm : ∀ (i : Nat) (row : List PV), rows[i]? = some row → row.length = m) (hr : ∀ (i : Nat) (row : List PV), rows[i]? = some row → CellsAt w S b (o + i * m) row) : Rep w S (.slice a rows.length cap) (.sl rows) := by
 refine .sl a cap rows (fun i j => (w.cell? ⟨b, o + i * m + j, none⟩).getD undef) b o m hc ha hm (fun i j row c hi hj => (hr i row hi j c hj).1) (fun i j row c hi hj => ?_) (fun i j row c hi hj => ?_)
 ·obtain ⟨_, u, h2, _⟩ := hr i row hi j c hj
  simp [h2]
 ·obtain ⟨_, u, h2, h3⟩ := hr i row hi j c hj
  simpa [h2] using h3
theorem rep_nils {w : World} {S : Stab} : Rep w S (.slice none 0 0) (.sl []) := Rep.mk (b := 0) (o := 0) (m := 0) (Nat.le_refl _) (fun h => absurd rfl h) (fun i row h => by simp at h) (fun i row h => by simp at h)
inductive Deep (w : World) : (Nat → Prop) → Value → AV → Prop where
 | lit (F : Nat → Prop) (v : Value) (t : Tp) (x : t.D) (p : PV) (he : enc t x = [p]) (hl : p.isLit = true) (hv : v = litOf p) : Deep w F v (.pv t x)
 | nil (F : Nat → Prop) (r : Tp) : Deep w F (.slice none 0 0) (.pv (.sl r) ([] : List r.D))
 | sl (F : Nat → Prop) (cap : Nat) (r : Tp) (xs : List r.D) (u : Nat → Nat → Value) (b : Nat) (q : Nat → Nat → Nat → Prop) (vs : Array Value) (T : TypeId) (hb : F b) (hg : w.heap[b]? = some (.cells vs T (0, 0))) (hz : vs.size = cap * r.w) (hc : xs.length ≤ cap) (hx : cap ≤ maxLen)
   (hu : ∀ (i j : Nat) (x : r.D) (c : AV), xs[i]? = some x → (cellsOf r x)[j]? = some c → vs[i * r.w + j]? = some (u i j))
   (hq : ∀ i j k, q i j k → F k ∧ k ≠ b) (hd : ∀ i j i' j' k, q i j k → q i' j' k → i = i' ∧ j = j')
   (hr : ∀ (i j : Nat) (x : r.D) (c : AV), xs[i]? = some x → (cellsOf r x)[j]? = some c → Deep w (q i j) (u i j) c) : Deep w F (.slice (some ⟨b, 0, none⟩) xs.length cap) (.pv (.sl r) xs)
theorem Deep.same {w w' : World} {F : Nat → Prop} {v : Value} {p : AV} (h : Deep w F v p) (hw : ∀ k, F k → w'.heap[k]? = w.heap[k]?) : Deep w' F v p := by
 induction h with
 | lit F v t x p he hl hv => exact .lit F v t x p he hl hv
 | nil F r => exact .nil F r
 | sl F cap r xs u b q vs T hb hg hz hc hx hu hq hd hr ih =>
  exact .sl F cap r xs u b q vs T hb ((hw b hb).trans hg) hz hc hx hu hq hd (fun i j x c h1 h2 => ih i j x c h1 h2 (fun k hk => hw k (hq i j k hk).1))
theorem Deep.mono {w : World} {F G : Nat → Prop} {v : Value} {p : AV} (h : Deep w F v p) (hFG : ∀ k, F k → G k) : Deep w G v p := by
 cases h with
 | lit _ _ t x p he hl hv => exact .lit G v t x p he hl hv
 | nil _ r => exact .nil G r
 | sl _ cap r xs u b q vs T hb hg hz hc hx hu hq hd hr => exact .sl G cap r xs u b q vs T (hFG _ hb) hg hz hc hx hu (fun i j k hk => ⟨hFG _ (hq i j k hk).1, (hq i j k hk).2⟩) hd hr
structure Ctx where
 w : World
 S : Stab
 live : Nat → Prop
 β : Nat → Nat
 tok : Nat → Option TS
 τ : Nat → Value
def refV (k b o : Nat) : Value := bif mapName k then .map (some b) else .pointer (some ⟨b, o, none⟩)
theorem refV_ptr {k b o : Nat} (h : mapName k = false) : refV k b o = .pointer (some ⟨b, o, none⟩) := by unfold refV; rw [h]; rfl
theorem refV_map {k b o : Nat} (h : mapName k = true) : refV k b o = .map (some b) := by unfold refV; rw [h]; rfl
theorem refV_one (k b o : Nat) : (refV k b o).oneCell' = true := by unfold refV; cases mapName k <;> rfl
def V0 (c : Ctx) : AV → Value → Prop
 | .dead, _ => True
 | .pv t x, v => ∃ p, enc t x = [p] ∧ Rep c.w c.S v p
 | .nils, v => v = .slice none 0 0
 | .nilp, v => v = .pointer none
 | .box k o, v => c.live k ∧ v = refV k (c.β k) o
 | .ptr t x o, v => ∃ b s, v = .pointer (some ⟨b, s + o, none⟩) ∧ CellsAt c.w c.S b s (enc t x)
 | .own n t xs, v => Rep c.w c.S v (.sl (xs.map (enc t))) ∧ c.tok n ≠ none ∧ ∀ tk, c.tok n = some (.live tk) → tk.wr = false ∧ v = c.τ n ∧ (⟨tk.t, tk.xs⟩ : (t : Tp) × List t.D) = ⟨t, xs⟩
 | .mtk n, v => v.oneCell' = true ∧ c.tok n ≠ none ∧ ∀ tk, c.tok n = some (.live tk) → v = c.τ n
 | .mptr n i o, v => v.oneCell' = true ∧ c.tok n ≠ none ∧ ∀ tk, c.tok n = some (.live tk) → ∃ b l cap, c.τ n = .slice (some ⟨b, 0, none⟩) l cap ∧ i < l ∧ v = .pointer (some ⟨b, i * tk.t.w + o, none⟩)
 | .gmap g, v => c.S g 0 ∧ c.w.cell? ⟨g, 0, none⟩ = some v ∧ v.oneCell' = true
 | .agg _, _ => False
 | .tup _, _ => False
 | .clo _ _, _ => False
def All2 {α β : Type} (P : α → β → Prop) : List α → List β → Prop
 | [], [] => True
 | a :: xs, b :: ys => P a b ∧ All2 P xs ys
 | _, _ => False
def V1 (c : Ctx) : AV → Value → Prop
 | .clo f cs, v => ∃ us : List Value, v = .func (.func f) #[] us.toArray ∧ All2 (V0 c) cs us
 | x, v => V0 c x v
def V1c (c : Ctx) (x : AV) (v : Value) : Prop := V1 c x v ∧ v.oneCell' = true
def V2 (c : Ctx) : AV → Value → Prop
 | .agg cs, v => ∃ vs, v = .agg (List.toArray vs) ∧ All2 (V1c c) cs vs
 | x, v => V1 c x v
def V3 (c : Ctx) : AV → Value → Prop
 | .tup cs, v => ∃ vs, v = .tuple (List.toArray vs) ∧ All2 (V2 c) cs vs
 | x, v => V2 c x v
theorem All2.len {α β : Type} {P : α → β → Prop} : ∀ {xs : List α} {ys : List β}, All2 P xs ys → xs.length = ys.length
 | [], [], _ => rfl
 | _ :: xs, _ :: ys, h => by simp [All2.len h.2]
 | [], _ :: _, h => h.elim
 | _ :: _, [], h => h.elim
theorem All2.imp {α β : Type} {P Q : α → β → Prop} (hPQ : ∀ a b, P a b → Q a b) : ∀ {xs : List α} {ys : List β}, All2 P xs ys → All2 Q xs ys
 | [], [], _ => True.intro
 | _ :: xs, _ :: ys, h => ⟨hPQ _ _ h.1, All2.imp hPQ h.2⟩
 | [], _ :: _, h => h.elim
 | _ :: _, [], h => h.elim
theorem All2.get {α β : Type} {P : α → β → Prop} : ∀ {xs : List α} {ys : List β}, All2 P xs ys → ∀ (i : Nat) (a : α), xs[i]? = some a → ∃ b, ys[i]? = some b ∧ P a b
 | [], [], _, i, a, ha => by simp at ha
 | x :: xs, y :: ys, h, 0, a, ha => by simp at ha; subst ha; exact ⟨y, rfl, h.1⟩
 | x :: xs, y :: ys, h, i + 1, a, ha => by simpa using All2.get h.2 i a (by simpa using ha)
 | [], _ :: _, h, _, _, _ => h.elim
 | _ :: _, [], h, _, _, _ => h.elim
theorem All2.of_get {α β : Type} {P : α → β → Prop} : ∀ {xs : List α} {ys : List β}, xs.length = ys.length → (∀ (i : Nat) (a : α) (b : β), xs[i]? = some a → ys[i]? = some b → P a b) → All2 P xs ys
 | [], [], _, _ => True.intro
 | x :: xs, y :: ys, hl, h => ⟨h 0 x y rfl rfl, All2.of_get (by simpa using hl) (fun i a b ha hb => h (i + 1) a b (by simpa using ha) (by simpa using hb))⟩
 | [], _ :: _, hl, _ => by simp at hl
 | _ :: _, [], hl, _ => by simp at hl
theorem All2.get' {α β : Type} {P : α → β → Prop} {xs : List α} {ys : List β} (h : All2 P xs ys) (i : Nat) (a : α) (b : β) (ha : xs[i]? = some a) (hb : ys[i]? = some b) : P a b := by
 obtain ⟨b', hb', hp⟩ := h.get i a ha
 rw [hb] at hb'; cases hb'; exact hp
theorem All2.append {α β : Type} {P : α → β → Prop} : ∀ {xs : List α} {ys : List β} {xs' : List α} {ys' : List β}, All2 P xs ys → All2 P xs' ys' → All2 P (xs ++ xs') (ys ++ ys')
 | [], [], _, _, _, h => h
 | _ :: xs, _ :: ys, _, _, h, h' => ⟨h.1, All2.append h.2 h'⟩
 | [], _ :: _, _, _, h, _ => h.elim
 | _ :: _, [], _, _, h, _ => h.elim
theorem All2.take {α β : Type} {P : α → β → Prop} {xs : List α} {ys : List β} (h : All2 P xs ys) (n : Nat) : All2 P (xs.take n) (ys.take n) :=
 All2.of_get (by simp [h.len]) (fun i a b ha hb => by
  rw [List.getElem?_take] at ha hb
  split at ha
  ·rw [if_pos ‹_›] at hb; exact h.get' i a b ha hb
  ·cases ha)
theorem All2.drop {α β : Type} {P : α → β → Prop} {xs : List α} {ys : List β} (h : All2 P xs ys) (n : Nat) : All2 P (xs.drop n) (ys.drop n) :=
 All2.of_get (by simp [h.len]) (fun i a b ha hb => by
  rw [List.getElem?_drop] at ha hb
  exact h.get' _ a b ha hb)
structure Ctx.Le (c c' : Ctx) : Prop where
 S : ∀ b o, c.S b o → c'.S b o
 w : ∀ b o, c.S b o → c'.w.cell? ⟨b, o, none⟩ = c.w.cell? ⟨b, o, none⟩
def TokLe (c c' : Ctx) : Prop := ∀ t, c.tok t ≠ none → c'.tok t ≠ none ∧ ∀ tk', c'.tok t = some (.live tk') → ∃ tk, c.tok t = some (.live tk) ∧ c'.τ t = c.τ t ∧ tk'.t = tk.t ∧ (tk.wr = false → tk'.wr = false ∧ (⟨tk'.t, tk'.xs⟩ : (t : Tp) × List t.D) = ⟨tk.t, tk.xs⟩)
def BoxLe (c c' : Ctx) : Prop := ∀ k, c.live k → c'.live k ∧ c'.β k = c.β k
theorem TokLe.refl {c c' : Ctx} (ht : c'.tok = c.tok) (hτ : c'.τ = c.τ) : TokLe c c' := fun t h => ⟨by rw [ht]; exact h, fun tk htk => ⟨tk, by rw [← ht]; exact htk, by rw [hτ], rfl, fun h => ⟨h, rfl⟩⟩⟩
theorem BoxLe.refl {c c' : Ctx} (hl : c'.live = c.live) (hβ : c'.β = c.β) : BoxLe c c' := fun k h => ⟨by rw [hl]; exact h, by rw [hβ]⟩
section
variable {c c' : Ctx} (h : c.Le c') (hb : BoxLe c c') (ht : TokLe c c')
include h hb ht
theorem V0.mono {x : AV} {v : Value} (hx : V0 c x v) : V0 c' x v := by
 cases x with
 | dead => exact True.intro
 | pv t y => obtain ⟨p, e, hr⟩ := hx; exact ⟨p, e, hr.mono h.S h.w⟩
 | nils => exact hx
 | nilp => exact hx
 | box k o => obtain ⟨h1, h2⟩ := hx; exact ⟨(hb k h1).1, by rw [(hb k h1).2]; exact h2⟩
 | ptr t y o => obtain ⟨b, s, e, hc⟩ := hx; exact ⟨b, s, e, hc.mono h.S h.w⟩
 | own n t xs =>
  obtain ⟨h0, h3⟩ := ht n hx.2.1
  refine ⟨Rep.mono h.S h.w hx.1, h0, fun tk' htk => ?_⟩
  obtain ⟨tk, h1, h2, h4, h5⟩ := h3 tk' htk
  obtain ⟨e1, e2, e3⟩ := hx.2.2 tk h1
  exact ⟨(h5 e1).1, by rw [h2]; exact e2, (h5 e1).2.trans e3⟩
 | mtk n =>
  obtain ⟨h0, h3⟩ := ht n hx.2.1
  refine ⟨hx.1, h0, fun tk' htk => ?_⟩
  obtain ⟨tk, h1, h2, _⟩ := h3 tk' htk
  rw [h2]; exact hx.2.2 tk h1
 | mptr n i o =>
  obtain ⟨h0, h3⟩ := ht n hx.2.1
  refine ⟨hx.1, h0, fun tk' htk => ?_⟩
  obtain ⟨tk, h1, h2, h4, _⟩ := h3 tk' htk
  rw [h2, h4]; exact hx.2.2 tk h1
 | gmap g => exact ⟨h.S _ _ hx.1, (h.w _ _ hx.1).trans hx.2.1, hx.2.2⟩
 | agg cs => exact hx.elim
 | tup cs => exact hx.elim
 | clo f cs => exact hx.elim
theorem V1.mono {x : AV} {v : Value} (hx : V1 c x v) : V1 c' x v := by
 cases x with
 | clo f cs => obtain ⟨us, e, ha⟩ := hx; exact ⟨us, e, ha.imp fun a b hab => V0.mono h hb ht hab⟩
 | _ => simp only [V1] at hx ⊢; exact V0.mono h hb ht hx
theorem V2.mono {x : AV} {v : Value} (hx : V2 c x v) : V2 c' x v := by
 cases x with
 | agg cs => obtain ⟨vs, e, ha⟩ := hx; exact ⟨vs, e, ha.imp (fun a b hab => ⟨V1.mono h hb ht hab.1, hab.2⟩)⟩
 | _ => simp only [V2] at hx ⊢; exact V1.mono h hb ht hx
theorem V3.mono {x : AV} {v : Value} (hx : V3 c x v) : V3 c' x v := by
 cases x with
 | tup cs => obtain ⟨vs, e, ha⟩ := hx; exact ⟨vs, e, ha.imp (fun a b hab => V2.mono h hb ht hab)⟩
 | _ => simp only [V3] at hx ⊢; exact V2.mono h hb ht hx
end
theorem V1_of_V0 {c : Ctx} {x : AV} {v : Value} (h : V0 c x v) : V1 c x v := by cases x <;> first | exact h | exact h.elim
theorem V2_of_V1 {c : Ctx} {x : AV} {v : Value} (h : V1 c x v) : V2 c x v := by cases x <;> first | exact h | exact h.elim
theorem V3_of_V2 {c : Ctx} {x : AV} {v : Value} (h : V2 c x v) : V3 c x v := by cases x <;> first | exact h | exact h.elim
theorem V3_of_V1 {c : Ctx} {x : AV} {v : Value} (h : V1 c x v) : V3 c x v := V3_of_V2 (V2_of_V1 h)
theorem encQ_len (x : DQ) : (encQ x).length = 6 := by cases x; rfl
theorem enc_len : ∀ (t : Tp) (x : t.D), (enc t x).length = t.w
 | .bool, _ => rfl
 | .int _, _ => rfl
 | .str, _ => rfl
 | .unit, _ => rfl
 | .pair a b, x => by simp [enc, Tp.w, enc_len a, enc_len b]
 | .sl _, _ => rfl
 | .opt _, _ => rfl
 | .q, x => encQ_len x
theorem encQs_eq (xs : List DQ) : encQs xs = xs.map encQ := by
 induction xs with
 | nil => rfl
 | cons x xs ih => simp [encQs, ih]
theorem cells_enc : ∀ (t : Tp) (x : t.D), All2 (fun (c : AV) (p : PV) => ∃ t x, c = .pv t x ∧ enc t x = [p]) (cellsOf t x) (enc t x)
 | .bool, x => ⟨⟨_, _, rfl, rfl⟩, True.intro⟩
 | .int _, x => ⟨⟨_, _, rfl, rfl⟩, True.intro⟩
 | .str, x => ⟨⟨_, _, rfl, rfl⟩, True.intro⟩
 | .unit, _ => True.intro
 | .pair a b, x => (cells_enc a x.1).append (cells_enc b x.2)
 | .sl _, x => ⟨⟨_, _, rfl, rfl⟩, True.intro⟩
 | .opt _, x => ⟨⟨_, _, rfl, rfl⟩, True.intro⟩
 | .q, .mk k f ws a b kids => ⟨⟨_, _, rfl, rfl⟩, ⟨_, _, rfl, rfl⟩, ⟨_, _, rfl, by simp [enc, DQ.words]⟩, ⟨_, _, rfl, rfl⟩, ⟨_, _, rfl, rfl⟩, ⟨.sl .q, kids, rfl, by simp only [enc, encQs_eq]⟩, True.intro⟩
theorem cells_len (t : Tp) (x : t.D) : (cellsOf t x).length = t.w := by rw [(cells_enc t x).len, enc_len]
theorem Rep.ofLit {w : World} {S : Stab} {p : PV} (h : p.isLit = true) : Rep w S (litOf p) p := by
 cases p with
 | bool b => exact .bool b
 | int k n => exact .int k n
 | str s => exact .str s
 | sl rows => cases h
 | opt row => cases h
theorem Deep.rep {w : World} {S : Stab} {F : Nat → Prop} {v : Value} {c : AV} (h : Deep w F v c) : (∀ b o, F b → S b o) → ∃ (t : Tp) (x : t.D) (p : PV), c = .pv t x ∧ enc t x = [p] ∧ Rep w S v p := by
 induction h with
 | lit F v t x p he hl hv => exact fun _ => ⟨t, x, p, rfl, he, hv ▸ Rep.ofLit hl⟩
 | nil F r => exact fun _ => ⟨.sl r, [], .sl [], rfl, rfl, rep_nils⟩
 | sl F cap r xs u b q vs T hb hg hz hc hx hu hq hd hr ih =>
  intro hS
  refine ⟨.sl r, xs, .sl (xs.map (enc r)), rfl, rfl, ?_⟩
  rw [show xs.length = (xs.map (enc r)).length from by simp]
  refine Rep.mk (b := b) (o := 0) (m := r.w) (by simpa using hc) (fun _ => rfl) (fun i row hi => ?_) (fun i row hi j c hj => ?_)
  ·rw [List.getElem?_map] at hi
   obtain ⟨x, _, rfl⟩ := Option.map_eq_some_iff.1 hi
   exact enc_len r x
  ·rw [List.getElem?_map] at hi
   obtain ⟨x, hx, rfl⟩ := Option.map_eq_some_iff.1 hi
   have hall := cells_enc r x
   obtain ⟨c', hc'⟩ : ∃ c', (cellsOf r x)[j]? = some c' := by
    have : j < (cellsOf r x).length := by rw [hall.len]; exact (List.getElem?_eq_some_iff.1 hj).1
    exact ⟨_, List.getElem?_eq_getElem this⟩
   obtain ⟨t', x', rfl, he⟩ := hall.get' j c' c hc' hj
   obtain ⟨t2, x2, p2, e1, e2, e3⟩ := ih i j x _ hx hc' (fun b o hk => hS b o (hq i j b hk).1)
   cases e1
   rw [he] at e2
   cases e2
   refine ⟨hS _ _ hb, u i j, ?_, e3⟩
   rw [Nat.zero_add, cell_of_row w b _ vs T (0, 0) hg]
   exact hu i j x _ hx hc'
end Go.Proofs.YtcjbjmbialienaaGreatDoor
