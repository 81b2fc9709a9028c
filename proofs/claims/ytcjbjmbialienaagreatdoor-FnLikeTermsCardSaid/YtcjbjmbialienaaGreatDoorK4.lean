/- The engine, fourth part: states and memory. -/
import Derived.Test.YtcjbjmbialienaaGreatDoorK3
set_option linter.unusedSimpArgs false
set_option linter.unusedVariables false
namespace Go.Proofs.YtcjbjmbialienaaGreatDoor
open Go.RowKit
theorem Upd.on {p q : Blk} {a b c : World} (h : Upd p a b) (k : Upd q b c) (hq : ∀ i, q i → i < a.heap.size → p i) : Upd p a c :=
 ⟨k.os.trans h.os, k.tape.trans h.tape, k.output.trans h.output, Nat.le_trans h.size k.size, fun i hi hn => (k.block i (Nat.lt_of_lt_of_le hi h.size) (fun hf => hn (hq i hf hi))).trans (h.block i hi hn)⟩
structure Root where
 W : World
 X : Nat → Prop
 S0 : Stab
 bn : Nat → Option Nat
 tn : Nat → Option Value
def Root.fr (R : Root) (b : Nat) : Prop := R.W.heap.size ≤ b ∨ R.X b
def Tree (w : World) (F : Nat → Prop) (v : Value) (r : Tp) (xs : List r.D) (hs : List (Nat × Nat × Nat)) : Prop :=
 v = .slice none 0 0 ∨ ∃ (b cap : Nat) (q : Nat → Nat → Nat → Prop), v = .slice (some ⟨b, 0, none⟩) xs.length cap ∧ (∀ i j k, q i j k → F k ∧ k ≠ b) ∧ (∀ i j i' j' k, q i j k → q i' j' k → i = i' ∧ j = j') ∧
  ∀ (i j : Nat) (x : r.D) (c : AV), xs[i]? = some x → (cellsOf r x)[j]? = some c → ∃ u, w.cell? ⟨b, i * r.w + j, none⟩ = some u ∧ u.oneCell' = true ∧ ((∀ d, (i, j, d) ∉ hs) → Deep w (q i j) u c)
def Once (w : World) (S : Stab) (tk : Tok) (v : Value) (F : Nat → Prop) : Prop := match tk.tr with
 | none => tk.deep = true → Deep w F v (.pv (.sl tk.t) tk.xs)
 | some hs => tk.wr = true ∧ tk.deep = true ∧ (∀ b, F b → ∀ o, ¬ S b o) ∧ Tree w F v tk.t tk.xs hs
def TokOk (Fr : Nat → Prop) (w : World) (S : Stab) (tk : Tok) (v : Value) (F : Nat → Prop) : Prop :=
 (∀ b, F b → Fr b ∧ b < w.heap.size) ∧
 ((v = .slice none 0 0 ∧ tk.xs = []) ∨ ∃ b cap vs T, v = .slice (some ⟨b, 0, none⟩) tk.xs.length cap ∧ F b ∧ w.heap[b]? = some (.cells vs T (0, 0)) ∧ vs.size = cap * tk.t.w ∧ tk.xs.length ≤ cap ∧ cap ≤ maxLen ∧
  (tk.wr = false → ∀ o, S b o → o < tk.xs.length * tk.t.w) ∧ (tk.wr = true → ∀ o, ¬ S b o) ∧
  ∀ (i j : Nat) (x : tk.t.D) (p : PV), tk.xs[i]? = some x → (enc tk.t x)[j]? = some p → ∃ u, vs[i * tk.t.w + j]? = some u ∧ (tk.tr = none → Rep w S u p) ∧ (tk.wr = false → S b (i * tk.t.w + j))) ∧
 Once w S tk v F
def litV (t : Tp) (x : t.D) : Value := match enc t x with
 | [p] => litOf p
 | _ => undef
def MapAt (w : World) (b : Nat) (cs : List AV) : Prop :=
 ∃ (kt vt : Tp) (es : List (kt.D × vt.D)) (ents : Array MapEntry) (clk : Nat), (cs = [.pv (.sl (.pair kt vt)) es] ∨ cs = [.dead]) ∧ w.heap[b]? = some (.map ents clk) ∧ ents.toList.map (fun e => (e.key, e.val)) = es.map fun x => (litV kt x.1, litV vt x.2)
def BoxAt (c : Ctx) (k b : Nat) (cs : List AV) : Prop :=
 (mapName k = false ∧ ∃ vs T, c.w.heap[b]? = some (.cells (List.toArray vs) T (0, 0)) ∧ All2 (V1c c) cs vs) ∨ (mapName k = true ∧ MapAt c.w b cs)
theorem BoxAt.imp {c c' : Ctx} {k b : Nat} {cs : List AV} (h : BoxAt c k b cs) (hh : c'.w.heap[b]? = c.w.heap[b]?) (hv : ∀ x v, V1c c x v → V1c c' x v) : BoxAt c' k b cs := by
 rcases h with ⟨h1, vs, T, h2, h3⟩ | ⟨h1, kt, vt, es, ents, clk, h2, h3, h4⟩
 ·exact .inl ⟨h1, vs, T, hh.trans h2, h3.imp hv⟩
 ·exact .inr ⟨h1, kt, vt, es, ents, clk, h2, hh.trans h3, h4⟩
theorem BoxAt.lt {c : Ctx} {k b : Nat} {cs : List AV} (h : BoxAt c k b cs) : b < c.w.heap.size := by
 rcases h with ⟨_, vs, T, h2, _⟩ | ⟨_, kt, vt, es, ents, clk, _, h3, _⟩
 ·exact lt_of_at h2
 ·exact lt_of_at h3
theorem BoxAt.cells {c : Ctx} {k b : Nat} {cs : List AV} (h : BoxAt c k b cs) (hk : mapName k = false) : ∃ vs T, c.w.heap[b]? = some (.cells (List.toArray vs) T (0, 0)) ∧ All2 (V1c c) cs vs := by
 rcases h with ⟨_, h⟩ | ⟨h, _⟩
 ·exact h
 ·rw [hk] at h; cases h
structure Mem (R : Root) (box : Nat → Option BS) (tok : Nat → Option TS) (β : Nat → Nat) (τ : Nat → Value) (F : Nat → Nat → Prop) (S : Stab) (w : World) : Prop where
 upd : Upd R.X R.W w
 old : ∀ b o, R.S0 b o → S b o
 new : ∀ b o, S b o → R.S0 b o ∨ R.fr b
 keep : ∀ b o, R.S0 b o → w.cell? ⟨b, o, none⟩ = R.W.cell? ⟨b, o, none⟩
 lt : ∀ b o, S b o → b < w.heap.size
 boxes : ∀ k b, box k = some b → R.fr (β k) ∧ (b.fz = false → ∀ o, ¬ S (β k) o) ∧ (b.fz = true → ∀ o, o < b.cs.length → S (β k) o) ∧ BoxAt ⟨w, S, fun k => box k ≠ none, β, tok, τ⟩ k (β k) b.cs
 binj : ∀ k k' b b', box k = some b → box k' = some b' → β k = β k' → k = k'
 toks : ∀ t tk, tok t = some (.live tk) → TokOk R.fr w S tk (τ t) (F t)
 tdis : ∀ t t' tk tk' b, tok t = some (.live tk) → tok t' = some (.live tk') → F t b → F t' b → t = t'
 tbox : ∀ t tk k b, tok t = some (.live tk) → box k = some b → ¬ F t (β k)
 bfix : ∀ k b, R.bn k = some b → box k ≠ none → β k = b
 tfix : ∀ t v tk, R.tn t = some v → tok t = some (.live tk) → τ t = v
 hol : ∀ n tk hs i o d, tok n = some (.live tk) → tk.tr = some hs → (i, o, d) ∈ hs → tok d ≠ none ∧ ∀ td, tok d = some (.live td) → ∃ b l cap, τ n = .slice (some ⟨b, 0, none⟩) l cap ∧ w.cell? ⟨b, i * tk.t.w + o, none⟩ = some (τ d)
theorem TokOk.block {Fr : Nat → Prop} {w : World} {S : Stab} {tk : Tok} {v : Value} {F : Nat → Prop} (h : TokOk Fr w S tk v F) {b l cap : Nat} (e : v = .slice (some ⟨b, 0, none⟩) l cap) : F b := by
 rcases h.2.1 with ⟨h1, _⟩ | ⟨b', cap', vs, T, h1, h2, _⟩
 ·rw [h1] at e; cases e
 ·rw [h1] at e; cases e; exact h2
def LSt.ctx (s : LSt) (w : World) (S : Stab) (β : Nat → Nat) (τ : Nat → Value) : Ctx := ⟨w, S, fun k => lookB s.B k ≠ none, β, lookT s.T, τ⟩
def Rel (R : Root) (s : LSt) (a : Act) (w : World) : Prop :=
 ∃ β τ F S, Mem R (lookB s.B) (lookT s.T) β τ F S w ∧ a.tmps.size = s.L.length ∧ a.defers = [] ∧ ∀ i, V3 (s.ctx w S β τ) (getA s.L i) (a.tmps.getD i undef)
section
variable {R : Root} {w w' : World} {S S' : Stab} {box : Nat → Option BS} {tok : Nat → Option TS} {β : Nat → Nat} {τ : Nat → Value} {F : Nat → Nat → Prop}
theorem Mem.size (h : Mem R box tok β τ F S w) : R.W.heap.size ≤ w.heap.size := h.upd.size
theorem Mem.blt (h : Mem R box tok β τ F S w) {k : Nat} {b : BS} (hk : box k = some b) : β k < w.heap.size := by
 exact (h.boxes k b hk).2.2.2.lt
structure Step (X : Nat → Prop) (S S' : Stab) (w w' : World) : Prop where
 upd : Upd X w w'
 cell : ∀ b o, S b o → w'.cell? ⟨b, o, none⟩ = w.cell? ⟨b, o, none⟩
 old : ∀ b o, S b o → S' b o
 new : ∀ b o, S' b o → S b o ∨ w.heap.size ≤ b ∨ X b
 lt : ∀ b o, S' b o → b < w'.heap.size
theorem Step.of_below (hb : Below w.heap.size w w') (hl : ∀ b o, S b o → b < w.heap.size) (hS : ∀ b o, S b o → S' b o) (hN : ∀ b o, S' b o → S b o ∨ w.heap.size ≤ b) (hL : ∀ b o, S' b o → b < w'.heap.size) : Step (fun _ => False) S S' w w' :=
 ⟨Upd.of_below hb, fun b o h => (bcell hb).1 b o (hl b o h), hS, fun b o h => (hN b o h).imp id .inl, hL⟩
theorem Step.le {X : Nat → Prop} (h : Step X S S' w w') (live : Nat → Prop) (tok' : Nat → Option TS) (live' : Nat → Prop) (β' : Nat → Nat) (τ' : Nat → Value) : Ctx.Le ⟨w, S, live, β, tok, τ⟩ ⟨w', S', live', β', tok', τ'⟩ := ⟨h.old, h.cell⟩
theorem Tree.same {F : Nat → Prop} {v : Value} {r : Tp} {xs : List r.D} {hs : List (Nat × Nat × Nat)} (h : Tree w F v r xs hs) (hb : ∀ b l cap, v = .slice (some ⟨b, 0, none⟩) l cap → w'.heap[b]? = w.heap[b]?) (hw : ∀ k, F k → w'.heap[k]? = w.heap[k]?) : Tree w' F v r xs hs := by
 rcases h with h | ⟨b, cap, q, e, hq, hd, hc⟩
 ·exact .inl h
 ·exact .inr ⟨b, cap, q, e, hq, hd, fun i j x c hx hc' => by
   obtain ⟨u, h1, h2, h3⟩ := hc i j x c hx hc'
   exact ⟨u, (World.cell?_of_block (w := w) (hb b _ _ e)).trans h1, h2, fun hh => (h3 hh).same fun k hk => hw k (hq i j k hk).1⟩⟩
theorem TokOk.step {X : Nat → Prop} {Fr : Nat → Prop} {tk : Tok} {v : Value} {G : Nat → Prop} (h : TokOk Fr w S tk v G) (hs : Step X S S' w w') (hX : ∀ k, G k → ¬ X k) : TokOk Fr w' S' tk v G := by
 have hblk := fun {b l cap : Nat} (e : v = .slice (some ⟨b, 0, none⟩) l cap) => h.block e
 obtain ⟨h1, h3, h4⟩ := h
 have backF : ∀ b, G b → ∀ o, S' b o → S b o := fun b hg o ho => by
  rcases hs.new b o ho with h | h | h
  ·exact h
  ·have := (h1 b hg).2; omega
  ·exact absurd h (hX b hg)
 have same : ∀ k, G k → w'.heap[k]? = w.heap[k]? := fun k hk => hs.upd.block k (h1 k hk).2 (hX k hk)
 refine ⟨fun b hg => ⟨(h1 b hg).1, Nat.lt_of_lt_of_le (h1 b hg).2 hs.upd.size⟩, ?_, ?_⟩
 ·rcases h3 with h3 | ⟨b, cap, vs, T, e, hF, hg, hz, hn, hm, hst, hwr, hc⟩
  ·exact .inl h3
  ·exact .inr ⟨b, cap, vs, T, e, hF, (hs.upd.block b (h1 b hF).2 (hX b hF)).trans hg, hz, hn, hm, fun hw o ho => hst hw o (backF b hF o ho), fun hw o ho => hwr hw o (backF b hF o ho), fun i j x p hx hp => by
    obtain ⟨u, h5, h6, h7⟩ := hc i j x p hx hp
    exact ⟨u, h5, fun ht => (h6 ht).mono hs.old hs.cell, fun hw => hs.old _ _ (h7 hw)⟩⟩
 ·unfold Once at h4 ⊢
  split
  ·rename_i ht; rw [ht] at h4; exact fun hd => (h4 hd).same same
  ·rename_i hs' ht
   rw [ht] at h4
   obtain ⟨g1, g2, g3, g4⟩ := h4
   exact ⟨g1, g2, fun b hb o ho => g3 b hb o (backF b hb o ho), g4.same (fun b l cap e => same b (hblk e)) same⟩
theorem Mem.step {X : Nat → Prop} (h : Mem R box tok β τ F S w) (hs : Step X S S' w w') (hX0 : ∀ k, X k → R.fr k) (hXb : ∀ k b, box k = some b → ¬ X (β k)) (hXt : ∀ t tk, tok t = some (.live tk) → ∀ k, F t k → ¬ X k) : Mem R box tok β τ F S' w' := by
 refine ⟨h.upd.on hs.upd fun k hx hk => ?_, fun b o h0 => hs.old _ _ (h.old b o h0), fun b o h1 => ?_, fun b o h0 => (hs.cell b o (h.old b o h0)).trans (h.keep b o h0), hs.lt, fun k b hk => ?_, h.binj, fun t tk ht => (h.toks t tk ht).step hs (hXt t tk ht), h.tdis, h.tbox, h.bfix, h.tfix, fun n tk hs' i o d hn htr hin => ⟨(h.hol n tk hs' i o d hn htr hin).1, fun td hd => ?_⟩⟩
 case refine_4 =>
  obtain ⟨b, l, cap, e1, e2⟩ := (h.hol n tk hs' i o d hn htr hin).2 td hd
  have hF := (h.toks n tk hn).block e1
  exact ⟨b, l, cap, e1, (World.cell?_of_block (w := w) (hs.upd.block b ((h.toks n tk hn).1 b hF).2 (hXt n tk hn b hF))).trans e2⟩
 ·rcases hX0 k hx with h1 | h1
  ·omega
  ·exact h1
 ·rcases hs.new b o h1 with h2 | h2 | h2
  ·exact h.new b o h2
  ·exact .inr (.inl (Nat.le_trans h.size h2))
  ·exact .inr (hX0 b h2)
 ·obtain ⟨h1, h2, h2', hB⟩ := h.boxes k b hk
  refine ⟨h1, fun hz o ho => ?_, fun hz o ho => hs.old _ _ (h2' hz o ho), hB.imp (hs.upd.block _ (h.blt hk) (hXb k b hk)) fun x v hx => ⟨hx.1.mono (hs.le _ _ _ _ _) (BoxLe.refl rfl rfl) (TokLe.refl rfl rfl), hx.2⟩⟩
  rcases hs.new _ o ho with h5 | h5 | h5
  ·exact h2 hz o h5
  ·have := h.blt hk; omega
  ·exact hXb k b hk h5
theorem Mem.grow (h : Mem R box tok β τ F S w) (hb : Below w.heap.size w w') (hS : ∀ b o, S b o → S' b o) (hN : ∀ b o, S' b o → S b o ∨ w.heap.size ≤ b) (hL : ∀ b o, S' b o → b < w'.heap.size) : Mem R box tok β τ F S' w' :=
 h.step (Step.of_below hb h.lt hS hN hL) (fun _ h => h.elim) (fun _ _ _ h => h) (fun _ _ _ _ _ h => h)
theorem Mem.drop (h : Mem R box tok β τ F S w) {tok' : Nat → Option TS} (hu : ∀ t, tok t ≠ none → tok' t ≠ none) (hs : ∀ t tk, tok' t = some (.live tk) → tok t = some (.live tk)) : Mem R box tok' β τ F S w := by
 refine ⟨h.upd, h.old, h.new, h.keep, h.lt, fun k b hk => ?_, h.binj, fun t tk ht => h.toks t tk (hs t tk ht), fun t t' tk tk' b h1 h2 => h.tdis t t' tk tk' b (hs t tk h1) (hs t' tk' h2), fun t tk k b h1 h2 => h.tbox t tk k b (hs t tk h1) h2, h.bfix, fun t v tk h1 h2 => h.tfix t v tk h1 (hs t tk h2), fun n tk hs' i o d hn htr hin => ⟨hu d (h.hol n tk hs' i o d (hs n tk hn) htr hin).1, fun td hd => (h.hol n tk hs' i o d (hs n tk hn) htr hin).2 td (hs d td hd)⟩⟩
 obtain ⟨h1, h2, h2', hB⟩ := h.boxes k b hk
 exact ⟨h1, h2, h2', hB.imp rfl fun x v hx => ⟨V1.mono (c := ⟨w, S, fun k => box k ≠ none, β, tok, τ⟩) (c' := ⟨w, S, fun k => box k ≠ none, β, tok', τ⟩) ⟨fun _ _ h => h, fun _ _ _ => rfl⟩ (BoxLe.refl rfl rfl) (fun t ht => ⟨hu t ht, fun tk h => ⟨tk, hs t tk h, rfl, rfl, fun hw => ⟨hw, rfl⟩⟩⟩) hx.1, hx.2⟩⟩
end
def updB (f : Nat → Option BS) (k : Nat) (b : BS) : Nat → Option BS := fun j => if j = k then some b else f j
def updT (f : Nat → Option TS) (t : Nat) (x : Option TS) : Nat → Option TS := fun j => if j = t then x else f j
section
variable {R : Root} {w w' : World} {S S' : Stab} {box : Nat → Option BS} {tok : Nat → Option TS} {β : Nat → Nat} {τ : Nat → Value} {F : Nat → Nat → Prop}
theorem Mem.nameBox (h : Mem R box tok β τ F S w) (d : Nat) (hmd : mapName d = false) (hd : box d = none) (hbn : R.bn d = none) (k : Nat) (hk : R.fr k) (T : TypeId) (vs : List Value) (hv : w.heap[k]? = some (.cells vs.toArray T (0, 0))) (hS : ∀ o, ¬ S k o) (hne : ∀ j b, box j = some b → β j ≠ k) (hnt : ∀ t tk, tok t = some (.live tk) → ¬ F t k) (cs : List AV)
  (hc : All2 (V1c ⟨w, S, fun j => updB box d ⟨false, cs⟩ j ≠ none, fun j => if j = d then k else β j, tok, τ⟩) cs vs) :
  Mem R (updB box d ⟨false, cs⟩) tok (fun j => if j = d then k else β j) τ F S w := by
 have lift : ∀ x v, V1c ⟨w, S, fun k => box k ≠ none, β, tok, τ⟩ x v → V1c ⟨w, S, fun j => updB box d ⟨false, cs⟩ j ≠ none, fun j => if j = d then k else β j, tok, τ⟩ x v := fun x v hx =>
  ⟨V1.mono (c := ⟨w, S, fun k => box k ≠ none, β, tok, τ⟩) (c' := ⟨w, S, fun j => updB box d ⟨false, cs⟩ j ≠ none, fun j => if j = d then k else β j, tok, τ⟩) ⟨fun _ _ h => h, fun _ _ _ => rfl⟩ (fun j hj => by
   have hjd : j ≠ d := fun e => hj (e ▸ hd)
   simp only [updB, hjd, if_false]; exact ⟨hj, trivial⟩) (TokLe.refl rfl rfl) hx.1, hx.2⟩
 refine ⟨h.upd, h.old, h.new, h.keep, h.lt, fun j b hj => ?_, fun j j' b b' hj hj' e => ?_, h.toks, h.tdis, fun t tk j b ht hj => ?_, fun j b hb hj => ?_, h.tfix, h.hol⟩
 ·by_cases e : j = d
  ·subst e
   simp [updB] at hj; subst hj
   simp only [if_true]
   exact ⟨hk, fun _ => hS, (fun h => by cases h), .inl ⟨hmd, vs, T, hv, hc⟩⟩
  ·simp only [updB, e, if_false] at hj
   obtain ⟨h1, h2, h2', hB⟩ := h.boxes j b hj
   simp only [e, if_false]
   exact ⟨h1, h2, h2', hB.imp rfl lift⟩
 ·by_cases e1 : j = d <;> by_cases e2 : j' = d
  ·rw [e1, e2]
  ·simp only [updB, e1, e2, if_true, if_false] at hj' e
   exact absurd e.symm (hne j' b' hj')
  ·simp only [updB, e1, e2, if_true, if_false] at hj e
   exact absurd e (hne j b hj)
  ·simp only [updB, e1, e2, if_false] at hj hj' e
   exact h.binj j j' b b' hj hj' e
 ·by_cases e1 : j = d
  ·simp only [e1, if_true]; exact hnt t tk ht
  ·simp only [updB, e1, if_false] at hj ⊢
   exact h.tbox t tk j b ht hj
 ·by_cases e1 : j = d
  ·subst e1; rw [hbn] at hb; cases hb
  ·simp only [updB, e1, if_false] at hj ⊢
   exact h.bfix j b hb hj
theorem Mem.newBox (h : Mem R box tok β τ F S w) (d : Nat) (hmd : mapName d = false) (hd : box d = none) (hbn : R.bn d = none) (T : TypeId) (vs : List Value) (cs : List AV) (hc : All2 (V1c ⟨w, S, fun k => box k ≠ none, β, tok, τ⟩) cs vs) :
  Mem R (updB box d ⟨false, cs⟩) tok (fun k => if k = d then w.heap.size else β k) τ F S (w.alloc (.cells vs.toArray T)) := by
 have hb : Below w.heap.size w (w.alloc (.cells vs.toArray T)) := (Below.refl _ _).alloc (Nat.le_refl _) _
 have hg := h.grow (S' := S) hb (fun _ _ h => h) (fun _ _ h => .inl h) (fun b o h1 => by have := h.lt b o h1; simp; omega)
 refine hg.nameBox d hmd hd hbn w.heap.size (.inl h.size) T vs (heap_alloc_new w _) (fun o ho => by have := h.lt _ _ ho; omega) (fun j b hj e => by have := h.blt hj; omega) (fun t tk ht hF => by have := ((h.toks t tk ht).1 _ hF).2; omega) cs
  (hc.imp fun x v hx => ⟨V1.mono (c := ⟨w, S, fun k => box k ≠ none, β, tok, τ⟩) (c' := ⟨w.alloc (.cells vs.toArray T), S, fun j => updB box d ⟨false, cs⟩ j ≠ none, fun j => if j = d then w.heap.size else β j, tok, τ⟩) ⟨fun _ _ h => h, fun b o ho => (bcell hb).1 b o (h.lt b o ho)⟩ (fun j hj => by
   have hjd : j ≠ d := fun e => hj (e ▸ hd)
   simp only [updB, hjd, if_false]; exact ⟨hj, trivial⟩) (TokLe.refl rfl rfl) hx.1, hx.2⟩)
theorem Mem.setBox (h : Mem R box tok β τ F S w) (d : Nat) (hmd : mapName d = false) (cs cs' : List AV) (hd : box d = some ⟨false, cs⟩) (vs' : List Value)
  (hc : All2 (V1c ⟨w, S, fun k => box k ≠ none, β, tok, τ⟩) cs' vs') :
  Mem R (updB box d ⟨false, cs'⟩) tok β τ F S (w.setRow (β d) vs'.toArray) ∧ Ctx.Le ⟨w, S, fun k => box k ≠ none, β, tok, τ⟩ ⟨w.setRow (β d) vs'.toArray, S, fun k => updB box d ⟨false, cs'⟩ k ≠ none, β, tok, τ⟩ := by
 obtain ⟨d1, d2, _, dB⟩ := h.boxes d _ hd
 obtain ⟨vs, T, d3, d4⟩ := dB.cells hmd
 have d2 := d2 rfl
 have hsame : ∀ k, k ≠ β d → (w.setRow (β d) vs'.toArray).heap[k]? = w.heap[k]? := fun k hk => setRow_other w (β d) k _ hk
 have hsize : (w.setRow (β d) vs'.toArray).heap.size = w.heap.size := by simp [World.setRow]
 have hcell : ∀ b o, S b o → (w.setRow (β d) vs'.toArray).cell? ⟨b, o, none⟩ = w.cell? ⟨b, o, none⟩ := fun b o hb => World.cell?_of_block (w := w) (hsame b (fun e => d2 o (by rw [← e]; exact hb)))
 have hle : Ctx.Le ⟨w, S, fun k => box k ≠ none, β, tok, τ⟩ ⟨w.setRow (β d) vs'.toArray, S, fun k => updB box d ⟨false, cs'⟩ k ≠ none, β, tok, τ⟩ := ⟨fun _ _ h => h, hcell⟩
 have lift : ∀ x v, V1c ⟨w, S, fun k => box k ≠ none, β, tok, τ⟩ x v → V1c ⟨w.setRow (β d) vs'.toArray, S, fun k => updB box d ⟨false, cs'⟩ k ≠ none, β, tok, τ⟩ x v := fun x v hx =>
  ⟨hx.1.mono hle (fun k hk => ⟨by simp only [updB]; split <;> first | exact hk | simp, rfl⟩) (TokLe.refl rfl rfl), hx.2⟩
 have conv : ∀ {k : Nat} {b : BS}, updB box d ⟨false, cs'⟩ k = some b → ∃ b', box k = some b' := fun {k b} hk => by
  by_cases e : k = d
  ·exact ⟨_, e ▸ hd⟩
  ·simp only [updB, e, if_false] at hk; exact ⟨b, hk⟩
 have hstep : Step (fun k => k = β d) S S w (w.setRow (β d) vs'.toArray) := ⟨⟨rfl, rfl, rfl, by rw [hsize]; exact Nat.le_refl _, fun k hk hn => hsame k hn⟩, hcell, fun _ _ h => h, fun _ _ h => .inl h, fun b o hb => by rw [hsize]; exact h.lt b o hb⟩
 refine ⟨⟨?_, h.old, h.new, fun b o h0 => (hcell b o (h.old b o h0)).trans (h.keep b o h0), fun b o hb => by rw [hsize]; exact h.lt b o hb, fun k b hk => ?_, fun k k' b b' hk hk' e => ?_, fun t tk ht => ?_, h.tdis, fun t tk k b ht hk => ?_, fun k b hb hk => ?_, h.tfix, fun n tk hs' i o d hn htr hin => ⟨(h.hol n tk hs' i o d hn htr hin).1, fun td hd => ?_⟩⟩, hle⟩
 ·refine h.upd.on (q := fun k => k = β d) ⟨rfl, rfl, rfl, by rw [hsize]; exact Nat.le_refl _, fun k hk hn => hsame k hn⟩ (fun k e hk => ?_)
  subst e
  rcases d1 with d1 | d1
  ·omega
  ·exact d1
 ·by_cases e : k = d
  ·subst e
   simp [updB] at hk; subst hk
   exact ⟨d1, fun _ => d2, (fun h => by cases h), .inl ⟨hmd, vs', T, setRow_heap w (β k) vs.toArray _ T (0, 0) d3, hc.imp lift⟩⟩
  ·simp only [updB, e, if_false] at hk
   obtain ⟨h1, h2, h2', hB⟩ := h.boxes k b hk
   exact ⟨h1, h2, h2', hB.imp (hsame _ (fun hh => e (h.binj k d b _ hk hd hh))) lift⟩
 ·obtain ⟨es, hk1⟩ := conv hk
  obtain ⟨es', hk2⟩ := conv hk'
  exact h.binj k k' es es' hk1 hk2 e
 ·exact (h.toks t tk ht).step hstep fun b hF e => h.tbox t tk d _ ht hd (e ▸ hF)
 ·obtain ⟨b', hk'⟩ := conv hk
  exact h.tbox t tk k b' ht hk'
 ·refine h.bfix k b hb (fun e => hk ?_)
  by_cases e' : k = d
  ·rw [e', hd] at e; cases e
  ·simp only [updB, e', if_false]; exact e
 ·obtain ⟨b, l, cap, e1, e2⟩ := (h.hol n tk hs' i o d hn htr hin).2 td hd
  have hF := (h.toks n tk hn).block e1
  exact ⟨b, l, cap, e1, (World.cell?_of_block (w := w) (hsame b (fun e => h.tbox n tk _ _ hn ‹_› (e ▸ hF)))).trans e2⟩
theorem Mem.newTok (h : Mem R box tok β τ F S w) (d : Nat) (hd : tok d = none) (htn : R.tn d = none) (tk : Tok) (v : Value) (G : Nat → Prop)
  (hk : TokOk R.fr w S tk v G) (hwh : tk.whole = true) (hG : ∀ t tk' b, tok t = some (.live tk') → G b → ¬ F t b) (hGb : ∀ k b, box k = some b → ¬ G (β k)) :
  Mem R box (updT tok d (some (.live tk))) β (fun t => if t = d then v else τ t) (fun t => if t = d then G else F t) S w := by
 have live : ∀ {t : Nat} {tk' : Tok}, t ≠ d → updT tok d (some (TS.live tk)) t = some (.live tk') → tok t = some (.live tk') := fun {t tk'} e h => by simpa only [updT, e, if_false] using h
 refine ⟨h.upd, h.old, h.new, h.keep, h.lt, fun k b hb => ?_, h.binj, fun t tk' ht => ?_, fun t t' tk1 tk2 b h1 h2 hf1 hf2 => ?_, fun t tk' k b ht hb => ?_, h.bfix, fun t v' tk' hv ht => ?_, fun n tk' hs i o c hn htr hin => ?_⟩
 ·obtain ⟨h1, h2, h2', hB⟩ := h.boxes k b hb
  refine ⟨h1, h2, h2', hB.imp rfl fun x u hx => ⟨V1.mono (c := ⟨w, S, fun k => box k ≠ none, β, tok, τ⟩) (c' := ⟨w, S, fun k => box k ≠ none, β, updT tok d (some (.live tk)), fun t => if t = d then v else τ t⟩) ⟨fun _ _ h => h, fun _ _ _ => rfl⟩ (BoxLe.refl rfl rfl) (fun t ht => by
   have e : t ≠ d := fun e => ht (e ▸ hd)
   simp only [updT, e, if_false]
   exact ⟨ht, fun tk' h => ⟨tk', h, trivial, rfl, fun hw => ⟨hw, rfl⟩⟩⟩) hx.1, hx.2⟩⟩
 ·by_cases e : t = d
  ·subst e
   simp [updT] at ht; subst ht
   simpa using hk
  ·have := h.toks t tk' (live e ht)
   simpa [e] using this
 ·by_cases e1 : t = d <;> by_cases e2 : t' = d
  ·rw [e1, e2]
  ·simp only [e1, if_true] at hf1
   simp only [e2, if_false] at hf2
   exact absurd hf2 (hG t' tk2 b (live e2 h2) hf1)
  ·simp only [e1, if_false] at hf1
   simp only [e2, if_true] at hf2
   exact absurd hf1 (hG t tk1 b (live e1 h1) hf2)
  ·simp only [e1, if_false] at hf1
   simp only [e2, if_false] at hf2
   exact h.tdis t t' tk1 tk2 b (live e1 h1) (live e2 h2) hf1 hf2
 ·by_cases e : t = d
  ·simp only [e, if_true]; exact hGb k b hb
  ·simp only [e, if_false]; exact h.tbox t tk' k b (live e ht) hb
 ·by_cases e : t = d
  ·subst e; rw [htn] at hv; cases hv
  ·simp only [e, if_false]; exact h.tfix t v' tk' hv (live e ht)
 ·by_cases e : n = d
  ·subst e
   simp [updT] at hn; subst hn
   unfold Tok.whole at hwh
   rw [htr] at hwh
   cases hs with
   | nil => cases hin
   | cons _ _ => cases hwh
  ·obtain ⟨h1, h2⟩ := h.hol n tk' hs i o c (live e hn) htr hin
   have ec : c ≠ d := fun e => h1 (e ▸ hd)
   simp only [updT, ec, e, if_false]
   exact ⟨h1, h2⟩
end
theorem getA_setA : ∀ (L : List AV) (d : Nat) (v : AV) (i : Nat), getA (setA L d v) i = if d = i ∧ i < L.length then v else getA L i
 | [], d, v, i => by simp [setA, getA]
 | x :: L, 0, v, 0 => by simp [setA, getA]
 | x :: L, 0, v, i + 1 => by simp [setA, getA]
 | x :: L, d + 1, v, 0 => by simp [setA, getA]
 | x :: L, d + 1, v, i + 1 => by simp [setA, getA, getA_setA L d v i]
theorem setA_len : ∀ (L : List AV) (d : Nat) (v : AV), (setA L d v).length = L.length
 | [], _, _ => rfl
 | _ :: _, 0, _ => rfl
 | _ :: L, d + 1, v => by simp [setA, setA_len L d v]
theorem lookB_setB : ∀ (B : List (Nat × BS)) (k : Nat) (b : BS), lookB (setB B k b) = updB (lookB B) k b
 | [], k, b => by funext j; simp [setB, lookB, updB]
 | (i, c) :: B, k, b => by
  funext j
  simp only [setB]
  by_cases h : i = k
  ·subst h; simp only [if_true, lookB, updB]; split <;> rfl
  ·rw [if_neg h]
   simp only [lookB, lookB_setB B k b, updB]
   by_cases h1 : j = i
   ·subst h1; simp [h]
   ·simp [h1]
theorem lookT_setT : ∀ (T : List (Nat × Option TS)) (k : Nat) (x : Option TS), lookT (setT T k x) = updT (lookT T) k x
 | [], k, x => by funext j; simp [setT, lookT, updT]
 | (i, y) :: T, k, x => by
  funext j
  simp only [setT]
  by_cases h : i = k
  ·subst h; simp only [if_true, lookT, updT]; split <;> rfl
  ·rw [if_neg h]
   simp only [lookT, lookT_setT T k x, updT]
   by_cases h1 : j = i
   ·subst h1; simp [h]
   ·simp [h1]
def Eff.updB (e : Eff) (f : Nat → Option BS) : Nat → Option BS := e.box.foldl (fun f x => Go.Proofs.YtcjbjmbialienaaGreatDoor.updB f x.1 x.2) f
def Eff.updT (e : Eff) (f : Nat → Option TS) : Nat → Option TS := e.tok.foldl (fun f x => Go.Proofs.YtcjbjmbialienaaGreatDoor.updT f x.1 x.2) f
theorem app_B (s : LSt) (d : Option Nat) (e : Eff) : lookB (s.app d e).B = e.updB (lookB s.B) := by
 unfold LSt.app Eff.updB
 generalize e.box = l
 simp only
 generalize s.B = B
 induction l generalizing B with
 | nil => rfl
 | cons x l ih => simp only [List.foldl_cons]; rw [ih, lookB_setB]
theorem app_T (s : LSt) (d : Option Nat) (e : Eff) : lookT (s.app d e).T = e.updT (lookT s.T) := by
 unfold LSt.app Eff.updT
 generalize e.tok = l
 simp only
 generalize s.T = B
 induction l generalizing B with
 | nil => rfl
 | cons x l ih => simp only [List.foldl_cons]; rw [ih, lookT_setT]
theorem app_L (s : LSt) (d : Option Nat) (e : Eff) (i : Nat) : getA (s.app d e).L i = if d = some i ∧ i < s.L.length then e.val else getA s.L i := by
 cases d with
 | none => simp [LSt.app]
 | some d => simp only [LSt.app, getA_setA, Option.some.injEq]
theorem app_len (s : LSt) (d : Option Nat) (e : Eff) : (s.app d e).L.length = s.L.length := by
 cases d with
 | none => rfl
 | some d => simp only [LSt.app, setA_len]
end Go.Proofs.YtcjbjmbialienaaGreatDoor
