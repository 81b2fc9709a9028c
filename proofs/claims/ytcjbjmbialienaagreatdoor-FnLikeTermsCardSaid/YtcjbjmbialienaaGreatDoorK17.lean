/- The engine, seventeenth part: calls, in memory. -/
import Derived.Test.YtcjbjmbialienaaGreatDoorK16
set_option linter.unusedSimpArgs false
set_option linter.unusedVariables false
namespace Go.Proofs.YtcjbjmbialienaaGreatDoor
open Go.RowKit
structure Back (acc : Acc) (s0 s1 : LSt) (ρb ρt : Nat → Nat) (boxF : Nat → Option BS) (tokF : Nat → Option TS) : Prop where
 rb : ∀ k k', lookR acc.rb k = some k' → ρb k = k' ∧ lookB s1.B k ≠ none ∧ boxF k' ≠ none
 rbi : ∀ j j' i, lookR acc.rb j = some i → lookR acc.rb j' = some i → j = j'
 s0b : ∀ k b, lookB s0.B k = some b → ∃ k', lookR acc.rb k = some k'
 nb : ∀ k, lookB s1.B k ≠ none → lookR acc.rb k = none → boxF (ρb k) = none
 nbi : ∀ k k', lookR acc.rb k = none → lookR acc.rb k' = none → ρb k = ρb k' → k = k'
 rt : ∀ n m, lookR acc.rt n = some (some m) → ρt n = m
 rti : ∀ n n' m, lookR acc.rt n = some (some m) → lookR acc.rt n' = some (some m) → n = n'
 s0t : ∀ n tk, lookT s0.T n = some (.live tk) → ∃ x, lookR acc.rt n = some x ∧ ∀ m, x = some m → ∃ tk0, tokF m = some (.live tk0)
 nt : ∀ n, lookT s1.T n ≠ none → (∀ m, lookR acc.rt n ≠ some (some m)) → tokF (ρt n) = none
 nti : ∀ n n', (∀ m, lookR acc.rt n ≠ some (some m)) → (∀ m, lookR acc.rt n' ≠ some (some m)) → ρt n = ρt n' → n = n'
 back : ∀ n m z, lookR acc.rt n = some (some m) → lookT s1.T n = some z → ∃ tk tk', tokF m = some (.live tk) ∧ z = .live tk' ∧ tk.wr = true ∧ tk'.t = tk.t
theorem Back.inj_b {acc : Acc} {s0 s1 : LSt} {ρb ρt : Nat → Nat} {boxF : Nat → Option BS} {tokF : Nat → Option TS} (h : Back acc s0 s1 ρb ρt boxF tokF) {k k' : Nat} (h1 : lookB s1.B k ≠ none) (h2 : lookB s1.B k' ≠ none) (e : ρb k = ρb k') : k = k' := by
 cases g1 : lookR acc.rb k with
 | some i =>
  obtain ⟨e1, _, e3⟩ := h.rb k i g1
  cases g2 : lookR acc.rb k' with
  | some i' =>
   obtain ⟨e1', _, _⟩ := h.rb k' i' g2
   rw [e1, e1'] at e; subst e
   exact h.rbi k k' i g1 g2
  | none => have := h.nb k' h2 g2; rw [← e, e1] at this; exact absurd this e3
 | none =>
  cases g2 : lookR acc.rb k' with
  | some i' =>
   obtain ⟨e1', _, e3⟩ := h.rb k' i' g2
   have := h.nb k h1 g1; rw [e, e1'] at this; exact absurd this e3
  | none => exact h.nbi k k' g1 g2 e
theorem Back.inj_t {acc : Acc} {s0 s1 : LSt} {ρb ρt : Nat → Nat} {boxF : Nat → Option BS} {tokF : Nat → Option TS} (h : Back acc s0 s1 ρb ρt boxF tokF) {k k' : Nat} (h1 : lookT s1.T k ≠ none) (h2 : lookT s1.T k' ≠ none) (e : ρt k = ρt k') : k = k' := by
 have live : ∀ k m, lookT s1.T k ≠ none → lookR acc.rt k = some (some m) → tokF m ≠ none := fun k m h1 g => by
  obtain ⟨z, hz⟩ := Option.ne_none_iff_exists'.1 h1
  obtain ⟨tk, _, ht, _⟩ := h.back k m z g hz
  rw [ht]; simp
 by_cases g1 : ∃ m, lookR acc.rt k = some (some m)
 ·obtain ⟨m, g1⟩ := g1
  have e1 := h.rt k m g1
  by_cases g2 : ∃ m, lookR acc.rt k' = some (some m)
  ·obtain ⟨m', g2⟩ := g2
   have e2 := h.rt k' m' g2
   rw [e1, e2] at e; subst e
   exact h.rti k k' m g1 g2
  ·have := h.nt k' h2 (fun m hm => g2 ⟨m, hm⟩)
   rw [← e, e1] at this
   exact absurd this (live k m h1 g1)
 ·by_cases g2 : ∃ m, lookR acc.rt k' = some (some m)
  ·obtain ⟨m', g2⟩ := g2
   have e2 := h.rt k' m' g2
   have := h.nt k h1 (fun m hm => g1 ⟨m, hm⟩)
   rw [e, e2] at this
   exact absurd this (live k' m' h2 g2)
  ·exact h.nti k k' (fun m hm => g1 ⟨m, hm⟩) (fun m hm => g2 ⟨m, hm⟩) e
open Classical in
noncomputable def pickN {α : Type} (dom : Nat → Prop) (ρ : Nat → Nat) (f g : Nat → α) (k : Nat) : α := if h : ∃ j, dom j ∧ ρ j = k then f (Classical.choose h) else g k
theorem pickN_in {α : Type} {dom : Nat → Prop} {ρ : Nat → Nat} {f g : Nat → α} (hi : ∀ j j', dom j → dom j' → ρ j = ρ j' → j = j') {j : Nat} (hj : dom j) : pickN dom ρ f g (ρ j) = f j := by
 unfold pickN
 have h : ∃ j', dom j' ∧ ρ j' = ρ j := ⟨j, hj, rfl⟩
 rw [dif_pos h]
 obtain ⟨h1, h2⟩ := Classical.choose_spec h
 rw [hi _ _ h1 hj h2]
theorem pickN_out {α : Type} {dom : Nat → Prop} {ρ : Nat → Nat} {f g : Nat → α} {k : Nat} (h : ∀ j, dom j → ρ j ≠ k) : pickN dom ρ f g k = g k := by
 unfold pickN
 rw [dif_neg]
 rintro ⟨j, h1, h2⟩
 exact h j h1 h2
theorem call_mem {R : Root} {w w1 : World} {S S1 : Stab} {boxF : Nat → Option BS} {tokF : Nat → Option TS} {β β1 : Nat → Nat} {τ τ1 : Nat → Value} {F F1 : Nat → Nat → Prop} (hM : Mem R boxF tokF β τ F S w) {acc : Acc} {s0 s1 : LSt} {ρb ρt : Nat → Nat} (hBk : Back acc s0 s1 ρb ρt boxF tokF)
  (hC : Mem (lentRoot s0 (shβ acc β) (shτ acc τ) (shF acc F) S w) (lookB s1.B) (lookT s1.T) β1 τ1 F1 S1 w1)
  (box2 : Nat → Option BS) (tok2 : Nat → Option TS)
  (hb2 : ∀ k, lookB s1.B k ≠ none → box2 (ρb k) = (lookB s1.B k).map fun b => ⟨b.fz, AV.renL ρb ρt b.cs⟩) (hb2' : ∀ k, (∀ j, lookB s1.B j ≠ none → ρb j ≠ k) → box2 k = boxF k)
  (ht2 : ∀ n, lookT s1.T n ≠ none → tok2 (ρt n) = lookT s1.T n) (ht3 : ∀ t, (∀ n, lookT s1.T n ≠ none → ρt n ≠ t) → (∃ n, lookR acc.rt n = some (some t)) → tok2 t = some .spent) (ht4 : ∀ t, (∀ n, lookT s1.T n ≠ none → ρt n ≠ t) → (¬ ∃ n, lookR acc.rt n = some (some t)) → tok2 t = tokF t)
  (hresb : ∀ k, lookB s1.B k ≠ none → lookR acc.rb k = none → R.bn (ρb k) = none) (hrest : ∀ n, lookT s1.T n ≠ none → (∀ m, lookR acc.rt n ≠ some (some m)) → R.tn (ρt n) = none)
  (hs0 : ∀ n m, lookR acc.rt n = some (some m) → lookT s1.T n ≠ none → ∃ tk, lookT s0.T n = some (.live tk)) (hs0b : ∀ k k', lookR acc.rb k = some k' → lookB s0.B k ≠ none) (hwh : ∀ n tk, lookT s1.T n = some (.live tk) → tk.whole = true) (hmn : ∀ k, lookB s1.B k ≠ none → mapName (ρb k) = mapName k) :
  ∃ β2 τ2 F2, Mem R box2 tok2 β2 τ2 F2 S1 w1 ∧ Ctx.Le ⟨w, S, fun k => boxF k ≠ none, β, tokF, τ⟩ ⟨w1, S1, fun k => box2 k ≠ none, β2, tok2, τ2⟩ ∧ BoxLe ⟨w, S, fun k => boxF k ≠ none, β, tokF, τ⟩ ⟨w1, S1, fun k => box2 k ≠ none, β2, tok2, τ2⟩ ∧ TokLe ⟨w, S, fun k => boxF k ≠ none, β, tokF, τ⟩ ⟨w1, S1, fun k => box2 k ≠ none, β2, tok2, τ2⟩ ∧
   (∀ k, lookB s1.B k ≠ none → box2 (ρb k) ≠ none ∧ β2 (ρb k) = β1 k) ∧ (∀ n, lookT s1.T n ≠ none → tok2 (ρt n) = lookT s1.T n ∧ τ2 (ρt n) = τ1 n) := by
 obtain ⟨β2, hβ2⟩ : ∃ β2, β2 = pickN (fun j => lookB s1.B j ≠ none) ρb β1 β := ⟨_, rfl⟩
 obtain ⟨τ2, hτ2⟩ : ∃ τ2, τ2 = pickN (fun j => lookT s1.T j ≠ none) ρt τ1 τ := ⟨_, rfl⟩
 obtain ⟨F2, hF2⟩ : ∃ F2, F2 = pickN (fun j => lookT s1.T j ≠ none) ρt F1 F := ⟨_, rfl⟩
 have bin : ∀ {k}, lookB s1.B k ≠ none → β2 (ρb k) = β1 k := fun {k} hk => by rw [hβ2]; exact pickN_in (dom := fun j => lookB s1.B j ≠ none) (fun j j' h1 h2 e => hBk.inj_b h1 h2 e) hk
 have bout : ∀ {k}, (∀ j, lookB s1.B j ≠ none → ρb j ≠ k) → β2 k = β k := fun {k} hk => by rw [hβ2]; exact pickN_out hk
 have tin : ∀ {k}, lookT s1.T k ≠ none → τ2 (ρt k) = τ1 k := fun {k} hk => by rw [hτ2]; exact pickN_in (dom := fun j => lookT s1.T j ≠ none) (fun j j' h1 h2 e => hBk.inj_t h1 h2 e) hk
 have tout : ∀ {k}, (∀ j, lookT s1.T j ≠ none → ρt j ≠ k) → τ2 k = τ k := fun {k} hk => by rw [hτ2]; exact pickN_out hk
 have fin : ∀ {k}, lookT s1.T k ≠ none → F2 (ρt k) = F1 k := fun {k} hk => by rw [hF2]; exact pickN_in (dom := fun j => lookT s1.T j ≠ none) (fun j j' h1 h2 e => hBk.inj_t h1 h2 e) hk
 have fout : ∀ {k}, (∀ j, lookT s1.T j ≠ none → ρt j ≠ k) → F2 k = F k := fun {k} hk => by rw [hF2]; exact pickN_out hk
 have dich : ∀ (dom : Nat → Prop) (ρ : Nat → Nat) (k : Nat), (∃ j, dom j ∧ ρ j = k) ∨ ∀ j, dom j → ρ j ≠ k := fun dom ρ k => by
  by_cases h : ∃ j, dom j ∧ ρ j = k
  ·exact .inl h
  ·exact .inr fun j h1 h2 => h ⟨j, h1, h2⟩
 have bsame : ∀ {k k'}, lookR acc.rb k = some k' → β1 k = β k' := fun {k k'} h => by
  obtain ⟨b, hb⟩ := Option.ne_none_iff_exists'.1 (hs0b k k' h)
  have := hC.bfix k (shβ acc β k) (by simp [lentRoot, hb]) (hBk.rb k k' h).2.1
  rw [this]; unfold shβ; rw [h]; rfl
 have tsame : ∀ {n m tk'}, lookR acc.rt n = some (some m) → lookT s1.T n = some (.live tk') → τ1 n = τ m := fun {n m tk'} h hz => by
  obtain ⟨tk, htk⟩ := hs0 n m h (by rw [hz]; simp)
  have := hC.tfix n (shτ acc τ n) tk' (by simp [lentRoot, htk]) hz
  rw [this]; unfold shτ; rw [h]
 have lentFr : ∀ b, lent s0 (shβ acc β) (shF acc F) b → R.fr b ∧ b < w.heap.size := fun b hb => by
  rcases hb with ⟨k, x, hk, rfl⟩ | ⟨t, tk, ht, hF⟩
  ·obtain ⟨k', hk'⟩ := hBk.s0b k x hk
   obtain ⟨b, hb⟩ := Option.ne_none_iff_exists'.1 (hBk.rb k k' hk').2.2
   have : shβ acc β k = β k' := by unfold shβ; rw [hk']; rfl
   rw [this]
   exact ⟨(hM.boxes k' b hb).1, hM.blt hb⟩
  ·unfold shF at hF
   obtain ⟨x, hx, hl⟩ := hBk.s0t t tk ht
   rw [hx] at hF
   cases x with
   | none => exact hF.elim
   | some m =>
    obtain ⟨tk0, h0⟩ := hl m rfl
    exact (hM.toks m tk0 h0).1 b hF
 have frc : ∀ b, (lentRoot s0 (shβ acc β) (shτ acc τ) (shF acc F) S w).fr b → R.fr b := fun b hb => by
  rcases hb with hb | hb
  ·exact .inl (Nat.le_trans hM.size hb)
  ·exact (lentFr b hb).1
 have freeB : ∀ {k b}, boxF k = some b → (∀ j, lookB s1.B j ≠ none → ρb j ≠ k) → ¬ lent s0 (shβ acc β) (shF acc F) (β k) := fun {k b} hk hno hl => by
  rcases hl with ⟨j, x, hj, e⟩ | ⟨t, tk, ht, hF⟩
  ·obtain ⟨k', hk'⟩ := hBk.s0b j x hj
   obtain ⟨e1, e2, e3⟩ := hBk.rb j k' hk'
   obtain ⟨b', hb'⟩ := Option.ne_none_iff_exists'.1 e3
   have : shβ acc β j = β k' := by unfold shβ; rw [hk']; rfl
   rw [this] at e
   have := hM.binj k' k b' b hb' hk e
   exact hno j e2 (e1.trans this)
  ·unfold shF at hF
   obtain ⟨x, hx, hl⟩ := hBk.s0t t tk ht
   rw [hx] at hF
   cases x with
   | none => exact hF.elim
   | some m =>
    obtain ⟨tk0, h0⟩ := hl m rfl
    exact hM.tbox m tk0 k b h0 hk hF
 have freeT : ∀ {t tk b}, tokF t = some (.live tk) → (¬ ∃ n, lookR acc.rt n = some (some t)) → F t b → ¬ lent s0 (shβ acc β) (shF acc F) b := fun {t tk b} ht hno hF hl => by
  rcases hl with ⟨j, x, hj, rfl⟩ | ⟨n, tk', hn, hF'⟩
  ·obtain ⟨k', hk'⟩ := hBk.s0b j x hj
   obtain ⟨b', hb'⟩ := Option.ne_none_iff_exists'.1 (hBk.rb j k' hk').2.2
   have : shβ acc β j = β k' := by unfold shβ; rw [hk']; rfl
   rw [this] at hF
   exact hM.tbox t tk k' b' ht hb' hF
  ·unfold shF at hF'
   obtain ⟨x, hx, hl⟩ := hBk.s0t n tk' hn
   rw [hx] at hF'
   cases x with
   | none => exact hF'.elim
   | some m =>
    obtain ⟨tk0, h0⟩ := hl m rfl
    have := hM.tdis m t tk0 tk b h0 ht hF' hF
    subst this
    exact hno ⟨n, hx⟩
 have old1 : ∀ b o, S b o → S1 b o := hC.old
 have new1 : ∀ b o, S1 b o → b < w.heap.size → ¬ lent s0 (shβ acc β) (shF acc F) b → S b o := fun b o h hlt hn => by
  rcases hC.new b o h with h | h | h
  ·exact h
  ·exact absurd hlt (by have : w.heap.size ≤ b := h; omega)
  ·exact absurd h hn
 have block1 : ∀ b, b < w.heap.size → ¬ lent s0 (shβ acc β) (shF acc F) b → w1.heap[b]? = w.heap[b]? := fun b h1 h2 => hC.upd.block b h1 h2
 have cell1 : ∀ b o, S b o → w1.cell? ⟨b, o, none⟩ = w.cell? ⟨b, o, none⟩ := hC.keep
 have size1 : w.heap.size ≤ w1.heap.size := hC.upd.size
 have told : ∀ {t tk}, tok2 t = some (.live tk) → (∀ n, lookT s1.T n ≠ none → ρt n ≠ t) → tokF t = some (.live tk) ∧ ¬ ∃ n, lookR acc.rt n = some (some t) := fun {t tk} ht hno => by
  by_cases h : ∃ n, lookR acc.rt n = some (some t)
  ·rw [ht3 t hno h] at ht; cases ht
  ·rw [ht4 t hno h] at ht; exact ⟨ht, h⟩
 have live2 : ∀ {k}, lookB s1.B k ≠ none → box2 (ρb k) ≠ none := fun {k} hk => by
  obtain ⟨b, hb⟩ := Option.ne_none_iff_exists'.1 hk
  rw [hb2 k hk, hb]; simp
 have hLe : Ctx.Le ⟨w, S, fun k => boxF k ≠ none, β, tokF, τ⟩ ⟨w1, S1, fun k => box2 k ≠ none, β2, tok2, τ2⟩ := ⟨old1, cell1⟩
 have hBL : BoxLe ⟨w, S, fun k => boxF k ≠ none, β, tokF, τ⟩ ⟨w1, S1, fun k => box2 k ≠ none, β2, tok2, τ2⟩ := fun k hk => by
  have hk : boxF k ≠ none := hk
  rcases dich (fun j => lookB s1.B j ≠ none) ρb k with ⟨j, hj, rfl⟩ | hno
  ·refine ⟨live2 hj, ?_⟩
   show β2 (ρb j) = β (ρb j)
   cases hr : lookR acc.rb j with
   | some k' => rw [bin hj, bsame hr, (hBk.rb j k' hr).1]
   | none => exact absurd (hBk.nb j hj hr) hk
  ·exact ⟨by show box2 k ≠ none; rw [hb2' k hno]; exact hk, bout hno⟩
 have hTL : TokLe ⟨w, S, fun k => boxF k ≠ none, β, tokF, τ⟩ ⟨w1, S1, fun k => box2 k ≠ none, β2, tok2, τ2⟩ := fun t ht => by
  have ht : tokF t ≠ none := ht
  rcases dich (fun j => lookT s1.T j ≠ none) ρt t with ⟨n, hn, rfl⟩ | hno
  ·refine ⟨by show tok2 (ρt n) ≠ none; rw [ht2 n hn]; exact hn, fun tk' htk => ?_⟩
   have htk : tok2 (ρt n) = some (.live tk') := htk
   rw [ht2 n hn] at htk
   by_cases hm : ∃ m, lookR acc.rt n = some (some m)
   ·obtain ⟨m, hm⟩ := hm
    have em := hBk.rt n m hm
    obtain ⟨tk, tk1, g1, g2, g3, g4⟩ := hBk.back n m _ hm htk
    cases g2
    refine ⟨tk, by show tokF (ρt n) = _; rw [em]; exact g1, ?_, g4, fun h => by rw [g3] at h; cases h⟩
    show τ2 (ρt n) = τ (ρt n)
    rw [tin hn, tsame hm htk, em]
   ·exact absurd (hBk.nt n hn (fun m h => hm ⟨m, h⟩)) ht
  ·by_cases h : ∃ n, lookR acc.rt n = some (some t)
   ·refine ⟨by show tok2 t ≠ none; rw [ht3 t hno h]; simp, fun tk' htk => ?_⟩
    have htk : tok2 t = some (.live tk') := htk
    rw [ht3 t hno h] at htk; cases htk
   ·refine ⟨by show tok2 t ≠ none; rw [ht4 t hno h]; exact ht, fun tk' htk => ?_⟩
    have htk : tok2 t = some (.live tk') := htk
    rw [ht4 t hno h] at htk
    exact ⟨tk', htk, tout hno, rfl, fun h => ⟨h, rfl⟩⟩
 refine ⟨β2, τ2, F2, ⟨hM.upd.on hC.upd (fun i hi hlt => ?_), fun b o h => old1 b o (hM.old b o h), fun b o h => ?_, fun b o h => (cell1 b o (hM.old b o h)).trans (hM.keep b o h), hC.lt, fun k b hk => ?_, fun k k' b b' hk hk' e => ?_, fun t tk ht => ?_, fun t t' tk tk' b ht ht' hb hb' => ?_, fun t tk k b ht hk hF => ?_, fun k b hb hk => ?_, fun t v tk hv ht => ?_, fun n tk hs i o d hn htr hin => ?_⟩, hLe, hBL, hTL, fun k hk => ⟨live2 hk, bin hk⟩, fun n hn => ⟨ht2 n hn, tin hn⟩⟩
 ·rcases (lentFr i hi).1 with h | h
  ·omega
  ·exact h
 ·rcases hC.new b o h with h | h
  ·exact hM.new b o h
  ·exact .inr (frc b h)
 ·
  rcases dich (fun j => lookB s1.B j ≠ none) ρb k with ⟨j, hj, rfl⟩ | hno
  ·obtain ⟨b1, hb1⟩ := Option.ne_none_iff_exists'.1 hj
   rw [hb2 j hj, hb1] at hk
   cases hk
   obtain ⟨c1, c2, c3, cB⟩ := hC.boxes j b1 hb1
   rw [bin hj]
   refine ⟨frc _ c1, c2, fun hz o ho => c3 hz o ?_, ?_⟩
   ·have hlen : ∀ l : List AV, (AV.renL ρb ρt l).length = l.length := fun l => by
     induction l with
     | nil => rfl
     | cons x l ih => simp [AV.renL, ih]
    rw [hlen] at ho; exact ho
   ·rcases cB with ⟨hn, vs, T, c4, c5⟩ | ⟨hn, kt, vt, es, ents, clk, c4, c5⟩
    case inr =>
     refine .inr ⟨(hmn j hj).trans hn, kt, vt, es, ents, clk, ?_, c5⟩
     rcases c4 with e | e
     ·exact .inl (by show AV.renL ρb ρt b1.cs = _; rw [e]; rfl)
     ·exact .inr (by show AV.renL ρb ρt b1.cs = _; rw [e]; rfl)
    refine .inl ⟨(hmn j hj).trans hn, vs, T, c4, ?_⟩
    exact renL1 (c := ⟨w1, S1, fun k => lookB s1.B k ≠ none, β1, lookT s1.T, τ1⟩) (c' := ⟨w1, S1, fun k => box2 k ≠ none, β2, tok2, τ2⟩) rfl rfl (fun k hk => ⟨live2 hk, bin hk⟩) (fun n hn => ⟨ht2 n hn, tin hn⟩) (fun k hk => hmn k hk) c5
  ·rw [hb2' k hno] at hk
   obtain ⟨c1, c2, c3, cB⟩ := hM.boxes k b hk
   have hfree := freeB hk hno
   have hlt := hM.blt hk
   rw [bout hno]
   exact ⟨c1, fun hz o ho => c2 hz o (new1 _ o ho hlt hfree), fun hz o ho => old1 _ o (c3 hz o ho), cB.imp (block1 _ hlt hfree) fun x v hx => ⟨V1.mono hLe hBL hTL hx.1, hx.2⟩⟩
 ·
  have key : ∀ j k b, lookB s1.B j ≠ none → boxF k = some b → (∀ j, lookB s1.B j ≠ none → ρb j ≠ k) → β1 j ≠ β k := fun j k b hj hk hno e => by
   obtain ⟨b1, hb1⟩ := Option.ne_none_iff_exists'.1 hj
   rcases (hC.boxes j b1 hb1).1 with h | h
   ·have h : w.heap.size ≤ β1 j := h
    have := hM.blt hk; omega
   ·exact freeB hk hno (e ▸ h)
  rcases dich (fun j => lookB s1.B j ≠ none) ρb k with ⟨j, hj, rfl⟩ | hno <;> rcases dich (fun j => lookB s1.B j ≠ none) ρb k' with ⟨j', hj', rfl⟩ | hno'
  ·rw [bin hj, bin hj'] at e
   obtain ⟨b1, hb1⟩ := Option.ne_none_iff_exists'.1 hj
   obtain ⟨b2, hb2⟩ := Option.ne_none_iff_exists'.1 hj'
   rw [hC.binj j j' b1 b2 hb1 hb2 e]
  ·rw [bin hj, bout hno'] at e
   rw [hb2' k' hno'] at hk'
   exact absurd e (key j k' b' hj hk' hno')
  ·rw [bout hno, bin hj'] at e
   rw [hb2' k hno] at hk
   exact absurd e.symm (key j' k b hj' hk hno)
  ·rw [bout hno, bout hno'] at e
   rw [hb2' k hno] at hk; rw [hb2' k' hno'] at hk'
   exact hM.binj k k' b b' hk hk' e
 ·
  rcases dich (fun j => lookT s1.T j ≠ none) ρt t with ⟨n, hn, rfl⟩ | hno
  ·rw [ht2 n hn] at ht
   rw [tin hn, fin hn]
   exact (hC.toks n tk ht).fr fun b hb => frc b ((hC.toks n tk ht).1 b hb).1
  ·obtain ⟨h1, h2⟩ := told ht hno
   rw [tout hno, fout hno]
   have hk := hM.toks t tk h1
   have hstep : Step (fun b => lent s0 (shβ acc β) (shF acc F) b) S S1 w w1 := ⟨hC.upd, cell1, old1, fun b o h => by
    rcases hC.new b o h with h | h | h
    ·exact .inl h
    ·exact .inr (.inl h)
    ·exact .inr (.inr h), hC.lt⟩
   exact hk.step hstep (fun b hb => freeT h1 h2 hb)
 ·have key : ∀ n tk t tk' b, lookT s1.T n = some (.live tk) → tokF t = some (.live tk') → (¬ ∃ n, lookR acc.rt n = some (some t)) → F1 n b → ¬ F t b := fun n tk t tk' b hn ht hno h1 h2 => by
   rcases ((hC.toks n tk hn).1 b h1).1 with h | h
   ·have h : w.heap.size ≤ b := h
    have := ((hM.toks t tk' ht).1 b h2).2; omega
   ·exact freeT ht hno h2 h
  rcases dich (fun j => lookT s1.T j ≠ none) ρt t with ⟨n, hn, rfl⟩ | hno <;> rcases dich (fun j => lookT s1.T j ≠ none) ρt t' with ⟨n', hn', rfl⟩ | hno'
  ·rw [ht2 n hn] at ht; rw [ht2 n' hn'] at ht'
   rw [fin hn] at hb; rw [fin hn'] at hb'
   rw [hC.tdis n n' tk tk' b ht ht' hb hb']
  ·rw [ht2 n hn] at ht
   obtain ⟨h1, h2⟩ := told ht' hno'
   rw [fin hn] at hb; rw [fout hno'] at hb'
   exact absurd hb' (key n tk t' tk' b ht h1 h2 hb)
  ·rw [ht2 n' hn'] at ht'
   obtain ⟨h1, h2⟩ := told ht hno
   rw [fin hn'] at hb'; rw [fout hno] at hb
   exact absurd hb (key n' tk' t tk b ht' h1 h2 hb')
  ·obtain ⟨h1, _⟩ := told ht hno
   obtain ⟨h2, _⟩ := told ht' hno'
   rw [fout hno] at hb; rw [fout hno'] at hb'
   exact hM.tdis t t' tk tk' b h1 h2 hb hb'
 ·rcases dich (fun j => lookT s1.T j ≠ none) ρt t with ⟨n, hn, rfl⟩ | hno <;> rcases dich (fun j => lookB s1.B j ≠ none) ρb k with ⟨j, hj, rfl⟩ | hno'
  ·rw [ht2 n hn] at ht
   rw [fin hn, bin hj] at hF
   obtain ⟨b1, hb1⟩ := Option.ne_none_iff_exists'.1 hj
   exact hC.tbox n tk j b1 ht hb1 hF
  ·rw [ht2 n hn] at ht
   rw [hb2' k hno'] at hk
   rw [fin hn, bout hno'] at hF
   rcases ((hC.toks n tk ht).1 _ hF).1 with h | h
   ·have h : w.heap.size ≤ β k := h
    have := hM.blt hk; omega
   ·exact freeB hk hno' h
  ·obtain ⟨h1, h2⟩ := told ht hno
   rw [fout hno, bin hj] at hF
   obtain ⟨b1, hb1⟩ := Option.ne_none_iff_exists'.1 hj
   rcases (hC.boxes j b1 hb1).1 with h | h
   ·have h : w.heap.size ≤ β1 j := h
    have := ((hM.toks t tk h1).1 _ hF).2; omega
   ·exact freeT h1 h2 hF h
  ·obtain ⟨h1, h2⟩ := told ht hno
   rw [hb2' k hno'] at hk
   rw [fout hno, bout hno'] at hF
   exact hM.tbox t tk k b h1 hk hF
 ·rcases dich (fun j => lookB s1.B j ≠ none) ρb k with ⟨j, hj, rfl⟩ | hno
  ·cases hr : lookR acc.rb j with
   | none => rw [hresb j hj hr] at hb; cases hb
   | some k' =>
    obtain ⟨e1, _, e3⟩ := hBk.rb j k' hr
    rw [bin hj, bsame hr]
    rw [e1] at hb
    exact hM.bfix k' b hb e3
  ·rw [hb2' k hno] at hk
   rw [bout hno]; exact hM.bfix k b hb hk
 ·rcases dich (fun j => lookT s1.T j ≠ none) ρt t with ⟨n, hn, rfl⟩ | hno
  ·rw [ht2 n hn] at ht
   by_cases hm : ∃ m, lookR acc.rt n = some (some m)
   ·obtain ⟨m, hm⟩ := hm
    obtain ⟨tk0, _, g1, _⟩ := hBk.back n m _ hm ht
    rw [tin hn, tsame hm ht]
    rw [hBk.rt n m hm] at hv
    exact hM.tfix m v tk0 hv g1
   ·rw [hrest n hn (fun m h => hm ⟨m, h⟩)] at hv; cases hv
  ·obtain ⟨h1, _⟩ := told ht hno
   rw [tout hno]; exact hM.tfix t v tk hv h1
 ·rcases dich (fun j => lookT s1.T j ≠ none) ρt n with ⟨n', hn', rfl⟩ | hno
  ·rw [ht2 n' hn'] at hn
   rw [Tok.whole_nil (hwh n' tk hn) htr] at hin
   cases hin
  ·obtain ⟨h1, h2⟩ := told hn hno
   obtain ⟨k1, k2⟩ := hM.hol n tk hs i o d h1 htr hin
   obtain ⟨g1, g2⟩ := hTL d k1
   refine ⟨g1, fun td hd => ?_⟩
   obtain ⟨td0, q1, q2, _⟩ := g2 td hd
   obtain ⟨b, l, cap, e1, e2⟩ := k2 td0 q1
   have hF := (hM.toks n tk h1).block e1
   refine ⟨b, l, cap, by rw [tout hno]; exact e1, ?_⟩
   rw [show τ2 d = τ d from q2]
   exact (World.cell?_of_block (w := w) (block1 b ((hM.toks n tk h1).1 b hF).2 (freeT h1 h2 hF))).trans e2
end Go.Proofs.YtcjbjmbialienaaGreatDoor
