/- The engine, sixteenth part: calls. -/
import Derived.Test.YtcjbjmbialienaaGreatDoorK15
set_option linter.unusedSimpArgs false
set_option linter.unusedVariables false
namespace Go.Proofs.YtcjbjmbialienaaGreatDoor
open Go.RowKit
section
variable {E : Env} {o : Oper} {s : LSt} {e : Eff} {fp : FP}
theorem readB_R : ∀ (l : List Nat) (B : List (Nat × BS)) (f : List (Nat × BS) → RD) (rb rt : List Nat), (readB l B f).R s rb rt e fp → (∀ k b, lookB B k = some b → lookB s.B k = some b) → ∃ B' rb', (∀ k b, lookB B' k = some b → lookB s.B k = some b) ∧ (f B').R s rb' rt e fp
 | [], B, f, rb, rt, h, hB => ⟨B, rb, hB, h⟩
 | k :: l, B, f, rb, rt, h, hB => by
  simp only [readB, RD.R] at h
  split at h
  ·rename_i b hb
   refine readB_R l _ f _ rt h (fun j b' hj => ?_)
   rw [lookB_setB] at hj
   simp only [updB] at hj
   split at hj
   ·rename_i ej; subst ej; cases hj; exact hb
   ·exact hB j b' hj
  ·exact h.elim
theorem readT_R : ∀ (l : List Nat) (T : List (Nat × Option TS)) (f : List (Nat × Option TS) → RD) (rb rt : List Nat), (readT l T f).R s rb rt e fp → (∀ k b, lookT T k = some b → lookT s.T k = some b) → ∃ T' rt', (∀ k b, lookT T' k = some b → lookT s.T k = some b) ∧ (f T').R s rb rt' e fp
 | [], T, f, rb, rt, h, hT => ⟨T, rt, hT, h⟩
 | k :: l, T, f, rb, rt, h, hT => by
  simp only [readT, RD.R] at h
  refine readT_R l _ f rb _ h (fun j b' hj => ?_)
  rw [lookT_setT] at hj
  simp only [updT] at hj
  split at hj
  ·rename_i ej; subst ej; exact hj
  ·exact hT j b' hj
theorem pickM_R {B : List (Nat × BS)} {T : List (Nat × Option TS)} {xs : List AV} {f : (m : Model) → HD m.arg.codes → Acc → RD} {rb rt : List Nat} : ∀ (l : List Model), (pickM B T xs f l).R s rb rt e fp → ∃ m a acc, m ∈ l ∧ m.arg.conv B T xs = some (a, acc) ∧ (f m a acc).R s rb rt e fp
 | [], h => h.elim
 | m :: l, h => by
  simp only [pickM] at h
  split at h
  ·rename_i a acc hc
   exact ⟨m, a, acc, List.mem_cons_self, hc, h⟩
  ·obtain ⟨m', a, acc, h1, h2, h3⟩ := pickM_R l h
   exact ⟨m', a, acc, List.mem_cons_of_mem _ h1, h2, h3⟩
theorem jgN : ∀ (l : List Nat) (r : RD) (rb rt : List Nat), (freshB E l r).R s rb rt e fp → (∀ k, k ∈ l → lookB s.B k = none ∧ E.res k = false) ∧ ∃ rb', r.R s rb' rt e fp
 | [], r, rb, rt, h => ⟨(fun k hk => by cases hk), rb, h⟩
 | k :: l, r, rb, rt, h => by
  simp only [freshB, RD.R] at h
  split at h
  ·rename_i hk
   split at h
   ·exact h.elim
   ·rename_i hr
    obtain ⟨h1, h2⟩ := jgN l r _ rt h
    refine ⟨fun j hj => ?_, h2⟩
    rcases List.mem_cons.1 hj with rfl | hj
    ·exact ⟨hk, by simpa using hr⟩
    ·exact h1 j hj
  ·exact h.elim
theorem freshT_R : ∀ (l : List Nat) (r : RD) (rb rt : List Nat), (freshT E l r).R s rb rt e fp → (∀ k, k ∈ l → lookT s.T k = none ∧ E.res k = false) ∧ ∃ rt', r.R s rb rt' e fp
 | [], r, rb, rt, h => ⟨(fun k hk => by cases hk), rt, h⟩
 | k :: l, r, rb, rt, h => by
  simp only [freshT, RD.R] at h
  split at h
  ·rename_i hk
   split at h
   ·exact h.elim
   ·rename_i hr
    obtain ⟨h1, h2⟩ := freshT_R l r rb _ h
    refine ⟨fun j hj => ?_, h2⟩
    rcases List.mem_cons.1 hj with rfl | hj
    ·exact ⟨hk, by simpa using hr⟩
    ·exact h1 j hj
  ·exact h.elim
end
section
variable {c c' : Ctx} {ρb ρt : Nat → Nat} (hw : c'.w = c.w) (hS : c'.S = c.S) (hb : ∀ k, c.live k → c'.live (ρb k) ∧ c'.β (ρb k) = c.β k) (ht : ∀ n, c.tok n ≠ none → c'.tok (ρt n) = c.tok n ∧ c'.τ (ρt n) = c.τ n) (hm : ∀ k, c.live k → mapName (ρb k) = mapName k)
include hw hS hb ht hm
theorem ren0 {x : AV} {v : Value} (hx : V0 c x v) : V0 c' (x.ren ρb ρt) v := by
 cases x with
 | dead => exact True.intro
 | pv t y => obtain ⟨p, h1, h2⟩ := hx; exact ⟨p, h1, by rw [hw, hS]; exact h2⟩
 | nils => exact hx
 | nilp => exact hx
 | box k o => obtain ⟨h1, h2⟩ := hx; exact ⟨(hb k h1).1, by rw [(hb k h1).2]; unfold refV at h2 ⊢; rw [hm k h1]; exact h2⟩
 | ptr t y o => obtain ⟨b, q, h1, h2⟩ := hx; exact ⟨b, q, h1, by rw [hw, hS]; exact h2⟩
 | own n t xs =>
  obtain ⟨h1, h2, h3⟩ := hx
  obtain ⟨g1, g2⟩ := ht n h2
  exact ⟨by rw [hw, hS]; exact h1, by rw [g1]; exact h2, fun tk htk => by rw [g1] at htk; rw [g2]; exact h3 tk htk⟩
 | mtk n =>
  obtain ⟨h1, h2, h3⟩ := hx
  obtain ⟨g1, g2⟩ := ht n h2
  exact ⟨h1, by rw [g1]; exact h2, fun tk htk => by rw [g1] at htk; rw [g2]; exact h3 tk htk⟩
 | mptr n i o =>
  obtain ⟨h1, h2, h3⟩ := hx
  obtain ⟨g1, g2⟩ := ht n h2
  exact ⟨h1, by rw [g1]; exact h2, fun tk htk => by rw [g1] at htk; rw [g2]; exact h3 tk htk⟩
 | gmap g => exact ⟨by rw [hS]; exact hx.1, by rw [hw]; exact hx.2.1, hx.2.2⟩
 | agg _ => exact hx.elim
 | tup _ => exact hx.elim
 | clo _ _ => exact hx.elim
theorem jgr : ∀ {xs : List AV} {vs : List Value}, All2 (V0 c) xs vs → All2 (V0 c') (AV.renL ρb ρt xs) vs
 | [], [], _ => True.intro
 | _ :: xs, _ :: vs, h => ⟨ren0 hw hS hb ht hm h.1, jgr h.2⟩
 | [], _ :: _, h => h.elim
 | _ :: _, [], h => h.elim
theorem ren1 {x : AV} {v : Value} (hx : V1 c x v) : V1 c' (x.ren ρb ρt) v := by
 cases x with
 | clo f cs => obtain ⟨us, e, ha⟩ := hx; exact ⟨us, e, jgr hw hS hb ht hm ha⟩
 | agg _ => exact hx.elim
 | tup _ => exact hx.elim
 | dead => exact True.intro
 | pv t y => exact V1_of_V0 (ren0 hw hS hb ht hm (x := .pv t y) hx)
 | nils => exact hx
 | nilp => exact hx
 | box k o => exact V1_of_V0 (ren0 hw hS hb ht hm (x := .box k o) hx)
 | ptr t y o => exact V1_of_V0 (ren0 hw hS hb ht hm (x := .ptr t y o) hx)
 | own n t xs => exact V1_of_V0 (ren0 hw hS hb ht hm (x := .own n t xs) hx)
 | mtk n => exact V1_of_V0 (ren0 hw hS hb ht hm (x := .mtk n) hx)
 | mptr n i o => exact V1_of_V0 (ren0 hw hS hb ht hm (x := .mptr n i o) hx)
 | gmap g => exact V1_of_V0 (ren0 hw hS hb ht hm (x := .gmap g) hx)
theorem renL1 : ∀ {xs : List AV} {vs : List Value}, All2 (V1c c) xs vs → All2 (V1c c') (AV.renL ρb ρt xs) vs
 | [], [], _ => True.intro
 | _ :: xs, _ :: vs, h => ⟨⟨ren1 hw hS hb ht hm h.1.1, h.1.2⟩, renL1 h.2⟩
 | [], _ :: _, h => h.elim
 | _ :: _, [], h => h.elim
theorem ren2 {x : AV} {v : Value} (hx : V2 c x v) : V2 c' (x.ren ρb ρt) v := by
 cases x with
 | agg cs => obtain ⟨us, e, ha⟩ := hx; exact ⟨us, e, renL1 hw hS hb ht hm ha⟩
 | tup _ => exact hx.elim
 | clo f cs => exact V2_of_V1 (ren1 hw hS hb ht hm (x := .clo f cs) hx)
 | dead => exact True.intro
 | pv t y => exact V2_of_V1 (ren1 hw hS hb ht hm (x := .pv t y) hx)
 | nils => exact hx
 | nilp => exact hx
 | box k o => exact V2_of_V1 (ren1 hw hS hb ht hm (x := .box k o) hx)
 | ptr t y o => exact V2_of_V1 (ren1 hw hS hb ht hm (x := .ptr t y o) hx)
 | own n t xs => exact V2_of_V1 (ren1 hw hS hb ht hm (x := .own n t xs) hx)
 | mtk n => exact V2_of_V1 (ren1 hw hS hb ht hm (x := .mtk n) hx)
 | mptr n i o => exact V2_of_V1 (ren1 hw hS hb ht hm (x := .mptr n i o) hx)
 | gmap g => exact V2_of_V1 (ren1 hw hS hb ht hm (x := .gmap g) hx)
theorem jjl : ∀ {xs : List AV} {vs : List Value}, All2 (V2 c) xs vs → All2 (V2 c') (AV.renL ρb ρt xs) vs
 | [], [], _ => True.intro
 | _ :: xs, _ :: vs, h => ⟨ren2 hw hS hb ht hm h.1, jjl h.2⟩
 | [], _ :: _, h => h.elim
 | _ :: _, [], h => h.elim
theorem ren3 {x : AV} {v : Value} (hx : V3 c x v) : V3 c' (x.ren ρb ρt) v := by
 cases x with
 | tup cs => obtain ⟨us, e, ha⟩ := hx; exact ⟨us, e, jjl hw hS hb ht hm ha⟩
 | agg cs => exact V3_of_V2 (ren2 hw hS hb ht hm (x := .agg cs) hx)
 | clo f cs => exact V3_of_V2 (ren2 hw hS hb ht hm (x := .clo f cs) hx)
 | dead => exact True.intro
 | pv t y => exact V3_of_V2 (ren2 hw hS hb ht hm (x := .pv t y) hx)
 | nils => exact hx
 | nilp => exact hx
 | box k o => exact V3_of_V2 (ren2 hw hS hb ht hm (x := .box k o) hx)
 | ptr t y o => exact V3_of_V2 (ren2 hw hS hb ht hm (x := .ptr t y o) hx)
 | own n t xs => exact V3_of_V2 (ren2 hw hS hb ht hm (x := .own n t xs) hx)
 | mtk n => exact V3_of_V2 (ren2 hw hS hb ht hm (x := .mtk n) hx)
 | mptr n i o => exact V3_of_V2 (ren2 hw hS hb ht hm (x := .mptr n i o) hx)
 | gmap g => exact V3_of_V2 (ren2 hw hS hb ht hm (x := .gmap g) hx)
end
theorem jfh : ∀ (l : List (Nat × BS)) (f : Nat → Option BS), (l.map (·.1)).Nodup → ∀ k, l.foldl (fun f x => updB f x.1 x.2) f k = match lookB l k with | some b => some b | none => f k
 | [], f, _, k => rfl
 | (j, b) :: l, f, hn, k => by
  simp only [List.map_cons, List.nodup_cons] at hn
  rw [List.foldl_cons, jfh l _ hn.2]
  simp only [lookB]
  by_cases e : k = j
  ·subst e
   have : lookB l k = none := by
    cases h : lookB l k with
    | none => rfl
    | some c => exact absurd (List.mem_map.2 ⟨(k, c), lookB_mem h, rfl⟩) hn.1
   simp [this, updB]
  ·simp [e, updB]
theorem jiy : ∀ {l : List (Nat × Option TS)} {k : Nat}, k ∉ l.map (·.1) → lookT l k = none
 | [], k, _ => rfl
 | (j, x) :: l, k, h => by
  simp only [List.map_cons, List.mem_cons, not_or] at h
  simp only [lookT]
  rw [if_neg h.1]
  exact jiy h.2
theorem jfu : ∀ (l : List (Nat × Option TS)) (f : Nat → Option TS), (l.map (·.1)).Nodup → ∀ k, l.foldl (fun f x => updT f x.1 x.2) f k = if k ∈ l.map (·.1) then lookT l k else f k
 | [], f, _, k => by simp
 | (j, b) :: l, f, hn, k => by
  simp only [List.map_cons, List.nodup_cons] at hn
  rw [List.foldl_cons, jfu l _ hn.2]
  simp only [lookT, List.map_cons, List.mem_cons]
  by_cases e : k = j
  ·subst e
   simp [hn.1, updT]
  ·by_cases hin : k ∈ l.map (·.1)
   ·rw [if_pos hin, if_pos (.inr hin), if_neg e]
   ·rw [if_neg hin, if_neg (fun h => h.elim e hin)]
    simp [updT, e]
theorem jhD (B : List (Nat × BS)) (box : Nat → Option BS) (hB : ∀ k b, lookB B k = some b → box k = some b) : ∀ (ks : List Nat) (f : Nat → Option BS), (∀ k, k ∈ ks → lookB B k ≠ none) → ∀ k, (ks.filterMap fun k => (lookB B k).map fun b => (k, (⟨true, b.cs⟩ : BS))).foldl (fun f x => updB f x.1 x.2) f k = if k ∈ ks then (box k).map fun b => ⟨true, b.cs⟩ else f k
 | [], f, _, k => by simp
 | j :: ks, f, h, k => by
  obtain ⟨b, hb⟩ := Option.ne_none_iff_exists'.1 (h j List.mem_cons_self)
  simp only [List.filterMap_cons, hb, Option.map_some, List.foldl_cons]
  rw [jhD B box hB ks _ (fun k hk => h k (List.mem_cons_of_mem _ hk))]
  by_cases e : k = j
  ·subst e
   simp only [updB, if_true, List.mem_cons, true_or, hB k b hb, Option.map_some]
   split <;> rfl
  ·simp [e, updB]
theorem jil (T : List (Nat × Option TS)) (tok : Nat → Option TS) (hT : ∀ k b, lookT T k = some b → tok k = some b) : ∀ (ns : List Nat) (f : Nat → Option TS), (∀ n, n ∈ ns → liveB (lookT T n) = true) → ∀ k, (ns.filterMap (fzOne T)).foldl (fun f x => updT f x.1 x.2) f k = if k ∈ ns then fzT tok ns k else f k
 | [], f, _, k => by simp
 | j :: ns, f, h, k => by
  have hj := h j List.mem_cons_self
  have hfz : ∀ n (ns : List Nat), n ∈ ns → liveB (lookT T n) = true → fzT tok ns n = match lookT T n with | some (.live tk) => some (.live tk.fz) | z => z := fun n ns hn hlv => by
   cases hn2 : lookT T n with
   | none => rw [hn2] at hlv; cases hlv
   | some z => cases z with
    | spent => rw [hn2] at hlv; cases hlv
    | live tk' => unfold fzT; rw [hT n _ hn2]; simp [hn]
  cases hl : lookT T j with
  | none => rw [hl] at hj; cases hj
  | some z => cases z with
   | spent => rw [hl] at hj; cases hj
   | live tk =>
    simp only [List.filterMap_cons, fzOne, hl, List.foldl_cons]
    rw [show (ns.filterMap fun n => fzOne T n) = ns.filterMap (fzOne T) from rfl] at *
    rw [jil T tok hT ns _ (fun k hk => h k (List.mem_cons_of_mem _ hk))]
    by_cases e : k = j
    ·subst e
     have h3 := hfz k (k :: ns) List.mem_cons_self hj
     rw [hl] at h3
     simp only [List.mem_cons, true_or, if_true, h3]
     split
     ·rename_i hin; rw [hfz k ns hin hj, hl]
     ·simp [updT]
    ·by_cases hin : k ∈ ns
     ·simp only [hin, if_true, List.mem_cons, or_true]
      have hkl := h k (List.mem_cons_of_mem _ hin)
      rw [hfz k ns hin hkl, hfz k (j :: ns) (List.mem_cons_of_mem _ hin) hkl]
     ·simp [hin, e, updT]
end Go.Proofs.YtcjbjmbialienaaGreatDoor
