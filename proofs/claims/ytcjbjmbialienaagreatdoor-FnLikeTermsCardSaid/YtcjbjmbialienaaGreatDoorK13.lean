/- The engine, thirteenth part: what is told by a shape. -/
import Derived.Test.YtcjbjmbialienaaGreatDoorK12
set_option linter.unusedSimpArgs false
set_option linter.unusedVariables false
namespace Go.Proofs.YtcjbjmbialienaaGreatDoor
open Go.RowKit
structure Ext (a a' : Acc) : Prop where
 ps : True
 rt : ∃ l, a'.rt = a.rt ++ l
 rb : ∀ k k', lookR a.rb k = some k' → lookR a'.rb k = some k'
 fb : ∀ k, k ∈ a.fb → k ∈ a'.fb
 ft : ∀ k, k ∈ a.ft → k ∈ a'.ft
 mt : ∀ k, k ∈ a.mt → k ∈ a'.mt
 ub : ∀ k, k ∈ a.ub → k ∈ a'.ub
theorem Ext.refl (a : Acc) : Ext a a := ⟨True.intro, ⟨[], by simp⟩, fun _ _ h => h, fun _ h => h, fun _ h => h, fun _ h => h, fun _ h => h⟩
theorem Ext.trans {a b c : Acc} (h : Ext a b) (k : Ext b c) : Ext a c := by
 obtain ⟨m1, f1⟩ := h.rt; obtain ⟨m2, f2⟩ := k.rt
 exact ⟨True.intro, ⟨m1 ++ m2, by rw [f2, f1, List.append_assoc]⟩, fun x y hx => k.rb x y (h.rb x y hx), fun x hx => k.fb x (h.fb x hx), fun x hx => k.ft x (h.ft x hx), fun x hx => k.mt x (h.mt x hx), fun x hx => k.ub x (h.ub x hx)⟩
theorem lookR_app {α : Type} : ∀ (l m : List (Nat × α)) (k : Nat), lookR (l ++ m) k = match lookR l k with | some x => some x | none => lookR m k
 | [], m, k => rfl
 | (j, x) :: l, m, k => by
  simp only [List.cons_append, lookR]
  split
  ·rfl
  ·exact lookR_app l m k
theorem lookR_mem {α : Type} : ∀ {l : List (Nat × α)} {k : Nat} {x : α}, lookR l k = some x → (k, x) ∈ l
 | [], k, x, h => by cases h
 | (j, y) :: l, k, x, h => by
  simp only [lookR] at h
  split at h
  ·rename_i e; cases h; subst e; exact List.mem_cons_self
  ·exact List.mem_cons_of_mem _ (lookR_mem h)
theorem lookR_none {α : Type} : ∀ {l : List (Nat × α)} {k : Nat}, lookR l k = none → ∀ x, (k, x) ∉ l
 | [], k, h, x, hx => by cases hx
 | (j, y) :: l, k, h, x, hx => by
  simp only [lookR] at h
  split at h
  ·cases h
  ·rename_i e
   rcases List.mem_cons.1 hx with hx | hx
   ·cases hx; exact e rfl
   ·exact lookR_none h x hx
theorem bindBox_spec {a a' : Acc} {k k' : Nat} (h : bindBox a k k' = some a') : Ext a a' ∧ lookR a'.rb k = some k' ∧ a'.ps = a.ps ∧ a'.rt = a.rt ∧ a'.fb = a.fb ∧ a'.ft = a.ft ∧ a'.mt = a.mt ∧ a'.ub = a.ub ∧
  ((∀ j j' i, lookR a.rb j = some i → lookR a.rb j' = some i → j = j') → ∀ j j' i, lookR a'.rb j = some i → lookR a'.rb j' = some i → j = j') ∧ (∀ x, x ∈ a'.rb → x ∈ a.rb ∨ x = (k, k')) := by
 unfold bindBox at h
 split at h
 ·rename_i j hj
  split at h
  ·rename_i e; cases h; subst e; exact ⟨Ext.refl _, hj, rfl, rfl, rfl, rfl, rfl, rfl, fun h => h, fun x hx => .inl hx⟩
  ·cases h
 ·rename_i hn
  split at h
  ·cases h
  ·rename_i hany
   cases h
   have hlook : ∀ j, lookR (a.rb ++ [(k, k')]) j = match lookR a.rb j with | some x => some x | none => if j = k then some k' else none := fun j => by
    rw [lookR_app]
    cases lookR a.rb j <;> rfl
   refine ⟨⟨True.intro, ⟨[], by simp⟩, fun j j' hj => ?_, fun _ h => h, fun _ h => h, fun _ h => h, fun _ h => h⟩, ?_, rfl, rfl, rfl, rfl, rfl, rfl, fun hi j j' i hj hj' => ?_, fun x hx => ?_⟩
   ·simp only [hlook, hj]
   ·simp only [hlook, hn, if_true]
   ·simp only [hlook] at hj hj'
    have hno : ∀ j, lookR a.rb j ≠ some k' := fun j hj => hany (List.any_eq_true.2 ⟨(j, k'), lookR_mem hj, by simp⟩)
    cases h1 : lookR a.rb j with
    | some x =>
     cases h2 : lookR a.rb j' with
     | some y => rw [h1] at hj; rw [h2] at hj'; cases hj; cases hj'; exact hi j j' _ h1 h2
     | none =>
      rw [h1] at hj; rw [h2] at hj'
      cases hj
      simp only at hj'
      split at hj'
      ·cases hj'; exact absurd h1 (hno j)
      ·cases hj'
    | none =>
     rw [h1] at hj
     simp only at hj
     split at hj
     ·rename_i e1
      cases hj
      cases h2 : lookR a.rb j' with
      | some y => rw [h2] at hj'; cases hj'; exact absurd h2 (hno j')
      | none =>
       rw [h2] at hj'
       simp only at hj'
       split at hj'
       ·rename_i e2; rw [e1, e2]
       ·cases hj'
     ·cases hj
   ·rcases List.mem_append.1 hx with hx | hx
    ·exact .inl hx
    ·exact .inr (by simpa using hx)
theorem bindTok_spec {a a' : Acc} {n : Nat} {n' : Option Nat} {p : Pay} (h : bindTok a n n' p = some a') : Ext a a' ∧ a'.ps = a.ps ++ [p] ∧ a'.rt = a.rt ++ [(n, n')] ∧ a'.rb = a.rb ∧ a'.fb = a.fb ∧ a'.ft = a.ft ∧ a'.mt = a.mt ∧ a'.ub = a.ub ∧ n ∉ a.rt.map (·.1) ∧ (∀ m, n' = some m → ∀ x, x ∈ a.rt → x.2 ≠ some m) := by
 unfold bindTok at h
 split at h
 ·cases h
 ·rename_i hn
  split at h
  ·cases h
  ·rename_i hany
   cases h
   refine ⟨⟨True.intro, ⟨_, rfl⟩, fun _ _ h => h, fun _ h => h, fun _ h => h, fun _ h => h, fun _ h => h⟩, rfl, rfl, rfl, rfl, rfl, rfl, rfl, fun hin => ?_, fun m hm x hx e => ?_⟩
   ·obtain ⟨⟨n1, n2⟩, h1, rfl⟩ := List.mem_map.1 hin
    exact lookR_none hn n2 h1
   ·subst hm
    refine hany ?_
    simp only [Option.isSome_some, Bool.true_and, List.any_eq_true]
    exact ⟨x, hx, by simpa using e⟩
def RtOk (l : List (Nat × Option Nat)) : Prop := (l.map (·.1)).Nodup ∧ ∀ (i j : Nat) x y m, l[i]? = some x → l[j]? = some y → x.2 = some m → y.2 = some m → i = j
theorem RtOk.snoc {l : List (Nat × Option Nat)} (h : RtOk l) {n : Nat} {n' : Option Nat} (h1 : n ∉ l.map (·.1)) (h2 : ∀ m, n' = some m → ∀ x, x ∈ l → x.2 ≠ some m) : RtOk (l ++ [(n, n')]) := by
 refine ⟨?_, fun i j x y m hi hj hx hy => ?_⟩
 ·rw [List.map_append, List.map_cons, List.map_nil]
  exact List.nodup_append.2 ⟨h.1, by simp, fun a ha b hb e => h1 (by simp at hb; rw [← hb, ← e]; exact ha)⟩
 ·rw [List.getElem?_append] at hi hj
  split at hi <;> split at hj
  ·exact h.2 i j x y m hi hj hx hy
  ·have : y = (n, n') := by
    have := List.mem_of_getElem? hj; simpa using this
   subst this
   exact absurd hx (h2 m hy x (List.mem_of_getElem? hi))
  ·have : x = (n, n') := by
    have := List.mem_of_getElem? hi; simpa using this
   subst this
   exact absurd hy (h2 m hx y (List.mem_of_getElem? hj))
  ·have h3 := (List.getElem?_eq_some_iff.1 hi).1
   have h4 := (List.getElem?_eq_some_iff.1 hj).1
   simp at h3 h4; omega
structure AccInv (a : Acc) : Prop where
 rt : RtOk a.rt
 rb : ∀ j j' i, lookR a.rb j = some i → lookR a.rb j' = some i → j = j'
section
variable (B : List (Nat × BS)) (T : List (Nat × Option TS))
structure Known (fin : Acc) (Fr : Nat → Prop) (c c' : Ctx) (F : Nat → Nat → Prop) : Prop where
 w : c'.w = c.w
 S : c'.S = c.S
 tok : ∀ n tk, lookT T n = some (.live tk) → c.tok n = some (.live (if n ∈ fin.ft then tk.fz else tk))
 toks : ∀ n tk, c.tok n = some (.live tk) → TokOk Fr c.w c.S tk (c.τ n) (F n)
 box : ∀ k b o t z, lookB B k = some b → k ∈ fin.fb → mkRow t ((b.cs.drop o).take t.w) = some z → c.live k → CellsAt c.w c.S (c.β k) o (enc t z)
 mt : ∀ n, n ∈ fin.mt → n ∉ fin.ft
 live : ∀ k k', lookR fin.rb k = some k' → c'.live k ∧ c'.β k = c.β k'
 τ : ∀ n n', (n, n') ∈ fin.rt → c'.τ n = match n' with | some m => c.τ m | none => .slice none 0 0
 nm : ∀ k k', lookR fin.rb k = some k' → mapName k = mapName k'
 fbm : ∀ k, k ∈ fin.fb → mapName k = false
def TR (c : Ctx) (x : Nat × Option Nat) (y : Nat × Option TS) : Prop :=
 y.1 = x.1 ∧ ∃ tk, y.2 = some (.live tk) ∧ match x.2 with
  | some m => ∃ tk0, c.tok m = some (.live tk0) ∧ (⟨tk.t, tk.xs⟩ : (t : Tp) × List t.D) = ⟨tk0.t, tk0.xs⟩ ∧ tk.e = tk0.e ∧ tk.wr = tk0.wr ∧ (tk.deep = true → tk0.deep = true) ∧ tk.tr = tk0.tr ∧ (tk.tr ≠ none → tk.deep = true)
  | none => tk.xs = [] ∧ (tk.tr = none ∨ (tk.tr = some [] ∧ tk.wr = true ∧ tk.deep = true))
def VImp (c c' : Ctx) (x x' : AV) (v : Value) : Prop := (V0 c x v → V0 c' x' v) ∧ (V1 c x v → V1 c' x' v) ∧ (V2 c x v → V2 c' x' v) ∧ (V3 c x v → V3 c' x' v)
def AV.base : AV → Bool
 | .agg _ => false
 | .tup _ => false
 | .clo _ _ => false
 | _ => true
theorem VImp.of_base {c c' : Ctx} {x x' : AV} {v : Value} (hb : x.base = true) (h : V3 c x v → V0 c' x' v) : VImp c c' x x' v :=
 ⟨fun h0 => h (V3_of_V1 (V1_of_V0 h0)), fun h0 => V1_of_V0 (h (V3_of_V1 h0)), fun h0 => V2_of_V1 (V1_of_V0 (h (V3_of_V2 h0))), fun h0 => V3_of_V1 (V1_of_V0 (h h0))⟩
theorem VImp.dead {c c' : Ctx} {x : AV} {v : Value} : VImp c c' x .dead v := ⟨fun _ => True.intro, fun _ => True.intro, fun _ => True.intro, fun _ => True.intro⟩
def ConvOk (c c' : Ctx) (v : VS) (x : AV) (a a' : Acc) (val : Value) : Prop :=
 ∃ seg rseg x' ts, a'.ps = a.ps ++ seg ∧ a'.rt = a.rt ++ rseg ∧ (∀ rest, inst v (seg ++ rest) = (x', rest, ts)) ∧ All2 (TR c) rseg ts ∧ ((∀ n z, (n, z) ∈ ts → c'.tok n = z) → VImp c c' x x' val)
def ConvLOk (c c' : Ctx) (Q : Ctx → AV → Value → Prop) (vs : List VS) (xs : List AV) (a a' : Acc) (vals : List Value) : Prop :=
 ∃ seg rseg xs' ts, a'.ps = a.ps ++ seg ∧ a'.rt = a.rt ++ rseg ∧ (∀ rest, instL vs (seg ++ rest) = (xs', rest, ts)) ∧ All2 (TR c) rseg ts ∧ ((∀ n z, (n, z) ∈ ts → c'.tok n = z) → All2 (Q c') xs' vals)
end
end Go.Proofs.YtcjbjmbialienaaGreatDoor
