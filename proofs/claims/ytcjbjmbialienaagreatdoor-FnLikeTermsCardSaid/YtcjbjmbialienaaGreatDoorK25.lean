/- The engine, twenty-fifth part: structs that are compared. -/
import Derived.Test.YtcjbjmbialienaaGreatDoorK24
set_option linter.unusedSimpArgs false
set_option linter.unusedVariables false
namespace Go.Proofs.YtcjbjmbialienaaGreatDoor
open Go.RowKit
def jer (P : Program) (t : TypeId) : PV → PV → Prop
 | .int k _, .int k' _ => k = k' ∧ ∃ k'', P.underlying t = some (.int k'')
 | .bool _, .bool _ => P.underlying t = some .bool
 | .str _, .str _ => P.underlying t = some .string
 | _, _ => False
def EqFs (P : Program) : List (Bool × TypeId × Nat) → Nat → List PV → List PV → Prop
 | [], _, [], [] => True
 | f :: fs, i, p :: ps, q :: qs => (f.1 = false ∧ f.2.2 = i ∧ jer P f.2.1 p q) ∧ EqFs P fs (i + 1) ps qs
 | _, _, _, _ => False
def eqP : PV → PV → Bool
 | .int _ a, .int _ b => decide (a = b)
 | .bool a, .bool b => a == b
 | .str a, .str b => a.toList == b.toList
 | _, _ => false
def eqL : List PV → List PV → Bool
 | [], [] => true
 | p :: ps, q :: qs => eqP p q && eqL ps qs
 | _, _ => false
theorem jhc {P : Program} {xs ys : Array Value} (d : Nat) (w : World) : ∀ (fs : List Field) (i : Nat) (ps qs : List PV), EqFs P (fs.map fun f => (f.name == "_", f.type, f.offset)) i ps qs →
  (∀ j p, ps[j]? = some p → xs[i + j]? = some (litOf p)) → (∀ j p, qs[j]? = some p → ys[i + j]? = some (litOf p)) → (Op.eqFields (d + 1) xs ys fs).run P w = .ok (eqL ps qs) w
 | [], i, [], [], _, _, _ => rfl
 | [], i, _ :: _, _, h, _, _ => h.elim
 | [], i, [], _ :: _, h, _, _ => h.elim
 | f :: fs, i, [], _, h, _, _ => by cases h
 | f :: fs, i, _ :: _, [], h, _, _ => by cases h
 | f :: fs, i, p :: ps, q :: qs, h, hx, hy => by
  obtain ⟨⟨h1, h2, h3⟩, h4⟩ := h
  simp only at h1 h2 h3
  have hn : f.name ≠ "_" := by simpa using h1
  have ih := jhc d w fs (i + 1) ps qs h4 (fun j p hp => by rw [← hx (j + 1) p hp]; congr 1; omega) (fun j p hp => by rw [← hy (j + 1) p hp]; congr 1; omega)
  have x0 := hx 0 p rfl
  have y0 := hy 0 q rfl
  rw [Nat.add_zero, ← h2] at x0 y0
  have main : (∃ d', P.underlying f.type = some d' ∧ TypeDesc.isAgg d' = false) → (Op.equalIn (d + 1) f.type (litOf p) (litOf q)).run P w = .ok (eqP p q) w → (Op.eqFields (d + 1) xs ys (f :: fs)).run P w = .ok (eqL (p :: ps) (q :: qs)) w := by
   rintro ⟨d', hd, hagg⟩ hr
   have part : ∀ (cs : Array Value) (v : Value), cs[f.offset]? = some v → (part f.type cs f.offset).run P w = .ok v w := fun cs v hv => by
    simp only [Go.part, Sem.run_bind, isAgg_run hd, Result.andThen_ok, hagg, Bool.false_eq_true, if_false, hv, Sem.run_pure]
   simp only [Op.eqFields, if_pos hn, Sem.run_bind, part xs _ x0, part ys _ y0, Result.andThen_ok, hr]
   cases he : eqP p q with
   | false => simp [eqL, he]
   | true => simp [eqL, he, ih]
  cases p <;> cases q <;> simp only [jer] at h3
  ·exact main ⟨_, h3, rfl⟩ (by simp [litOf, run_equalIn_bool' w d _ _ _ h3, eqP])
  ·obtain ⟨rfl, k'', hk⟩ := h3
   exact main ⟨_, hk, rfl⟩ (by simp [litOf, run_equalIn_int w d _ _ k'' _ _ hk, eqP]; exact jaZ _ _)
  ·exact main ⟨_, h3, rfl⟩ (by simp [litOf, run_equalIn_string w d _ _ _ h3, eqP])
theorem jhE : ∀ (a b c d : List PV), a.length = b.length → eqL (a ++ c) (b ++ d) = (eqL a b && eqL c d)
 | [], [], c, d, _ => by simp [eqL]
 | p :: a, q :: b, c, d, h => by
  simp only [List.cons_append, eqL, jhE a b c d (by simpa using h), Bool.and_assoc]
 | [], _ :: _, _, _, h => by cases h
 | _ :: _, [], _, _, h => by cases h
theorem jdv : ∀ (r : Tp) (x y : r.D), r.flatB = true → eqL (enc r x) (enc r y) = r.eqB x y
 | .bool, x, y, _ => by simp [enc, eqL, eqP, Tp.eqB]
 | .int _, x, y, _ => by simp [enc, eqL, eqP, Tp.eqB]
 | .str, x, y, _ => by
  simp only [enc, eqL, eqP, Tp.eqB, bytes_toList, Bool.and_true]
  by_cases h : x = y <;> simp [h]
 | .unit, x, y, _ => rfl
 | .pair a b, x, y, h => by
  simp only [Tp.flatB, Bool.and_eq_true] at h
  simp only [enc, Tp.eqB]
  rw [jhE _ _ _ _ (by rw [enc_len, enc_len]), jdv a _ _ h.1, jdv b _ _ h.2]
 | .sl _, _, _, h => by cases h
 | .opt _, _, _, h => by cases h
 | .q, _, _, h => by cases h
theorem jai {P : Program} {t : TypeId} (r : Tp) (hfl : r.flatB = true) (hg : P.eqGuardType P.depth t = false) (hu : P.underlying t = some (.struct (P.fieldsOf t))) (hp : P.stoodInHeld t = false) (l : List (Bool × TypeId × Nat)) (hl : ((P.fieldsOf t).toList.map fun f => (f.name == "_", f.type, f.offset)) = l)
  (h : ∀ x y : r.D, EqFs P l 0 (enc r x) (enc r y)) : r.flatB = true ∧ P.eqGuardType P.depth t = false ∧ ∀ w (x y : r.D), (Op.equalIn 10000 t (.agg ((enc r x).map litOf).toArray) (.agg ((enc r y).map litOf).toArray)).run P w = .ok (r.eqB x y) w := by
 refine ⟨hfl, hg, fun w x y => ?_⟩
 rw [run_equalIn_agg w 9999 t _ _ hu hp, ← jdv r x y hfl]
 refine jhc 9998 w _ 0 _ _ (hl ▸ h x y) (fun j p hp => ?_) (fun j p hp => ?_)
 ·simp [hp]
 ·simp [hp]
def partVal (r : Tp) (x : r.D) (agg : Bool) : Value := bif agg then .agg ((enc r x).map litOf).toArray else litV r x
structure FEq (P : Program) (d : Nat) (f : Bool × TypeId × Nat) (i : Nat) (agg : Bool) (r : Tp) : Prop where
 name : f.1 = false
 off : f.2.2 = i
 und : ∃ desc, P.underlying f.2.1 = some desc ∧ TypeDesc.isAgg desc = agg
 size : agg = true → ∃ inf, P.info? f.2.1 = some inf ∧ inf.size = r.w
 one : agg = false → ∀ x : r.D, ∃ p, enc r x = [p]
 eq : ∀ w (x y : r.D), (Op.equalIn d f.2.1 (partVal r x agg) (partVal r y agg)).run P w = .ok (r.eqB x y) w
@[reducible] def tpOf : List (Bool × Tp) → Tp
 | [] => .unit
 | [(_, r)] => r
 | (_, r) :: a :: l => .pair r (tpOf (a :: l))
end Go.Proofs.YtcjbjmbialienaaGreatDoor
