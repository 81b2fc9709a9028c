/- The engine, twenty-fifth part: structs that are compared. -/
import Derived.Test.YtlhkdngkjodgiaaK24
set_option linter.unusedSimpArgs false
set_option linter.unusedVariables false
namespace Go.Proofs.Ytlhkdngkjodgiaa
open Go.RowKit
def LitTy (P : Program) (t : TypeId) : PV → PV → Prop
  | .int k _, .int k' _ => k = k' ∧ ∃ k'', P.underlying t = some (.int k'')
  | .bool _, .bool _ => P.underlying t = some .bool
  | .str _, .str _ => P.underlying t = some .string
  | _, _ => False
def EqFs (P : Program) : List (Bool × TypeId × Nat) → Nat → List PV → List PV → Prop
  | [], _, [], [] => True
  | f :: fs, i, p :: ps, q :: qs => (f.1 = false ∧ f.2.2 = i ∧ LitTy P f.2.1 p q) ∧ EqFs P fs (i + 1) ps qs
  | _, _, _, _ => False
def eqP : PV → PV → Bool
  | .int _ a, .int _ b => decide (a = b)
  | .bool a, .bool b => a == b
  | .str a, .str b => a.toList == b.toList
  | _, _ => false
def eqL : List PV → List PV → Bool
  | [], [] => true
  | p :: ps, q :: qs => eqP p q && eqL ps qs
  | _, _ => false
theorem eqF_ok {P : Program} {xs ys : Array Value} (d : Nat) (w : World) : ∀ (fs : List Field) (i : Nat) (ps qs : List PV), EqFs P (fs.map fun f => (f.name == "_", f.type, f.offset)) i ps qs →
    (∀ j p, ps[j]? = some p → xs[i + j]? = some (litOf p)) → (∀ j p, qs[j]? = some p → ys[i + j]? = some (litOf p)) → (Op.eqFields (d + 1) xs ys fs).run P w = .ok (eqL ps qs) w
  | [], i, [], [], _, _, _ => rfl
  | [], i, _ :: _, _, h, _, _ => h.elim
  | [], i, [], _ :: _, h, _, _ => h.elim
  | f :: fs, i, [], _, h, _, _ => by cases h
  | f :: fs, i, _ :: _, [], h, _, _ => by cases h
  | f :: fs, i, p :: ps, q :: qs, h, hx, hy => by
    obtain ⟨⟨h1, h2, h3⟩, h4⟩ := h
    simp only at h1 h2 h3
    have hn : f.name ≠ "_" := by simpa using h1
    have ih := eqF_ok d w fs (i + 1) ps qs h4 (fun j p hp => by rw [← hx (j + 1) p hp]; congr 1; omega) (fun j p hp => by rw [← hy (j + 1) p hp]; congr 1; omega)
    have x0 := hx 0 p rfl
    have y0 := hy 0 q rfl
    rw [Nat.add_zero, ← h2] at x0 y0
    have main : (∃ d', P.underlying f.type = some d' ∧ TypeDesc.isAgg d' = false) → (Op.equalIn (d + 1) f.type (litOf p) (litOf q)).run P w = .ok (eqP p q) w → (Op.eqFields (d + 1) xs ys (f :: fs)).run P w = .ok (eqL (p :: ps) (q :: qs)) w := by
      rintro ⟨d', hd, hagg⟩ hr
      have part : ∀ (cs : Array Value) (v : Value), cs[f.offset]? = some v → (part f.type cs f.offset).run P w = .ok v w := fun cs v hv => by
        simp only [Go.part, Sem.run_bind, isAgg_run hd, Result.andThen_ok, hagg, Bool.false_eq_true, if_false, hv, Sem.run_pure]
      simp only [Op.eqFields, if_pos hn, Sem.run_bind, part xs _ x0, part ys _ y0, Result.andThen_ok, hr]
      cases he : eqP p q with
      | false => simp [eqL, he]
      | true => simp [eqL, he, ih]
    cases p <;> cases q <;> simp only [LitTy] at h3
    · exact main ⟨_, h3, rfl⟩ (by simp [litOf, run_equalIn_bool' w d _ _ _ h3, eqP])
    · obtain ⟨rfl, k'', hk⟩ := h3
      exact main ⟨_, hk, rfl⟩ (by simp [litOf, run_equalIn_int w d _ _ k'' _ _ hk, eqP]; exact decInt _ _)
    · exact main ⟨_, h3, rfl⟩ (by simp [litOf, run_equalIn_string w d _ _ _ h3, eqP])
theorem eqL_append : ∀ (a b c d : List PV), a.length = b.length → eqL (a ++ c) (b ++ d) = (eqL a b && eqL c d)
  | [], [], c, d, _ => by simp [eqL]
  | p :: a, q :: b, c, d, h => by
    simp only [List.cons_append, eqL, eqL_append a b c d (by simpa using h), Bool.and_assoc]
  | [], _ :: _, _, _, h => by cases h
  | _ :: _, [], _, _, h => by cases h
theorem eqL_enc : ∀ (r : Tp) (x y : r.D), r.flatB = true → eqL (enc r x) (enc r y) = r.eqB x y
  | .bool, x, y, _ => by simp [enc, eqL, eqP, Tp.eqB]
  | .int _, x, y, _ => by simp [enc, eqL, eqP, Tp.eqB]
  | .str, x, y, _ => by
    simp only [enc, eqL, eqP, Tp.eqB, bytes_toList, Bool.and_true]
    by_cases h : x = y <;> simp [h]
  | .unit, x, y, _ => rfl
  | .pair a b, x, y, h => by
    simp only [Tp.flatB, Bool.and_eq_true] at h
    simp only [enc, Tp.eqB]
    rw [eqL_append _ _ _ _ (by rw [enc_len, enc_len]), eqL_enc a _ _ h.1, eqL_enc b _ _ h.2]
  | .sl _, _, _, h => by cases h
  | .opt _, _, _, h => by cases h
  | .q, _, _, h => by cases h
theorem eqs_of {P : Program} {t : TypeId} (r : Tp) (hfl : r.flatB = true) (hg : P.eqGuardType P.depth t = false) (hu : P.underlying t = some (.struct (P.fieldsOf t))) (hp : P.stoodInHeld t = false) (l : List (Bool × TypeId × Nat)) (hl : ((P.fieldsOf t).toList.map fun f => (f.name == "_", f.type, f.offset)) = l)
    (h : ∀ x y : r.D, EqFs P l 0 (enc r x) (enc r y)) : r.flatB = true ∧ P.eqGuardType P.depth t = false ∧ ∀ w (x y : r.D), (Op.equalIn 10000 t (.agg ((enc r x).map litOf).toArray) (.agg ((enc r y).map litOf).toArray)).run P w = .ok (r.eqB x y) w := by
  refine ⟨hfl, hg, fun w x y => ?_⟩
  rw [run_equalIn_agg w 9999 t _ _ hu hp, ← eqL_enc r x y hfl]
  refine eqF_ok 9998 w _ 0 _ _ (hl ▸ h x y) (fun j p hp => ?_) (fun j p hp => ?_)
  · simp [hp]
  · simp [hp]
/-! ### structs in structs -/
def partVal (r : Tp) (x : r.D) (agg : Bool) : Value := bif agg then .agg ((enc r x).map litOf).toArray else litV r x
structure FEq (P : Program) (d : Nat) (f : Bool × TypeId × Nat) (i : Nat) (agg : Bool) (r : Tp) : Prop where
  name : f.1 = false
  off : f.2.2 = i
  und : ∃ desc, P.underlying f.2.1 = some desc ∧ TypeDesc.isAgg desc = agg
  size : agg = true → ∃ inf, P.info? f.2.1 = some inf ∧ inf.size = r.w
  one : agg = false → ∀ x : r.D, ∃ p, enc r x = [p]
  eq : ∀ w (x y : r.D), (Op.equalIn d f.2.1 (partVal r x agg) (partVal r y agg)).run P w = .ok (r.eqB x y) w
def FEqs (P : Program) (d : Nat) : List (Bool × TypeId × Nat) → Nat → List (Bool × Tp) → Prop
  | [], _, [] => True
  | f :: fs, i, (agg, r) :: rs => FEq P d f i agg r ∧ FEqs P d fs (i + r.w) rs
  | _, _, _ => False
@[reducible] def tpOf : List (Bool × Tp) → Tp
  | [] => .unit
  | [(_, r)] => r
  | (_, r) :: a :: l => .pair r (tpOf (a :: l))
theorem feq_int {P : Program} {d t i : Nat} {k : IntKind} (hu : P.underlying t = some (.int k)) : FEq P (d + 1) (false, t, i) i false (.int k) :=
  ⟨rfl, rfl, ⟨_, hu, rfl⟩, nofun, fun _ x => ⟨_, rfl⟩, fun w x y => by
    show (Op.equalIn (d + 1) t (.int k x) (.int k y)).run P w = .ok (decide (x = y)) w
    rw [run_equalIn_int w d t k k x y hu, decInt]⟩
theorem feq_bool {P : Program} {d t i : Nat} (hu : P.underlying t = some .bool) : FEq P (d + 1) (false, t, i) i false .bool :=
  ⟨rfl, rfl, ⟨_, hu, rfl⟩, nofun, fun _ x => ⟨_, rfl⟩, fun w x y => run_equalIn_bool' w d t x y hu⟩
theorem feq_str {P : Program} {d t i : Nat} (hu : P.underlying t = some .string) : FEq P (d + 1) (false, t, i) i false .str :=
  ⟨rfl, rfl, ⟨_, hu, rfl⟩, nofun, fun _ x => ⟨_, rfl⟩, fun w x y => by
    show (Op.equalIn (d + 1) t (.string (bytes x)) (.string (bytes y))).run P w = .ok (decide (x = y)) w
    rw [run_equalIn_string w d t _ _ hu, bytes_toList, bytes_toList, decStr]⟩
theorem feq_struct {P : Program} {d t i : Nat} {r : Tp} {fields : Array Field} (hu : P.underlying t = some (.struct fields)) (hs : ∃ inf, P.info? t = some inf ∧ inf.size = r.w) (h : ∀ w (x y : r.D), (Op.equalIn d t (.agg ((enc r x).map litOf).toArray) (.agg ((enc r y).map litOf).toArray)).run P w = .ok (r.eqB x y) w) : FEq P d (false, t, i) i true r :=
  ⟨rfl, rfl, ⟨_, hu, rfl⟩, fun _ => hs, nofun, h⟩
theorem part_run {P : Program} {d : Nat} {f : Bool × TypeId × Nat} {i : Nat} {agg : Bool} {r : Tp} (h : FEq P d f i agg r) (x : r.D) (xs : Array Value) (hx : ∀ j p, (enc r x)[j]? = some p → xs[i + j]? = some (litOf p)) (w : World) : (part f.2.1 xs f.2.2).run P w = .ok (partVal r x agg) w := by
  obtain ⟨desc, hu, hagg⟩ := h.und
  rw [h.off]
  cases agg with
  | false =>
    obtain ⟨p, hp⟩ := h.one rfl x
    have h0 := hx 0 p (by rw [hp]; rfl)
    have e : partVal r x false = litOf p := by show litV r x = _; unfold litV; rw [hp]
    rw [Nat.add_zero] at h0
    simp [Go.part, isAgg_run hu, hagg, h0, e]
  | true =>
    obtain ⟨inf, hi, hsz⟩ := h.size rfl
    have e : xs.extract i (i + inf.size) = ((enc r x).map litOf).toArray := by
      apply Array.ext'
      apply List.ext_getElem?
      intro j
      rw [Array.toList_extract]
      simp only [List.extract_eq_take_drop, List.getElem?_take, List.getElem?_drop, Array.getElem?_toList, List.getElem?_map]
      by_cases hj : j < (enc r x).length
      · rw [if_pos (by rw [enc_len] at hj; omega), List.getElem?_eq_getElem hj]
        exact hx j _ (List.getElem?_eq_getElem hj)
      · rw [if_neg (by rw [enc_len] at hj; omega), List.getElem?_eq_none (by omega)]; rfl
    simp [Go.part, isAgg_run hu, hagg, sizeOf, typeInfo, hi, e, partVal]
theorem eqFN_ok {P : Program} {xs ys : Array Value} (d : Nat) (w : World) : ∀ (fs : List Field) (i : Nat) (rs : List (Bool × Tp)), FEqs P d (fs.map fun f => (f.name == "_", f.type, f.offset)) i rs →
    ∀ x y : (tpOf rs).D, (∀ j p, (enc (tpOf rs) x)[j]? = some p → xs[i + j]? = some (litOf p)) → (∀ j p, (enc (tpOf rs) y)[j]? = some p → ys[i + j]? = some (litOf p)) → (Op.eqFields d xs ys fs).run P w = .ok ((tpOf rs).eqB x y) w
  | [], i, [], _, _, _, _, _ => rfl
  | [], i, _ :: _, h, _, _, _, _ => h.elim
  | f :: fs, i, [], h, _, _, _, _ => h.elim
  | f :: fs, i, (agg, r) :: rs, h, x, y, hx, hy => by
    obtain ⟨h1, h2⟩ := h
    have hn : f.name ≠ "_" := by simpa using h1.name
    have main : ∀ (a b : r.D) (q : Bool), (∀ j p, (enc r a)[j]? = some p → xs[i + j]? = some (litOf p)) → (∀ j p, (enc r b)[j]? = some p → ys[i + j]? = some (litOf p)) → (Op.eqFields d xs ys fs).run P w = .ok q w → (Op.eqFields d xs ys (f :: fs)).run P w = .ok (r.eqB a b && q) w := fun a b q ha hb hq => by
      have p1 := part_run h1 a xs ha w
      have p2 := part_run h1 b ys hb w
      have p3 := h1.eq w a b
      simp only at p1 p2 p3
      simp only [Op.eqFields, if_pos hn, Sem.run_bind, p1, p2, Result.andThen_ok, p3]
      cases he : r.eqB a b with
      | false => simp
      | true => simp [hq]
    cases rs with
    | nil =>
      have hq : (Op.eqFields d xs ys fs).run P w = .ok true w := by
        cases fs with
        | nil => rfl
        | cons _ _ => exact h2.elim
      have := main x y true hx hy hq
      rw [Bool.and_true] at this
      exact this
    | cons a l =>
      have ih := eqFN_ok d w fs (i + r.w) (a :: l) h2 x.2 y.2 (fun j p hp => by
        have := hx (r.w + j) p (by show (enc r x.1 ++ enc (tpOf (a :: l)) x.2)[_]? = _; rw [List.getElem?_append_right (by rw [enc_len]; omega), enc_len, Nat.add_sub_cancel_left]; exact hp)
        rw [Nat.add_assoc]; exact this) (fun j p hp => by
        have := hy (r.w + j) p (by show (enc r y.1 ++ enc (tpOf (a :: l)) y.2)[_]? = _; rw [List.getElem?_append_right (by rw [enc_len]; omega), enc_len, Nat.add_sub_cancel_left]; exact hp)
        rw [Nat.add_assoc]; exact this)
      exact main x.1 y.1 _ (fun j p hp => hx j p (by show (enc r x.1 ++ enc (tpOf (a :: l)) x.2)[_]? = _; rw [List.getElem?_append_left (List.getElem?_eq_some_iff.1 hp).1]; exact hp)) (fun j p hp => hy j p (by show (enc r y.1 ++ enc (tpOf (a :: l)) y.2)[_]? = _; rw [List.getElem?_append_left (List.getElem?_eq_some_iff.1 hp).1]; exact hp)) ih
theorem eqsN {P : Program} (d : Nat) {t : TypeId} (rs : List (Bool × Tp)) (hu : P.underlying t = some (.struct (P.fieldsOf t))) (hp : P.stoodInHeld t = false) (l : List (Bool × TypeId × Nat)) (hl : ((P.fieldsOf t).toList.map fun f => (f.name == "_", f.type, f.offset)) = l) (h : FEqs P d l 0 rs) :
    ∀ w (x y : (tpOf rs).D), (Op.equalIn (d + 1) t (.agg ((enc (tpOf rs) x).map litOf).toArray) (.agg ((enc (tpOf rs) y).map litOf).toArray)).run P w = .ok ((tpOf rs).eqB x y) w := fun w x y => by
  rw [run_equalIn_agg w d t _ _ hu hp]
  refine eqFN_ok d w _ 0 rs (hl ▸ h) x y (fun j p hp => ?_) (fun j p hp => ?_)
  · simp [hp]
  · simp [hp]
end Go.Proofs.Ytlhkdngkjodgiaa
