/- The engine: maps of one's own, whose entries lead nowhere. -/
import Derived.Test.YtcjbjmbialienaaGreatDoorKD
import Derived.MapKept
set_option linter.unusedSimpArgs false
set_option linter.unusedVariables false
namespace Go.Proofs.YtcjbjmbialienaaGreatDoor
open Go.RowKit
theorem jsk (x y : ByteArray) : (x == y) = (x.data == y.data) := by cases x; cases y; rfl
theorem jd5 {P : Program} {K : TypeId} {kt : Tp} (hK : jbh P K kt) : ∃ d, P.underlying K = some d ∧ (∀ x : kt.D, MapKept.IsKey d (litV kt x)) ∧ ∀ x y : kt.D, Instr.sameNow d (litV kt x) (litV kt y) = some (kt.eqB x y) := by
 cases kt with
 | int k => exact ⟨_, hK, fun x => rfl, fun x y => by show (if k = k then some (x == y) else none) = some (decide (x = y)); rw [if_pos rfl]; exact congrArg some (jaZ x y)⟩
 | str => exact ⟨_, hK, fun x => True.intro, fun x y => by
   show some (bytes x == bytes y) = some (decide (x = y))
   refine congrArg some ?_
   rw [jsk]
   by_cases e : x = y
   ·subst e; rw [decide_eq_true rfl]; simp
   ·rw [decide_eq_false e]
    cases hb : ((bytes x).data == (bytes y).data) with
    | false => rfl
    | true =>
     have h := eq_of_beq hb
     have : bytes x = bytes y := by cases hx : bytes x; cases hy : bytes y; rw [hx, hy] at h; simpa using h
     exact absurd (bytes_inj.1 this) e⟩
 | _ => exact hK.elim
theorem jmG {P : Program} {K : TypeId} {kt : Tp} (hK : jbh P K kt) {x y : kt.D} (h : kt.eqB x y = true) : x = y := by
 cases kt with
 | int k => exact of_decide_eq_true h
 | str => exact of_decide_eq_true h
 | _ => exact hK.elim
def js (kt vt : Tp) (x : kt.D) : List (kt.D × vt.D) → Nat → Option (Nat × vt.D)
 | [], _ => none
 | e :: l, i => bif kt.eqB x e.1 then some (i, e.2) else js kt vt x l (i + 1)
theorem jd9 (kt vt : Tp) (x : kt.D) : ∀ (es : List (kt.D × vt.D)) (i : Nat), mget kt vt es x = (js kt vt x es i).map (·.2)
 | [], i => rfl
 | e :: l, i => by
  have ih := jd9 kt vt x l (i + 1)
  unfold mget at ih ⊢
  unfold js
  rw [List.find?_cons]
  cases kt.eqB x e.1 with
  | true => rfl
  | false => exact ih
theorem jju (kt vt : Tp) (x : kt.D) (v : vt.D) : ∀ (es : List (kt.D × vt.D)) (i : Nat), match js kt vt x es i with
  | some p => ∃ j, p.1 = i + j ∧ j < es.length ∧ (∃ e, es[j]? = some e ∧ kt.eqB x e.1 = true) ∧ mput kt vt es x v = es.set j (x, v)
  | none => mput kt vt es x v = es ++ [(x, v)]
 | [], i => rfl
 | e :: l, i => by
  have ih := jju kt vt x v l (i + 1)
  unfold js mput
  cases hq : kt.eqB x e.1 with
  | true => exact ⟨0, rfl, by simp, ⟨e, rfl, hq⟩, rfl⟩
  | false =>
   simp only [cond_false]
   cases hf : js kt vt x l (i + 1) with
   | none => rw [hf] at ih; simp only at ih ⊢; rw [ih]; rfl
   | some p =>
    rw [hf] at ih
    obtain ⟨j, h1, h2, ⟨e', h3, h4⟩, h5⟩ := ih
    exact ⟨j + 1, by omega, by simp; omega, ⟨e', by simpa using h3, h4⟩, by rw [h5]; rfl⟩
theorem jdB {kt : Tp} {d : TypeDesc} (hd : ∀ x y : kt.D, Instr.sameNow d (litV kt x) (litV kt y) = some (kt.eqB x y)) {vt : Tp} (x : kt.D) : ∀ (ents : List MapEntry) (es : List (kt.D × vt.D)) (i : Nat), ents.map (fun e => (e.key, e.val)) = es.map (fun x => (litV kt x.1, litV vt x.2)) →
  Instr.findNow d (litV kt x) ents i = some ((js kt vt x es i).map fun p => (p.1, litV vt p.2))
 | [], [], i, _ => rfl
 | [], _ :: _, i, h => by cases h
 | _ :: _, [], i, h => by cases h
 | e :: ents, y :: es, i, h => by
  simp only [List.map_cons, List.cons.injEq, Prod.mk.injEq] at h
  obtain ⟨⟨h1, h2⟩, h3⟩ := h
  unfold js
  simp only [Instr.findNow, h1, hd]
  cases hq : kt.eqB x y.1 with
  | true => simp [h2]
  | false =>
   simp only [cond_false]
   exact jdB hd x ents es (i + 1) h3
section
variable {E : Env} {o : Oper} {s : LSt} {e : Eff} {fp : FP}
theorem jgL {kt vt : Tp} {x : AV} {f : Nat → List (kt.D × vt.D) → RD} (h : (withMap kt vt x f).R s [] [] e fp) : ∃ k q es, x = .box k q ∧ mapName k = true ∧ lookB s.B k = some ⟨false, [.pv (.sl (.pair kt vt)) es]⟩ ∧ (f k es).R s [k] [] e fp := by
 unfold withMap at h
 split at h
 case h_2 => exact h.elim
 rename_i k q
 split at h
 case isFalse => exact h.elim
 rename_i hk
 simp only [RD.R] at h
 split at h
 case h_2 => exact h.elim
 rename_i t es hb
 split at h
 case isFalse => exact h.elim
 rename_i ht
 subst ht
 exact ⟨k, q, es, rfl, hk, hb, h⟩
theorem jjC {R : Root} {box : Nat → Option BS} {tok : Nat → Option TS} {β : Nat → Nat} {τ : Nat → Value} {F : Nat → Nat → Prop} {S : Stab} {w : World} (hM : Mem R box tok β τ F S w) {k : Nat} (hk : mapName k = true) {kt vt : Tp} {es : List (kt.D × vt.D)} {fz : Bool} (hb : box k = some ⟨fz, [.pv (.sl (.pair kt vt)) es]⟩) :
  ∃ ents clk, w.heap[β k]? = some (.map ents clk) ∧ ents.toList.map (fun e => (e.key, e.val)) = es.map fun x => (litV kt x.1, litV vt x.2) := by
 rcases (hM.boxes k _ hb).2.2.2 with ⟨h, _⟩ | ⟨_, kt', vt', es', ents, clk, h1, h2, h3⟩
 ·rw [hk] at h; cases h
 ·rcases h1 with h1 | h1
  ·cases h1
   exact ⟨ents, clk, h2, h3⟩
  ·cases h1
theorem jb5 {c : Ctx} {x : AV} {v : Value} {t : Tp} {y : t.D} (hx : x.as t = some y) (h : V3 c x v) {z : t.D} (ht : zeroT t = some z) : v = litV t y ∧ enc t y = [match enc t y with | [p] => p | _ => .bool false] ∧ ∀ p, enc t y = [p] → p.isLit = true := by
 obtain ⟨p, h1, h2⟩ := jF hx h
 have hl : p.isLit = true := by
  cases t with
  | bool => cases h1; rfl
  | int _ => cases h1; rfl
  | str => cases h1; rfl
  | _ => cases ht
 refine ⟨?_, by rw [h1], fun q hq => by rw [h1] at hq; cases hq; exact hl⟩
 unfold litV
 rw [h1]
 exact rep_litV h2 hl
theorem jjb (c : Ctx) {t : Tp} {z : t.D} (ht : zeroT t = some z) (y : t.D) : V3 c (.pv t y) (litV t y) := by
 cases t with
 | bool => exact ⟨_, rfl, Rep.ofLit (p := .bool y) rfl⟩
 | int k => exact ⟨_, rfl, Rep.ofLit (p := .int k y) rfl⟩
 | str => exact ⟨_, rfl, Rep.ofLit (p := .str (bytes y)) rfl⟩
 | _ => cases ht
theorem joD (c : Ctx) {t : Tp} {z : t.D} (ht : zeroT t = some z) (y : t.D) : V2 c (.pv t y) (litV t y) := jjb c ht y
theorem jdL {P : Program} {K : TypeId} {kt : Tp} (hK : jbh P K kt) : ∃ z, zeroT kt = some z := by
 cases kt with
 | int _ => exact ⟨_, rfl⟩
 | str => exact ⟨_, rfl⟩
 | _ => exact hK.elim
theorem jof (hE : EnvOk E) (T : TypeId) (x i : Operand) (ok : Bool) (ho : o.op = .lookup T x i ok) (h : (lookupRD E T (s.ev x) (s.ev i) ok).R s [] [] e fp) : Sim E o s e := by
 simp only [lookupRD] at h
 split at h
 case h_2 => exact h.elim
 rename_i ty hty
 split at h
 case h_2 => exact h.elim
 rename_i K V kt vt hmp
 obtain ⟨k, q, es, hx, hk, hb, h⟩ := jgL h
 obtain ⟨key, hkey, z, hz, h⟩ := h
 obtain ⟨hu, hK, iV, z', hi, hz', hzero⟩ := (hE.ty T ty hty).mp K V kt vt hmp
 rw [hz] at hz'; cases hz'
 obtain ⟨d, hd, hisk, hsame⟩ := jd5 hK
 obtain ⟨zk, hzk⟩ := jdL hK
 have run : ∀ R β τ F S (a : Act) w, Mem R (lookB s.B) (lookT s.T) β τ F S w → (∀ y, V3 (s.ctx w S β τ) (s.ev y) (a.eval y)) → (Instr.lookup T (a.eval x) (a.eval i) ok).run E.P w = .ok (if ok then .tuple #[litV vt ((mget kt vt es key).getD z), .bool (mget kt vt es key).isSome] else litV vt ((mget kt vt es key).getD z)) w := fun R β τ F S a w hM hev => by
  have h1 := hev x
  rw [hx] at h1
  have hp : a.eval x = .map (some (β k)) := h1.2.trans (refV_map hk)
  have hkv : a.eval i = litV kt key := (jb5 hkey (hev i) hzk).1
  obtain ⟨ents, clk, g1, g2⟩ := jjC hM hk hb
  have hf := MapKept.run_findKey (w := w) hd (jdB hsame key ents.toList es 0 g2)
  have hc := MapKept.run_checkKey (w := w) hd (hisk key) ents.isEmpty 9999
  rw [jd9 kt vt key es 0]
  cases hm : js kt vt key es 0 with
  | none =>
   rw [hm] at hf
   cases ok <;> simp [Instr.lookup, run_underlying hu, hp, hkv, MapKept.run_getObj_map g1, hc, hf, zeroValue, typeInfo, hi, hzero]
  | some p =>
   rw [hm] at hf
   cases ok <;> simp [Instr.lookup, run_underlying hu, hp, hkv, MapKept.run_getObj_map g1, hc, hf]
 cases ok with
 | true =>
  cases val_R h
  refine sim_look fun R β τ F S a w hM hev => ⟨.tuple #[litV vt ((mget kt vt es key).getD z), .bool (mget kt vt es key).isSome], ?_, ?_⟩
  ·have := run R β τ F S a w hM hev
   simp [execOp, ho, this]
  ·exact ⟨[litV vt ((mget kt vt es key).getD z), .bool (mget kt vt es key).isSome], rfl, joD _ hz _, mk_bool _ _, True.intro⟩
 | false =>
  cases val_R h
  refine sim_look fun R β τ F S a w hM hev => ⟨litV vt ((mget kt vt es key).getD z), ?_, jjb _ hz _⟩
  have := run R β τ F S a w hM hev
  simp [execOp, ho, this]
theorem jjc {w : World} {r r' : Nat} {o o' : Obj} (h : w.heap[r]? = some o) : (w.heap.setIfInBounds r o')[r']? = if r' = r then some o' else w.heap[r']? := by
 obtain ⟨h1, h2⟩ := MapKept.heap_set (o' := o') h
 by_cases e : r' = r
 ·subst e; rw [if_pos rfl]; exact h1
 ·rw [if_neg e]; exact h2 r' e
theorem Mem.setMap {R : Root} {w : World} {S : Stab} {box : Nat → Option BS} {tok : Nat → Option TS} {β : Nat → Nat} {τ : Nat → Value} {F : Nat → Nat → Prop} (h : Mem R box tok β τ F S w) (d : Nat) (hmd : mapName d = true) {kt vt : Tp} {es es' : List (kt.D × vt.D)} (hd : box d = some ⟨false, [.pv (.sl (.pair kt vt)) es]⟩) {o0 : Obj} (h0 : w.heap[β d]? = some o0) (ents : Array MapEntry) (clk : Nat)
  (he : ents.toList.map (fun e => (e.key, e.val)) = es'.map fun x => (litV kt x.1, litV vt x.2)) :
  Mem R (updB box d ⟨false, [.pv (.sl (.pair kt vt)) es']⟩) tok β τ F S { w with heap := w.heap.setIfInBounds (β d) (.map ents clk) } ∧ Ctx.Le ⟨w, S, fun k => box k ≠ none, β, tok, τ⟩ ⟨{ w with heap := w.heap.setIfInBounds (β d) (.map ents clk) }, S, fun k => updB box d ⟨false, [.pv (.sl (.pair kt vt)) es']⟩ k ≠ none, β, tok, τ⟩ := by
 obtain ⟨w', hw'⟩ : ∃ w', w' = { w with heap := w.heap.setIfInBounds (β d) (.map ents clk) } := ⟨_, rfl⟩
 rw [← hw']
 obtain ⟨d1, d2, _, _⟩ := h.boxes d _ hd
 have d2 := d2 rfl
 have hsame : ∀ k, k ≠ β d → w'.heap[k]? = w.heap[k]? := fun k hk => by rw [hw']; show (w.heap.setIfInBounds _ _)[k]? = _; rw [jjc h0, if_neg hk]
 have hnew : w'.heap[β d]? = some (.map ents clk) := by rw [hw']; show (w.heap.setIfInBounds _ _)[_]? = _; rw [jjc h0, if_pos rfl]
 have hsize : w'.heap.size = w.heap.size := by rw [hw']; simp
 have hos : w'.os = w.os ∧ w'.tape = w.tape ∧ w'.output = w.output := by rw [hw']; exact ⟨rfl, rfl, rfl⟩
 have hcell : ∀ b o, S b o → w'.cell? ⟨b, o, none⟩ = w.cell? ⟨b, o, none⟩ := fun b o hb => World.cell?_of_block (w := w) (hsame b (fun e => d2 o (by rw [← e]; exact hb)))
 have hle : Ctx.Le ⟨w, S, fun k => box k ≠ none, β, tok, τ⟩ ⟨w', S, fun k => updB box d ⟨false, [.pv (.sl (.pair kt vt)) es']⟩ k ≠ none, β, tok, τ⟩ := ⟨fun _ _ h => h, hcell⟩
 have lift : ∀ x v, V1c ⟨w, S, fun k => box k ≠ none, β, tok, τ⟩ x v → V1c ⟨w', S, fun k => updB box d ⟨false, [.pv (.sl (.pair kt vt)) es']⟩ k ≠ none, β, tok, τ⟩ x v := fun x v hx =>
  ⟨hx.1.mono hle (fun k hk => ⟨by simp only [updB]; split <;> first | exact hk | simp, rfl⟩) (TokLe.refl rfl rfl), hx.2⟩
 have conv : ∀ {k : Nat} {b : BS}, updB box d ⟨false, [.pv (.sl (.pair kt vt)) es']⟩ k = some b → ∃ b', box k = some b' := fun {k b} hk => by
  by_cases e : k = d
  ·exact ⟨_, e ▸ hd⟩
  ·simp only [updB, e, if_false] at hk; exact ⟨b, hk⟩
 have hu : Upd (fun k => k = β d) w w' := ⟨hos.1, hos.2.1, hos.2.2, by rw [hsize]; exact Nat.le_refl _, fun k hk hn => hsame k hn⟩
 have hstep : Step (fun k => k = β d) S S w w' := ⟨hu, hcell, fun _ _ h => h, fun _ _ h => .inl h, fun b o hb => by rw [hsize]; exact h.lt b o hb⟩
 refine ⟨⟨?_, h.old, h.new, fun b o h0 => (hcell b o (h.old b o h0)).trans (h.keep b o h0), fun b o hb => by rw [hsize]; exact h.lt b o hb, fun k b hk => ?_, fun k k' b b' hk hk' e => ?_, fun t tk ht => ?_, h.tdis, fun t tk k b ht hk => ?_, fun k b hb hk => ?_, h.tfix, fun n tk hs' i o d hn htr hin => ⟨(h.hol n tk hs' i o d hn htr hin).1, fun td hd => ?_⟩⟩, hle⟩
 ·refine h.upd.on hu (fun k e hk => ?_)
  subst e
  rcases d1 with d1 | d1
  ·omega
  ·exact d1
 ·by_cases e : k = d
  ·subst e
   simp [updB] at hk; subst hk
   exact ⟨d1, fun _ => d2, (fun h => by cases h), .inr ⟨hmd, kt, vt, es', ents, clk, .inl rfl, hnew, he⟩⟩
  ·simp only [updB, e, if_false] at hk
   obtain ⟨h1, h2, h2', hB⟩ := h.boxes k b hk
   exact ⟨h1, h2, h2', hB.imp (hsame _ (fun hh => e (h.binj k d b _ hk hd hh))) lift⟩
 ·obtain ⟨es, hk1⟩ := conv hk
  obtain ⟨es', hk2⟩ := conv hk'
  exact h.binj k k' es es' hk1 hk2 e
 ·exact (h.toks t tk ht).step hstep fun b hF e => h.tbox t tk d _ ht hd (e ▸ hF)
 ·obtain ⟨b', hk'⟩ := conv hk
  exact h.tbox t tk k b' ht hk'
 ·refine h.bfix k b hb (fun e => hk ?_)
  by_cases e' : k = d
  ·rw [e', hd] at e; cases e
  ·simp only [updB, e', if_false]; exact e
 ·obtain ⟨b, l, cap, e1, e2⟩ := (h.hol n tk hs' i o d hn htr hin).2 td hd
  have hF := (h.toks n tk hn).block e1
  exact ⟨b, l, cap, e1, (World.cell?_of_block (w := w) (hsame b (fun e => h.tbox n tk _ _ hn ‹_› (e ▸ hF)))).trans e2⟩
theorem jpw (hE : EnvOk E) (T : TypeId) (x i y : Operand) (ho : o.op = .mapUpdate T x i y) (h : (opRD E o.op o.dst s.ev).R s [] [] e fp) : Sim E o s e := by
 rw [ho] at h
 simp only [opRD, mapUpdateRD] at h
 split at h
 case h_2 => exact h.elim
 rename_i ty hty hdst
 split at h
 case h_2 => exact h.elim
 rename_i K V kt vt hmp
 obtain ⟨k, q, es, hx, hk, hb, h⟩ := jgL h
 obtain ⟨key, hkey, v, hv, rfl, _⟩ := h
 obtain ⟨hu, hK, iV, z, hi, hz, hzero⟩ := (hE.ty T ty hty).mp K V kt vt hmp
 obtain ⟨d, hd, hisk, hsame⟩ := jd5 hK
 obtain ⟨zk, hzk⟩ := jdL hK
 rintro R a w hR0 ⟨β, τ, F, S, hM, hn, hdf, hs⟩ Kc Q hKc
 have hev := V3_ev hs
 have h1 := hev x
 rw [hx] at h1
 have hp : a.eval x = .map (some (β k)) := h1.2.trans (refV_map hk)
 have hkv : a.eval i = litV kt key := (jb5 hkey (hev i) hzk).1
 have hvv : a.eval y = litV vt v := (jb5 hv (hev y) hz).1
 obtain ⟨ents, clk, g1, g2⟩ := jjC hM hk hb
 have hf := MapKept.run_findKey (w := w) hd (jdB hsame key ents.toList es 0 g2)
 have hc := MapKept.run_checkKey (w := w) hd (hisk key) false 9999
 have hput := jju kt vt key v es 0
 have fin : ∀ (ents' : Array MapEntry) (clk' : Nat), ents'.toList.map (fun e => (e.key, e.val)) = (mput kt vt es key v).map (fun x => (litV kt x.1, litV vt x.2)) → (execOp a.eval o).run E.P w = .ok .skip { w with heap := w.heap.setIfInBounds (β k) (.map ents' clk') } → o.wp E.P a w Kc Q := fun ents' clk' he hr => by
  obtain ⟨hM', hle⟩ := hM.setMap k hk hb g1 ents' clk' he
  refine wp_skip' hr (hKc _ _ (rel_put (e := ⟨.tup [], [(k, ⟨false, [.pv (.sl (.pair kt vt)) (mput kt vt es key v)]⟩)], []⟩) hM' hn hdf (jy hle (fun j hj => ⟨?_, rfl⟩) (TokLe.refl rfl rfl) hs) o.dst (.inl hdst)))
  show updB (lookB s.B) k _ j ≠ none
  simp only [updB]
  split
  ·simp
  ·exact hj
 cases hm : js kt vt key es 0 with
 | none =>
  rw [hm] at hf hput
  simp only at hput
  refine fin (ents.push ⟨litV kt key, litV vt v, clk⟩) (clk + 1) (by simp [g2, hput]) ?_
  simp [execOp, ho, Instr.mapUpdate, run_underlying hu, hp, hkv, hvv, MapKept.run_getObj_map g1, hc, hf, MapKept.run_setObj_map _ g1]
 | some p =>
  rw [hm] at hf hput
  obtain ⟨j, e1, e2, ⟨en, e3, e4⟩, e5⟩ := hput
  have e1 : p.1 = j := by omega
  have hlen : ents.toList.length = es.length := by have := congrArg List.length g2; simpa using this
  have hjl : j < ents.size := by simp at hlen; omega
  have hej : ents[j]? = some ents[j] := Array.getElem?_eq_getElem hjl
  have hkey' : ents[j].key = litV kt key := by
   have := congrArg (fun l => l[j]?) g2
   simp only [List.getElem?_map, Array.getElem?_toList, hej, e3, Option.map_some, Option.some.injEq, Prod.mk.injEq] at this
   rw [this.1, ← jmG hK e4]
  have hst := MapKept.run_keyThatStays (P := E.P) (w := w) (hisk key)
  refine fin (ents.modify j fun e => { e with key := litV kt key, val := litV vt v }) clk ?_ ?_
  ·rw [e5, List.map_set, ← g2]
   apply List.ext_getElem?
   intro m
   rw [List.getElem?_map, Array.getElem?_toList, Array.getElem?_modify, List.getElem?_set, List.getElem?_map, Array.getElem?_toList]
   by_cases em : j = m
   ·subst em
    simp [hej, hjl, hlen, e2]
   ·simp [em]
  ·simp [execOp, ho, Instr.mapUpdate, run_underlying hu, hp, hkv, hvv, MapKept.run_getObj_map g1, hc, hf, e1, hej, hkey', hst, MapKept.run_setObj_map _ g1]
theorem Mem.nameBox' {R : Root} {w : World} {S : Stab} {box : Nat → Option BS} {tok : Nat → Option TS} {β : Nat → Nat} {τ : Nat → Value} {F : Nat → Nat → Prop} (h : Mem R box tok β τ F S w) (d : Nat) (hd : box d = none) (hbn : R.bn d = none) (k : Nat) (hk : R.fr k) (hS : ∀ o, ¬ S k o) (hne : ∀ j b, box j = some b → β j ≠ k) (hnt : ∀ t tk, tok t = some (.live tk) → ¬ F t k) (cs : List AV)
  (hB : BoxAt ⟨w, S, fun j => updB box d ⟨false, cs⟩ j ≠ none, fun j => if j = d then k else β j, tok, τ⟩ d k cs) :
  Mem R (updB box d ⟨false, cs⟩) tok (fun j => if j = d then k else β j) τ F S w := by
 have lift : ∀ x v, V1c ⟨w, S, fun k => box k ≠ none, β, tok, τ⟩ x v → V1c ⟨w, S, fun j => updB box d ⟨false, cs⟩ j ≠ none, fun j => if j = d then k else β j, tok, τ⟩ x v := fun x v hx =>
  ⟨V1.mono (c := ⟨w, S, fun k => box k ≠ none, β, tok, τ⟩) (c' := ⟨w, S, fun j => updB box d ⟨false, cs⟩ j ≠ none, fun j => if j = d then k else β j, tok, τ⟩) ⟨fun _ _ h => h, fun _ _ _ => rfl⟩ (fun j hj => by
   have hjd : j ≠ d := fun e => hj (e ▸ hd)
   simp only [updB, hjd, if_false]; exact ⟨hj, trivial⟩) (TokLe.refl rfl rfl) hx.1, hx.2⟩
 refine ⟨h.upd, h.old, h.new, h.keep, h.lt, fun j b hj => ?_, fun j j' b b' hj hj' e => ?_, h.toks, h.tdis, fun t tk j b ht hj => ?_, fun j b hb hj => ?_, h.tfix, h.hol⟩
 ·by_cases e : j = d
  ·subst e
   simp [updB] at hj; subst hj
   simp only [if_true]
   exact ⟨hk, fun _ => hS, (fun h => by cases h), hB⟩
  ·simp only [updB, e, if_false] at hj
   obtain ⟨h1, h2, h2', hB⟩ := h.boxes j b hj
   simp only [e, if_false]
   exact ⟨h1, h2, h2', hB.imp rfl lift⟩
 ·by_cases e1 : j = d <;> by_cases e2 : j' = d
  ·rw [e1, e2]
  ·simp only [updB, e1, e2, if_true, if_false] at hj' e
   exact absurd e.symm (hne j' b' hj')
  ·simp only [updB, e1, e2, if_true, if_false] at hj e
   exact absurd e (hne j b hj)
  ·simp only [updB, e1, e2, if_false] at hj hj' e
   exact h.binj j j' b b' hj hj' e
 ·by_cases e1 : j = d
  ·simp only [e1, if_true]; exact hnt t tk ht
  ·simp only [updB, e1, if_false] at hj ⊢
   exact h.tbox t tk j b ht hj
 ·by_cases e1 : j = d
  ·subst e1; rw [hbn] at hb; cases hb
  ·simp only [updB, e1, if_false] at hj ⊢
   exact h.bfix j b hb hj
theorem jpA (T : TypeId) (ho : o.op = .makeMap T none) (h : (opRD E o.op o.dst s.ev).R s [] [] e fp) : Sim E o s e := by
 rw [ho] at h
 simp only [opRD, makeMapRD] at h
 split at h
 case h_2 => exact h.elim
 rename_i d ty hdst hty
 split at h
 case h_2 => exact h.elim
 rename_i K V kt vt hmp
 split at h
 case isFalse => exact h.elim
 rename_i hmn
 simp only [RD.R] at h
 split at h
 case h_2 => exact h.elim
 rename_i hd
 split at h
 ·exact h.elim
 rename_i hres
 obtain ⟨rfl, _⟩ := h
 generalize 1000000000 + d = dm at *
 rintro R a w hR0 ⟨β, τ, F, S, hM, hn, hdf, hs⟩ Kc Q hKc
 have hb : Below w.heap.size w (w.alloc (.map #[] 0)) := (Below.refl _ _).alloc (Nat.le_refl _) _
 have hg := hM.grow (S' := S) hb (fun _ _ h => h) (fun _ _ h => .inl h) (fun b o h1 => by have := hM.lt b o h1; simp; omega)
 have hM' := hg.nameBox' dm hd (hR0.bn (by simpa using hres)) w.heap.size (.inl hM.size) (fun o ho => by have := hM.lt _ _ ho; omega) (fun j b hj e => by have := hM.blt hj; omega) (fun t tk ht hF => by have := ((hM.toks t tk ht).1 _ hF).2; omega) [.pv (.sl (.pair kt vt)) ([] : List (kt.D × vt.D))]
  (.inr ⟨hmn, kt, vt, [], #[], 0, .inl rfl, heap_alloc_new w _, rfl⟩)
 have hr : (execOp a.eval o).run E.P w = .ok (.value (.map (some w.heap.size))) (w.alloc (.map #[] 0)) := by
  simp [execOp, ho, Instr.makeMap, newObj]
  rfl
 refine wp_value hr (hKc _ _ (rel_put (e := ⟨.box dm 0, [(dm, ⟨false, [.pv (.sl (.pair kt vt)) ([] : List (kt.D × vt.D))]⟩)], []⟩) hM' hn hdf (jy (jdn hb hM.lt (fun _ _ h => h) _ _ _ _ _) (fun k hk => ?_) (TokLe.refl rfl rfl) hs) o.dst (.inr ⟨?_, by simp [refV_map hmn]⟩)))
 ·have hkd : k ≠ dm := fun e => hk (e ▸ hd)
  show updB (lookB s.B) dm _ k ≠ none ∧ (if k = dm then _ else β k) = β k
  simp only [updB, hkd, if_false]
  exact ⟨hk, trivial⟩
 ·show updB (lookB s.B) dm _ dm ≠ none
  simp [updB]
end
end Go.Proofs.YtcjbjmbialienaaGreatDoor
