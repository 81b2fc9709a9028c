/- The engine, ninth part: operations that make or write memory. -/
import Derived.Test.YtcjbjmbialienaaGreatDoorK8
set_option linter.unusedSimpArgs false
set_option linter.unusedVariables false
namespace Go.Proofs.YtcjbjmbialienaaGreatDoor
open Go.RowKit
section
variable {E : Env} {o : Oper} {s : LSt} {e : Eff} {fp : FP}
theorem jaV {α : Type} (l m : List α) (off : Nat) (h : off + m.length ≤ l.length) (k : Nat) : (l.take off ++ m ++ l.drop (off + m.length))[k]? = if off ≤ k ∧ k < off + m.length then m[k - off]? else l[k]? := by
 by_cases h1 : k < off
 ·rw [if_neg (by omega), List.append_assoc, List.getElem?_append_left (by simp; omega), List.getElem?_take, if_pos h1]
 ·by_cases h2 : k < off + m.length
  ·rw [if_pos ⟨by omega, h2⟩, List.getElem?_append_left (by simp; omega), List.getElem?_append_right (by simp; omega)]
   simp; congr 1; omega
  ·rw [if_neg (by omega), List.getElem?_append_right (by simp; omega), List.getElem?_drop]
   simp; congr 1; omega
theorem jrA (off : Nat) (l : List Value) (cs : Array Value) (h : off + l.length ≤ cs.size) :
  ((l.zipIdx 0).foldl (fun cs (x : Value × Nat) => cs.setIfInBounds (off + x.2) x.1) cs).toList = cs.toList.take off ++ l ++ cs.toList.drop (off + l.length) := by
 obtain ⟨h1, h2⟩ := Go.Great.foldl_set off l 0 cs
 apply List.ext_getElem?
 intro k
 rw [jaV _ _ _ (by simpa using h)]
 have := h2 k
 rw [← Array.getElem?_toList] at this
 rw [this]
 by_cases hk : off ≤ k ∧ k < off + l.length
 ·rw [if_pos ⟨by omega, by omega, by omega⟩, if_pos hk]; rfl
 ·rw [if_neg hk, if_neg (by omega)]; simp
theorem All2.splice {α β : Type} {P : α → β → Prop} {xs : List α} {ys : List β} (h : All2 P xs ys) {zs : List α} {us : List β} (h' : All2 P zs us) (off : Nat) : All2 P (xs.take off ++ zs ++ xs.drop (off + zs.length)) (ys.take off ++ us ++ ys.drop (off + us.length)) := by
 rw [h'.len]
 exact ((h.take off).append h').append (h.drop _)
theorem jhq {c : Ctx} {a : Act} (hev : ∀ y, V3 c (s.ev y) (a.eval y)) (offs : List (Nat × Nat)) : ∀ (parts : List (Nat × Operand)) (cells : List AV) (vc : Array Value) (cs : List AV), All2 (V1c c) cells vc.toList → fillA offs cells (parts.map fun q => (q.1, s.ev q.2)) = some cs →
  ∃ vs, Instr.fill (offs.toArray[·]?) vc (parts.map fun q => (q.1, a.eval q.2)) = some vs ∧ All2 (V1c c) cs vs.toList
 | [], cells, vc, cs, hc, h => by simp [fillA] at h; subst h; exact ⟨vc, by simp [Instr.fill], hc⟩
 | (i, x) :: rest, cells, vc, cs, hc, h => by
  simp only [List.map_cons, fillA] at h
  cases ho : offs[i]? with
  | none => simp [ho] at h
  | some os =>
   obtain ⟨off, size⟩ := os
   cases hx : (s.ev x).cells? with
   | none => simp [ho, hx] at h
   | some ds =>
    simp only [ho, hx] at h
    split at h
    case isFalse => cases h
    case isTrue hif =>
    obtain ⟨hlen, hle⟩ := hif
    have hv := cells_of hx (hev x)
    have hvl := hv.len
    have hcl := hc.len
    have hs : (a.eval x).cells.size = size := by rw [← hlen, hvl]; simp
    have hin : off + (a.eval x).cells.toList.length ≤ vc.size := by simp at hcl ⊢; omega
    have hsp := jrA off (a.eval x).cells.toList vc hin
    obtain ⟨vs, hf, hvs⟩ := jhq hev offs rest _ ((a.eval x).cells.zipIdx.foldl (fun cs (x : Value × Nat) => cs.setIfInBounds (off + x.2) x.1) vc) cs (by
     rw [← Array.foldl_toList, Array.toList_zipIdx, hsp, ← hlen]
     exact hc.splice hv off) h
    refine ⟨vs, ?_, hvs⟩
    simp only [List.map_cons, Instr.fill]
    have ho' : offs.toArray[i]? = some (off, size) := by simpa using ho
    rw [ho']
    simp only []
    rw [if_neg (by simp at hin ⊢; omega)]
    exact hf
theorem jly (hE : EnvOk E) (T : TypeId) (parts : Array (Nat × Operand)) (ho : o.op = .build T parts) (h : (opRD E o.op o.dst s.ev).R s [] [] e fp) : Sim E o s e := by
 rw [ho] at h
 simp only [opRD] at h
 split at h
 case h_2 => exact h.elim
 rename_i ty hty
 have hT := hE.ty T ty hty
 split at h
 case h_2 => exact h.elim
 rename_i o1 ol cs hoffs hf
 cases val_R h
 refine sim_val fun c a w hw hev => ?_
 obtain ⟨i, z, hi, hsz, hz, hzs, hzr⟩ := hT.info
 obtain ⟨fields, hu, hp⟩ := hT.offs (by rw [hoffs]; simp)
 obtain ⟨vs, hvf, hvs⟩ := jhq hev ty.offs parts.toList ty.zero z.cells cs (hzr c) hf
 have hb : E.P.built T (parts.map fun q => (q.1, a.eval q.2)).toList = some vs := by
  simp only [Program.built, hi, hu, hz, hp, Array.toList_map]
  exact hvf
 refine ⟨.agg vs, ?_, vs.toList, by simp, hvs⟩
 have hr := run_build (P := E.P) w T (parts.map fun q => (q.1, a.eval q.2)) vs hb
 simp only [execOp, ho, Sem.run_bind]
 rw [hr]; rfl
theorem jy {c c' : Ctx} (h : c.Le c') (hb : BoxLe c c') (ht : TokLe c c') {a : Act} (hs : ∀ i, V3 c (getA s.L i) (a.tmps.getD i undef)) : ∀ i, V3 c' (getA s.L i) (a.tmps.getD i undef) := fun i => (hs i).mono h hb ht
theorem jdn {w w' : World} {S S' : Stab} {tok : Nat → Option TS} {β : Nat → Nat} {τ : Nat → Value} (hb : Below w.heap.size w w') (hl : ∀ b o, S b o → b < w.heap.size) (hS : ∀ b o, S b o → S' b o) (live : Nat → Prop) (tok' : Nat → Option TS) (live' : Nat → Prop) (β' : Nat → Nat) (τ' : Nat → Value) :
  Ctx.Le ⟨w, S, live, β, tok, τ⟩ ⟨w', S', live', β', tok', τ'⟩ := ⟨hS, fun b o h => (bcell hb).1 b o (hl b o h)⟩
theorem jeR (d : Nat) (hmd : mapName d = false) (hdst : o.dst = some d) (hd : lookB s.B d = none) (hres : E.res d = false) (cs : List AV) (T : TypeId)
  (h : ∀ c (a : Act) w, c.w = w → (∀ y, V3 c (s.ev y) (a.eval y)) → ∃ vs : List Value, (execOp a.eval o).run E.P w = .ok (.value (.pointer (some ⟨w.heap.size, 0, none⟩))) (w.alloc (.cells vs.toArray T)) ∧ All2 (V1c c) cs vs) : Sim E o s ⟨.box d 0, [(d, ⟨false, cs⟩)], []⟩ := by
 rintro R a w hR0 ⟨β, τ, F, S, hM, hn, hdf, hs⟩ K Q hK
 obtain ⟨vs, hr, hc⟩ := h (s.ctx w S β τ) a w rfl (V3_ev hs)
 have hM' := hM.newBox d hmd hd (hR0.bn hres) T vs cs hc
 have hb : Below w.heap.size w (w.alloc (.cells vs.toArray T)) := (Below.refl _ _).alloc (Nat.le_refl _) _
 refine wp_value hr (hK _ _ (rel_put (e := ⟨.box d 0, [(d, ⟨false, cs⟩)], []⟩) hM' hn hdf (jy (jdn hb hM.lt (fun _ _ h => h) _ _ _ _ _) (fun k hk => ?_) (TokLe.refl rfl rfl) hs) o.dst (.inr ⟨?_, by simp [refV_ptr hmd]⟩)))
 ·have hkd : k ≠ d := fun e => hk (e ▸ hd)
  show updB (lookB s.B) d _ k ≠ none ∧ (if k = d then _ else β k) = β k
  simp only [updB, hkd, if_false]
  exact ⟨hk, trivial⟩
 ·show updB (lookB s.B) d _ d ≠ none
  simp [updB]
theorem jkF (hE : EnvOk E) (T : TypeId) (ho : o.op = .alloc T) (h : (opRD E o.op o.dst s.ev).R s [] [] e fp) : Sim E o s e := by
 rw [ho] at h
 simp only [opRD] at h
 split at h
 case h_2 => exact h.elim
 rename_i d ty hdst hty
 simp only [RD.R] at h
 split at h
 case h_2 => exact h.elim
 rename_i hd
 split at h
 case isTrue => exact h.elim
 rename_i hres
 obtain ⟨rfl, _⟩ := h
 simp only [Bool.or_eq_true, not_or, Bool.not_eq_true] at hres
 exact jeR d hres.2 hdst hd hres.1 ty.zero T fun c a w hw hev => by
  obtain ⟨i, z, hi, hsz, hz, hzs, hzr⟩ := (hE.ty T ty hty).info
  refine ⟨z.cells.toList, ?_, hzr c⟩
  simp [execOp, ho, Instr.alloc, zeroValue, typeInfo, hi, hz, newVar, newRow]
theorem jlo (T : TypeId) (x : Operand) (ho : o.op = .box T x) (h : (opRD E o.op o.dst s.ev).R s [] [] e fp) : Sim E o s e := by
 rw [ho] at h
 simp only [opRD] at h
 split at h
 case h_2 => exact h.elim
 rename_i d ty cs hdst hty hx
 simp only [RD.R] at h
 split at h
 case h_2 => exact h.elim
 rename_i hd
 split at h
 case isFalse => exact h.elim
 rename_i hl
 obtain ⟨rfl, _⟩ := h
 exact jeR d hl.2.2 hdst hd hl.2.1 cs T fun c a w hw hev => by
  refine ⟨(a.eval x).cells.toList, ?_, cells_of hx (hev x)⟩
  simp [execOp, ho, Instr.box, newVar, newRow]
theorem jsJ (hE : EnvOk E) (T : TypeId) (x y : Operand) (ho : o.op = .store T x y) (ty : Ty) (hty : E.ty T = some ty) (k q : Nat) (hmk : mapName k = false) (hx : s.ev x = .box k q) (cs ys : List AV) (hk : lookB s.B k = some ⟨false, cs⟩) (hy : (s.ev y).cells? = some ys) (hn : ys.length = ty.size) (hq : q + ty.size ≤ cs.length) (hdst : o.dst = none) :
  Sim E o s ⟨.tup [], [(k, ⟨false, cs.take q ++ ys ++ cs.drop (q + ty.size)⟩)], []⟩ := by
 rintro R a w hR0 ⟨β, τ, F, S, hM, hsz, hdf, hs⟩ K Q hK
 have hev := V3_ev hs
 have h := hev x
 rw [hx] at h
 have hp : a.eval x = .pointer (some ⟨β k, q, none⟩) := (v3_box hmk h).2
 have hc := cells_of hy (hev y)
 obtain ⟨h1, h2, _, hB⟩ := hM.boxes k _ hk
 obtain ⟨vs, T', h3, h4⟩ := hB.cells hmk
 obtain ⟨i, z, hi, hisz, _⟩ := (hE.ty T ty hty).info
 have hl := hc.len
 have hl4 := h4.len
 simp only at h4 hl4
 have hsp : All2 (V1c (s.ctx w S β τ)) (cs.take q ++ ys ++ cs.drop (q + ty.size)) (vs.take q ++ (a.eval y).cells.toList ++ vs.drop (q + (a.eval y).cells.toList.length)) := by
  rw [← hn]; exact h4.splice hc q
 obtain ⟨hM', hle⟩ := hM.setBox k hmk cs _ hk _ hsp
 have hone : ∀ v ∈ (a.eval y).cells.toList, v.oneCell' = true := fun v hv => by
  obtain ⟨j, hj, rfl⟩ := List.mem_iff_getElem.1 hv
  exact (hc.get' j (ys[j]'(by omega)) _ (by simp) (by simp)).2
 have hst := run_storeCells_at E.P (β k) q T' (a.eval y).cells.toList 0 vs.toArray w h3 (by simp at hl ⊢; omega) hone
 have hr : (execOp a.eval o).run E.P w = .ok .skip (w.setRow (β k) (vs.take q ++ (a.eval y).cells.toList ++ vs.drop (q + (a.eval y).cells.toList.length)).toArray) := by
  have hz : (a.eval y).cells.size = i.size := by rw [hisz, ← hn, hl]; simp
  simp only [Nat.add_zero] at hst
  simp only [execOp, ho, Instr.storeAt, hp, Instr.sureAddr, storeVar, sizeOf, typeInfo, hi, Sem.run_bind, Sem.run_pure, Result.andThen_ok, run_program]
  simp [hi, hz, hst]
 refine wp_skip' hr (hK _ _ (rel_put (e := ⟨.tup [], [(k, ⟨false, cs.take q ++ ys ++ cs.drop (q + ty.size)⟩)], []⟩) hM' hsz hdf (jy hle (fun j hj => ⟨?_, rfl⟩) (TokLe.refl rfl rfl) hs) o.dst (.inl hdst)))
 show updB (lookB s.B) k _ j ≠ none
 simp only [updB]
 split
 ·simp
 ·exact hj
def jd (tok : Nat → Option TS) (l : List Nat) : Nat → Option TS := fun t => if t ∈ l then some .spent else tok t
theorem jo {tok : Nat → Option TS} {l : List Nat} {t : Nat} {tk : Tok} (h : jd tok l t = some (.live tk)) : t ∉ l ∧ tok t = some (.live tk) := by
 unfold jd at h
 split at h
 ·cases h
 ·exact ⟨‹_›, h⟩
theorem jQ {tok : Nat → Option TS} {l : List Nat} {t : Nat} (h : tok t ≠ none) : jd tok l t ≠ none := by
 unfold jd; split
 ·simp
 ·exact h
theorem jcB : ∀ (l : List Nat) (tok : Nat → Option TS), (l.map fun t => (t, some TS.spent)).foldl (fun f x => updT f x.1 x.2) tok = jd tok l
 | [], tok => by funext t; simp [jd]
 | t :: l, tok => by
  simp only [List.map_cons, List.foldl_cons, jcB l]
  funext j
  simp only [jd, updT, List.mem_cons]
  by_cases h1 : j ∈ l <;> by_cases h2 : j = t <;> simp_all
def jD (d : Nat) (tk : Tok) : AV := if tk.wr then .mtk d else .own d tk.t tk.xs
theorem TokOk.cell {Fr : Nat → Prop} {w : World} {S : Stab} {tk : Tok} {v : Value} {F : Nat → Prop} (h : TokOk Fr w S tk v F) : v.oneCell' = true := by
 rcases h.2.1 with ⟨rfl, _⟩ | ⟨_, _, _, _, rfl, _⟩ <;> rfl
theorem jkO {c : Ctx} {Fr : Nat → Prop} {d : Nat} {tk : Tok} {v : Value} {G : Nat → Prop} (h : TokOk Fr c.w c.S tk v G) (ht : c.tok d = some (.live tk)) (hτ : c.τ d = v) : V3 c (jD d tk) v := by
 unfold jD
 cases hw : tk.wr with
 | true => exact ⟨h.cell, by rw [ht]; simp, fun tk' _ => hτ.symm⟩
 | false =>
  refine ⟨h.rep hw, by rw [ht]; simp, fun tk' h' => ?_⟩
  rw [ht] at h'
  cases h'
  exact ⟨hw, hτ.symm, rfl⟩
theorem jak {R : Root} {w w' : World} {S S' : Stab} {a : Act} {β : Nat → Nat} {τ : Nat → Value} {F : Nat → Nat → Prop} (l : List Nat) (hM : Mem R (lookB s.B) (jd (lookT s.T) l) β τ F S' w') (hn : a.tmps.size = s.L.length) (hdf : a.defers = []) (hs : ∀ i, V3 (s.ctx w S β τ) (getA s.L i) (a.tmps.getD i undef))
  (hle : ∀ live tok' live' β' τ', Ctx.Le ⟨w, S, live, β, tok', τ⟩ ⟨w', S', live', β', tok', τ'⟩) (d : Nat) (hd : lookT s.T d = none) (htn : R.tn d = none) (tk : Tok) (v' : Value) (G : Nat → Prop) (hk : TokOk R.fr w' S' tk v' G) (hwh : tk.whole = true) (hG : ∀ t tk' b, t ∉ l → lookT s.T t = some (.live tk') → G b → ¬ F t b) (hGb : ∀ k b, lookB s.B k = some b → ¬ G (β k)) (dst : Option Nat)
  (hdl : d ∉ l) (es : List (Nat × Option TS)) (hes : es = l.map fun t => (t, some TS.spent)) : Rel R (s.app dst ⟨jD d tk, [], es ++ [(d, some (.live tk))]⟩) (a.put dst v') w' := by
 subst hes
 have hd' : jd (lookT s.T) l d = none := by unfold jd; rw [if_neg hdl]; exact hd
 have hM' := hM.newTok d hd' htn tk v' G hk hwh (fun t tk' b ht hg => hG t tk' b (jo ht).1 (jo ht).2 hg) hGb
 have hu : (⟨jD d tk, [], (l.map fun t => (t, some TS.spent)) ++ [(d, some (.live tk))]⟩ : Eff).updT (lookT s.T) = updT (jd (lookT s.T) l) d (some (.live tk)) := by
  simp only [Eff.updT, List.foldl_append, jcB, List.foldl_cons, List.foldl_nil]
 have h1 := hle (fun _ => True) (lookT s.T) (fun _ => True) β τ
 have hs' : ∀ i, V3 ⟨w', S', fun k => lookB s.B k ≠ none, β, updT (jd (lookT s.T) l) d (some (.live tk)), fun t => if t = d then v' else τ t⟩ (getA s.L i) (a.tmps.getD i undef) :=
  jy (c := s.ctx w S β τ) (c' := ⟨w', S', fun k => lookB s.B k ≠ none, β, updT (jd (lookT s.T) l) d (some (.live tk)), fun t => if t = d then v' else τ t⟩) ⟨h1.S, h1.w⟩ (BoxLe.refl rfl rfl) (fun t ht => by
   have e : t ≠ d := fun e => ht (e ▸ hd)
   simp only [updT, e, if_false]
   exact ⟨jQ ht, fun tk' h => ⟨tk', (jo h).2, rfl, rfl, fun hw => ⟨hw, rfl⟩⟩⟩) hs
 exact rel_put (e := ⟨jD d tk, [], (l.map fun t => (t, some TS.spent)) ++ [(d, some (.live tk))]⟩) (by rw [hu]; exact hM') hn hdf (by rw [hu]; exact hs') dst (.inr (jkO (Fr := R.fr) (G := G) hk (by simp only [hu, updT, if_true]) (by simp)))
theorem jds {d : Nat} {r : Tp} {xs : List r.D} {e' : TypeId} {deep : Bool} {es : List (Nat × Option TS)} {rb rt : List Nat} (h : (newTok E d r xs e' deep es).R s rb rt e fp) :
  lookT s.T d = none ∧ (∀ y, y ∈ es → y.1 ≠ d) ∧ E.res d = false ∧ e = ⟨jD d ⟨r, xs, e', E.wr d, deep, none⟩, [], es ++ [(d, some (.live ⟨r, xs, e', E.wr d, deep, none⟩))]⟩ := by
 unfold newTok at h
 simp only [RD.R] at h
 split at h
 ·exact h.elim
 ·rename_i hd
  split at h
  ·exact h.elim
  ·rename_i hc
   simp only [Bool.or_eq_true, not_or, Bool.not_eq_true] at hc
   refine ⟨hd, fun y hy e => ?_, hc.2, ?_⟩
   ·have := List.any_eq_false.1 hc.1 y hy
    simp [e] at this
   ·unfold jD
    split at h
    ·rename_i hw; simp only [hw, if_true]; exact h.1
    ·rename_i hw; simp only [Bool.not_eq_true] at hw; rw [hw]; exact h.1
end
end Go.Proofs.YtcjbjmbialienaaGreatDoor
