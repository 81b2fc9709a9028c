/- The engine, twenty-second part: code. -/
import Derived.Test.YtcjbjmbialienaaGreatDoorK21
set_option linter.unusedSimpArgs false
set_option linter.unusedVariables false
namespace Go.Proofs.YtcjbjmbialienaaGreatDoor
open Go.RowKit
def jba (ops : List Oper) (fps : List FP) : Bool := jde ops fps && jbu ops
theorem jip : ∀ (L : List AV) (t : Nat) (v : AV), getA L t = v → v ≠ .dead → setA L t v = L
 | [], t, v, _, _ => rfl
 | x :: L, 0, v, h, _ => by simp only [getA] at h; subst h; rfl
 | x :: L, t + 1, v, h, hd => by simp only [setA, jip L t v h hd]
theorem jdi {s : LSt} {t : Nat} {b : Bool} (h : getA s.L t = .pv .bool b) : ({ s with L := setA s.L t (.pv .bool b) } : LSt) = s := by
 rw [jip s.L t _ h (by simp)]
theorem jdY {ρ : Type} (E : Env) (all : Array Oper) {z : ρ} : ∀ (l : List Oper) (s : LSt) (acc : List FP) (K : LSt → List FP → Option ρ), runOps E all l s acc K = some z → ∃ s' fps, Runs E all l s s' fps ∧ K s' (acc.reverse ++ fps) = some z
 | [], s, acc, K, h => ⟨s, [], ⟨rfl, rfl⟩, by rw [List.append_nil]; exact h⟩
 | o :: l, s, acc, K, h => by
  have go : (opRD E o.op o.dst s.ev).run s [] [] (fun e fp => runOps E all l (s.app o.dst e) (fp :: acc) K) = some z → ∃ e fp s' fps, (opRD E o.op o.dst s.ev).R s [] [] e fp ∧ Runs E all l (s.app o.dst e) s' fps ∧ K s' (acc.reverse ++ fp :: fps) = some z := fun h => by
   obtain ⟨e, fp, h1, h2⟩ := RD.run_R _ _ _ h
   obtain ⟨s', fps, h3, h4⟩ := jdY E all l _ _ K h2
   exact ⟨e, fp, s', fps, h1, h3, by simpa using h4⟩
  have pass : runOps E all l (s.app o.dst skipEff) (fp0 :: acc) K = some z → ∃ s' fps, Runs E all l (s.app o.dst skipEff) s' fps ∧ K s' (acc.reverse ++ fp0 :: fps) = some z := fun h => by
   obtain ⟨s', fps, h3, h4⟩ := jdY E all l _ _ K h
   exact ⟨s', fps, h3, by simpa using h4⟩
  have goS : (∀ e fp, (opRD E o.op o.dst s.ev).R s [] [] e fp → Step1 E all s o e fp) → (opRD E o.op o.dst s.ev).run s [] [] (fun e fp => runOps E all l (s.app o.dst e) (fp :: acc) K) = some z → ∃ s' fps, Runs E all (o :: l) s s' fps ∧ K s' (acc.reverse ++ fps) = some z := fun hs h => by
   obtain ⟨e, fp, s', fps, h1, h2, h3⟩ := go h
   exact ⟨s', fp :: fps, ⟨e, fp, fps, hs e fp h1, rfl, h2⟩, h3⟩
  have passS : Step1 E all s o skipEff fp0 → runOps E all l (s.app o.dst skipEff) (fp0 :: acc) K = some z → ∃ s' fps, Runs E all (o :: l) s s' fps ∧ K s' (acc.reverse ++ fps) = some z := fun hs h => by
   obtain ⟨s', fps, h2, h3⟩ := pass h
   exact ⟨s', fp0 :: fps, ⟨skipEff, fp0, fps, hs, rfl, h2⟩, h3⟩
  simp only [runOps] at h
  cases hg : o.guard with
  | none =>
   rw [hg] at h
   exact goS (fun e fp hr => by simp only [Step1, seen, hg]; exact hr) h
  | some jw =>
   obtain ⟨j, want⟩ := jw
   rw [hg] at h
   simp only at h
   cases hd : (all[j]?).bind (·.dst) with
   | none =>
    rw [hd] at h
    exact passS (by unfold Step1 seen; rw [hg]; simp only [hd]; (first | exact ⟨rfl, rfl⟩ | exact ⟨True.intro, rfl⟩ | trivial)) h
   | some t =>
    rw [hd] at h
    simp only at h
    split at h
    ·rename_i b hb
     cases b with
     | true =>
      simp only at h
      rw [jdi hb] at h
      cases want with
      | true =>
       simp only [if_true] at h
       exact goS (fun e fp hr => by simp only [Step1, seen, hg, hd, hb, if_true]; exact hr) h
      | false =>
       simp only [Bool.false_eq_true, if_false] at h
       exact passS (by simp only [Step1, seen, hg, hd, hb, Bool.true_eq_false, if_false]; (first | exact ⟨rfl, rfl⟩ | exact ⟨True.intro, rfl⟩ | trivial)) h
     | false =>
      simp only at h
      rw [jdi hb] at h
      cases want with
      | true =>
       simp only [if_true] at h
       exact passS (by simp only [Step1, seen, hg, hd, hb, Bool.false_eq_true, if_false]; (first | exact ⟨rfl, rfl⟩ | exact ⟨True.intro, rfl⟩ | trivial)) h
      | false =>
       simp only [Bool.false_eq_true, if_false] at h
       exact goS (fun e fp hr => by simp only [Step1, seen, hg, hd, hb, if_true]; exact hr) h
    ·rename_i hb
     exact passS (by simp only [Step1, seen, hg, hd, hb]; (first | exact ⟨rfl, rfl⟩ | exact ⟨True.intro, rfl⟩ | trivial)) h
    ·cases h
theorem Rel.drew {R : Root} {s : LSt} {a : Act} {w : World} (h : Rel R s a w) : Rel R s a w.drew := by
 obtain ⟨β, τ, F, S, hM, hn, hdf, hs⟩ := h
 have hb : Below w.heap.size w w.drew := (Below.refl _ _).drew
 refine ⟨β, τ, F, S, hM.grow hb (fun _ _ h => h) (fun _ _ h => .inl h) hM.lt, hn, hdf, jy (c := s.ctx w S β τ) (c' := s.ctx w.drew S β τ) (jdn hb hM.lt (fun _ _ h => h) _ _ _ _ _) (BoxLe.refl rfl rfl) (TokLe.refl rfl rfl) hs⟩
theorem jjo {E : Env} {all : Array Oper} : ∀ (l : List Oper) (s s' : LSt) (fps : List FP), Runs E all l s s' fps → fps.length = l.length
 | [], s, s', fps, h => by rw [h.2]; rfl
 | o :: l, s, s', fps, h => by
  obtain ⟨e, fp, fps', h1, h2, h3⟩ := h
  rw [h2]; simp [jjo l _ _ _ h3]
theorem jkM {E : Env} (hE : EnvOk E) (id : Nat) (ops : Array Oper) (draw : Bool) {R : Root} (hR0 : ROk E R) {s s' : LSt} {fps : List FP} (hr : Runs E ops ops.toList s s' fps) (hd : draw = true → jde ops.toList fps = true ∧ jbu ops.toList = true) {a : Act} {w : World} (hR : Rel R s a w) {K : Exit → Act → World → Prop}
  (hK : ∀ a' w', Rel R s' a' w' → K .normal a' w') : (Code.region id ops draw).wp E.P K a w := by
 cases draw with
 | false =>
  refine wp_region ?_
  have := jgm (Q := K) hE hR0 ops.toList 0 rfl s s' fps hr a w hR (fun a' w' hR' => hK a' w' hR')
  rw [List.range_eq_range']
  simpa using this
 | true =>
  obtain ⟨hd1, hd2⟩ := hd rfl
  have hlen := jjo _ _ _ _ hr
  refine wp_region_any hE.mix ?_
  obtain ⟨rem, hrem⟩ : ∃ rem : List (Nat × Oper × FP), rem = (List.range ops.size).zip (ops.toList.zip fps) := ⟨_, rfl⟩
  have hrl : rem.length = ops.size := by rw [hrem]; simp [hlen]
  have hget : ∀ (k : Nat) i x p, rem[k]? = some (i, x, p) → i = k ∧ ops[k]? = some x ∧ fps[k]? = some p := fun k i x p h => by
   rw [hrem, List.getElem?_zip_eq_some] at h
   obtain ⟨h1, h2⟩ := h
   obtain ⟨h3, h4⟩ := List.getElem?_zip_eq_some.1 h2
   obtain ⟨h5, h6⟩ := List.getElem?_eq_some_iff.1 h1
   exact ⟨by simpa using h6.symm, by simpa using h3, h4⟩
  have hgetx : ∀ k, k < ops.size → ∃ x p, rem[k]? = some (k, x, p) := fun k hk => by
   have hk' : k < rem.length := by omega
   obtain ⟨⟨i, x, p⟩, hz⟩ : ∃ z, z = rem[k] := ⟨_, rfl⟩
   have h1 : rem[k]? = some (i, x, p) := by rw [List.getElem?_eq_getElem hk', ← hz]
   obtain ⟨rfl, _⟩ := hget k i x p h1
   exact ⟨x, p, h1⟩
  refine jhM hE hR0 ops.size rem _ s s' (fun a' w' hR' => hK a' w' hR') a w.drew hrl (by simp) (fun i => ?_) (fun i x p hin => ?_) (fun k k' i x p x' p' h1 h2 => ?_) (fun i j i' j' x y p q hlt h1 h2 => ?_) (fun j o e hl => ?_) ?_ hR.drew (fun hnil => ?_) (fun l hsz hex _ => jev hd2 l hsz hex)
  ·constructor
   ·intro hi
    by_cases h' : i < ops.size
    ·obtain ⟨x, p, hx⟩ := hgetx i h'
     exact ⟨x, p, List.mem_of_getElem? hx⟩
    ·simp [Array.getD, h'] at hi
   ·rintro ⟨x, p, hin⟩
    obtain ⟨k, hk, hk2⟩ := List.mem_iff_getElem.1 hin
    obtain ⟨rfl, hx, _⟩ := hget k i x p (by rw [List.getElem?_eq_getElem hk, hk2])
    have : i < ops.size := (Array.getElem?_eq_some_iff.1 hx).1
    simp [Array.getD, this]
  ·obtain ⟨k, hk, hk2⟩ := List.mem_iff_getElem.1 hin
   obtain ⟨rfl, hx, _⟩ := hget k i x p (by rw [List.getElem?_eq_getElem hk, hk2])
   exact hx
  ·rw [← (hget k i x p h1).1, ← (hget k' i x' p' h2).1]
  ·obtain ⟨rfl, hx, hp⟩ := hget i _ x p h1
   obtain ⟨rfl, hy, hq'⟩ := hget j _ y q h2
   have hj : j' < ops.size := (Array.getElem?_eq_some_iff.1 hy).1
   have h3 := List.all_eq_true.1 hd1 j' (by simpa using hj)
   have h4 := List.all_eq_true.1 h3 i' (by simpa using hlt)
   unfold jex at h4
   rw [Bool.or_eq_true] at h4
   rcases h4 with h5 | h5
   ·left
    have := jf4 ops.toList ops.toList [] (by simp) (fun j i hb => by simp at hb) j' i' h5
    simpa using this
   ·right
    have e1 : (ops.toList.zip fps)[i']? = some (x, p) := List.getElem?_zip_eq_some.2 ⟨by simpa using hx, hp⟩
    have e2 : (ops.toList.zip fps)[j']? = some (y, q) := List.getElem?_zip_eq_some.2 ⟨by simpa using hy, hq'⟩
    rw [e1, e2] at h5
    simp only at h5
    exact indep_of (by simpa using h5)
  ·by_cases h' : j < ops.size
   ·simp [Array.getD, h'] at hl
   ·simp [Array.getD, h'] at hl
  ·have e1 : rem.map (·.2.1) = ops.toList := by
    rw [hrem]
    apply List.ext_getElem?
    intro k
    rw [List.getElem?_map]
    by_cases hk : k < ops.size
    ·obtain ⟨x, p, hx⟩ := hgetx k hk
     rw [← hrem, hx]
     have := (hget k k x p hx).2.1
     simpa using this.symm
    ·rw [List.getElem?_eq_none (by simp [hlen]; omega), List.getElem?_eq_none (by simpa using hk)]; rfl
   have e2 : rem.map (·.2.2) = fps := by
    rw [hrem]
    apply List.ext_getElem?
    intro k
    rw [List.getElem?_map]
    by_cases hk : k < ops.size
    ·obtain ⟨x, p, hx⟩ := hgetx k hk
     rw [← hrem, hx]
     exact (hget k k x p hx).2.2.symm
    ·rw [List.getElem?_eq_none (by simp [hlen]; omega), List.getElem?_eq_none (by rw [hlen]; simpa using hk)]; rfl
   rw [e1, e2]; exact hr
  ·by_cases h0 : ops.size = 0
   ·exact List.eq_nil_of_length_eq_zero (by omega)
   ·exfalso
    exact jev hd2 _ (by simp) ⟨0, by omega, by simp [Array.getD, Nat.pos_of_ne_zero h0]⟩ hnil
end Go.Proofs.YtcjbjmbialienaaGreatDoor
