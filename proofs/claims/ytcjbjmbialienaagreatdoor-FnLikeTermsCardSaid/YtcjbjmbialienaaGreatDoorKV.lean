/- The engine: steps that turn nothing but how the state is told. -/
import Derived.Test.YtcjbjmbialienaaGreatDoorKU
set_option linter.unusedSimpArgs false
set_option linter.unusedVariables false
namespace Go.Proofs.YtcjbjmbialienaaGreatDoor
open Go.RowKit
theorem jcd {α ρ : Type _} : ∀ (l : List α) (K : List α → ρ), forceL l K = K l
 | [], K => rfl
 | x :: l, K => by rw [forceL, jcd l]
theorem jmA {ρ : Type _} (s : LSt) (K : LSt → ρ) : s.tidy K = K s := by
 unfold LSt.tidy
 rw [jcd, jcd, jcd]
def jv (E : Env) (s s' : LSt) : Prop := ∀ R a w, ROk E R → Rel R s a w → Rel R s' a w
theorem jv.refl {E : Env} (s : LSt) : jv E s s := fun _ _ _ _ h => h
theorem jv.trans {E : Env} {s s' s'' : LSt} (h : jv E s s') (k : jv E s' s'') : jv E s s'' := fun R a w h0 hr => k R a w h0 (h R a w h0 hr)
theorem jra {E : Env} {s : LSt} {n i o d e : Nat} {tk : Tok} {hs : List (Nat × Nat × Nat)} (htk : lookT s.T n = some (.live tk)) (htr : tk.tr = some hs) (hfh : findHole o hs = none) {y : tk.t.D} (hy : tk.xs[i]? = some y) {r : Tp} {x : List r.D} (hc : (cellsOf tk.t y)[o]? = some (.pv (.sl r) x)) (hd : lookT s.T d = none) (hres : E.res d = false) :
  jv E s { s with T := setT (setT s.T n (some (.live { tk with tr := some ((i, o, d) :: hs) }))) d (some (.live ⟨r, x, e, true, true, bif r.flatB then none else some []⟩)) } := by
 rintro R a w hR0 ⟨β, τ, F, S, hM, hn, hdf, hsl⟩
 obtain ⟨b', l', cap', u, e4, e5, e6, F', hM', hle⟩ := hM.split n tk hs htk htr i o y hy r x hc (jcy hfh i) d hd (hR0.tn hres) e
 refine ⟨β, fun t => if t = d then u else τ t, F', S, by simp only [lookT_setT]; exact hM', hn, hdf, ?_⟩
 have := jy (c := s.ctx w S β τ) (c' := ⟨w, S, fun k => lookB s.B k ≠ none, β, updT (updT (lookT s.T) n (some (.live { tk with tr := some ((i, o, d) :: hs) }))) d (some (.live ⟨r, x, e, true, true, bif r.flatB then none else some []⟩)), fun t => if t = d then u else τ t⟩) ⟨fun _ _ h => h, fun _ _ _ => rfl⟩ (BoxLe.refl rfl rfl) hle hsl
 unfold LSt.ctx
 simp only [lookT_setT]
 exact this
theorem jlq {E : Env} {s : LSt} {n : Nat} {tk : Tok} (htk : lookT s.T n = some (.live tk)) (htr : tk.tr = some []) : jv E s { s with T := setT s.T n (some (.live tk.thaw)) } := by
 rintro R a w hR0 ⟨β, τ, F, S, hM, hn, hdf, hsl⟩
 obtain ⟨hw, _⟩ := (hM.toks n tk htk).tree htr
 obtain ⟨S', hM', hSo⟩ := hM.thaw n tk htk htr
 refine ⟨β, τ, F, S', by simp only [lookT_setT]; exact hM', hn, hdf, ?_⟩
 have := jy (c := s.ctx w S β τ) (c' := ⟨w, S', fun k => lookB s.B k ≠ none, β, updT (lookT s.T) n (some (.live tk.thaw)), τ⟩) ⟨hSo, fun _ _ _ => rfl⟩ (BoxLe.refl rfl rfl) (fun t ht => by
  by_cases e : t = n
  ·subst e
   refine ⟨by simp [updT], fun tk' hk => ?_⟩
   simp [updT] at hk
   subst hk
   exact ⟨tk, htk, rfl, rfl, fun h => by rw [hw] at h; cases h⟩
  ·have e2 : updT (lookT s.T) n (some (.live tk.thaw)) t = lookT s.T t := by simp [updT, e]
   exact ⟨by show updT _ _ _ t ≠ none; rw [e2]; exact ht, fun tk' hk => ⟨tk', by show lookT s.T t = _; rw [← e2]; exact hk, rfl, rfl, fun h => ⟨h, rfl⟩⟩⟩) hsl
 unfold LSt.ctx
 simp only [lookT_setT]
 exact this
theorem jc2 {ρ : Type} {E : Env} {z : ρ} : ∀ (p : List (Nat × Nat × Nat × Nat)) (n i : Nat) (s : LSt) (K : LSt → Option ρ), outRun E p n i s K = some z → ∃ s', K s' = some z ∧ jv E s s'
 | [], n, i, s, K, h => ⟨s, h, jv.refl s⟩
 | (o, d, e, ix) :: p, n, i, s, K, h => by
  unfold outRun at h
  split at h
  case h_2 => cases h
  rename_i tk htk
  split at h
  case h_2 => cases h
  rename_i hs htr
  split at h
  ·rename_i i' d' hfh
   split at h
   case isFalse => cases h
   split at h
   ·exact ⟨s, h, jv.refl s⟩
   ·split at h
    ·exact jc2 _ _ _ s K h
    ·cases h
  ·rename_i hfh
   obtain ⟨y, hy, h⟩ := Option.bind_eq_some_iff.1 h
   split at h
   case h_2 => cases h
   rename_i r x hc
   split at h
   case h_2 => cases h
   rename_i hd
   split at h
   ·cases h
   rename_i hres
   have hg := jra (E := E) (e := e) htk htr hfh hy hc hd hres
   split at h
   ·exact ⟨_, h, hg⟩
   ·split at h
    ·obtain ⟨s', h1, h2⟩ := jc2 _ _ _ _ K h
     exact ⟨s', h1, hg.trans h2⟩
    ·cases h
theorem jcF {ρ : Type} {E : Env} {z : ρ} : ∀ (gs : List Ghost) (s : LSt) {K : LSt → Option ρ}, ghostRun E gs s K = some z → ∃ s', K s' = some z ∧ jv E s s'
 | [], s, K, h => ⟨s, h, jv.refl s⟩
 | .out sl p :: gs, s, K, h => by
  unfold ghostRun at h
  split at h
  case h_2 => cases h
  obtain ⟨s1, h1, h2⟩ := jc2 _ _ _ s _ h
  obtain ⟨s2, h3, h4⟩ := jcF gs s1 h1
  exact ⟨s2, h3, h2.trans h4⟩
 | .thaw k c :: gs, s, K, h => by
  unfold ghostRun at h
  split at h
  case h_2 => cases h
  split at h
  case h_2 => cases h
  split at h
  case h_2 => cases h
  rename_i tk htk
  split at h
  ·rename_i htr
   obtain ⟨s2, h3, h4⟩ := jcF gs _ h
   exact ⟨s2, h3, (jlq htk htr).trans h4⟩
  ·cases h
  ·exact jcF gs s h
end Go.Proofs.YtcjbjmbialienaaGreatDoor
