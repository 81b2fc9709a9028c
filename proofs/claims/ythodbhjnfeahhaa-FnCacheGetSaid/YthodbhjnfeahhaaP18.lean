/- Plain laws: caches that are drawn. -/
import Derived.Test.YthodbhjnfeahhaaP17
set_option linter.unusedVariables false
set_option linter.unusedSimpArgs false
namespace Go.Proofs.Ythodbhjnfeahhaa
open Go.RowKit
theorem specPut_def (N : Nat) (c g : Int) (xs : List DItem2) (ask : List UInt8) (gen : Int) (hits : List DHit2) (hx : xs.length ≤ 5) (hf : fewHits 6 xs) (hh : hits.length ≤ 5) (hN : 20 ≤ N) (hN2 : N ≤ 1000000) :
    Def (s_CachePut_m N c g xs ask gen hits) fun r => r.2.2.length ≤ 5 ∧ fewHits 6 r.2.2 := by
  have hf' : fewHits N xs := few_le hf (by omega)
  unfold s_CachePut_m
  rw [l24Ok_spec N c g xs (by omega) (by omega) hf', Option.bind_some, copy_spec N c g xs (by omega) (by omega) hf']
  refine Def.bif (fun _ => Def.ret ⟨by simp, fun x hx => by cases hx⟩) (fun e => ?_)
  have hok : okCache c g xs = true := by simpa using e
  have hc : 1 ≤ c ∧ c ≤ 5 := by simp only [okCache, Bool.and_eq_true, decide_eq_true_eq] at hok; exact hok.1.1.1
  refine Def.dif (fun _ => Def.ret ⟨hx, hf⟩) (fun _ => ?_)
  rw [l13Ok_spec N hits (by omega) (by omega), Option.bind_some]
  refine Def.bif (fun _ => Def.ret ⟨hx, hf⟩) (fun _ => ?_)
  rw [l1In_spec, Option.bind_some]
  refine Def.bif (fun _ => Def.ret ⟨hx, hf⟩) (fun _ => ?_)
  refine Def.ite (room_of (by simp only [List.length_nil]; omega) (by simp only [List.length_nil]; omega)) ?_
  rw [Option.bind_some]
  dsimp only
  refine Def.upto xs.length (fun n g' => ∃ out, out.length ≤ 5 ∧ fewHits 6 out ∧ g' = (ask, gen, (n : Int), c, g, xs, 0, 0, c, gen, out, c, g, xs)) ?_ ?_ N 0 _ (Nat.zero_le _) ⟨_, by simp, ?_, rfl⟩ (by omega)
  · rintro go _ ⟨out, h1, h2, rfl⟩
    dsimp only
    exact Def.dif (fun e => absurd e (by omega)) (fun _ => Def.ret ⟨h1, h2⟩)
  · rintro go n _ hn ⟨out, h1, h2, rfl⟩ hgo
    dsimp only
    refine Def.dif (fun e => ?_) (fun e => absurd (by omega) e)
    refine Def.dif (fun _ => ?_) (fun _ => Def.ret ⟨h1, h2⟩)
    refine Def.dif (fun hlt => ?_) (fun _ => Def.ret ⟨h1, h2⟩)
    refine Def.idx (by omega) e fun x hxm _ => ?_
    refine Def.bif (fun _ => ?_) (fun _ => ?_)
    · refine Def.idx (by omega) e fun y hym _ => ?_
      refine Def.ite (room_of (by simp only [List.length_cons, List.length_nil]; omega) (by simp only [List.length_cons, List.length_nil]; omega)) ?_
      refine Def.ite (by unfold fits; omega) (hgo _ ⟨out ++ [y], by simp only [List.length_append, List.length_cons, List.length_nil]; omega, fun z hz => ?_, by rw [cast_succ']⟩)
      rcases List.mem_append.1 hz with h | h
      · exact h2 z h
      · rw [List.mem_singleton.1 h]; exact hf y hym
    · exact Def.ite (by unfold fits; omega) (hgo _ ⟨out, h1, h2, by rw [cast_succ']⟩)
  · intro x hx'
    rw [List.mem_singleton.1 hx']
    simp only [List.nil_append]; omega
theorem cache_def (N : Nat) {b : List Int} {k : Int} {j : Nat} (h : Rdr b k j) (hj : j ≤ 1000) (hN : 20 ≤ N) (hN2 : N ≤ 1000000) : Def (s_l30Cache_m N b k) fun r => (r.2.2.1.length ≤ 6 ∧ fewHits 6 r.2.2.1) ∧ Rdr r.2.2.2.1 r.2.2.2.2 (j + 200) := by
  unfold s_l30Cache_m
  refine Def.bind (pick_def N 5 h (by omega)) fun r ⟨p0, p1, _, h1⟩ => ?_
  have p1 := p1 (by omega)
  refine Def.ite (by unfold fits; omega) ?_
  have hcn : s_CacheNew_m N (1 + r.1) = some (1 + r.1, 0) := by
    unfold s_CacheNew_m
    rw [l1In_spec, Option.bind_some, decide_eq_true (by omega), Bool.not_true, cond_false]
  rw [hcn, Option.bind_some]
  refine Def.bind (pick_def N 2 h1 (by omega)) fun r3 ⟨q0, q1, _, h3⟩ => ?_
  refine Def.bind (pick_def N 6 h3 (by omega)) fun r4 ⟨s0, s1, _, h4⟩ => ?_
  have s1 := s1 (by omega)
  refine Def.iter (fun g => 0 ≤ g.1 ∧ g.1 ≤ 5 ∧ g.2.2.2.2.2.1.length ≤ 5 ∧ fewHits 6 g.2.2.2.2.2.1 ∧ Rdr g.2.2.2.2.2.2.1 g.2.2.2.2.2.2.2 (j + 190 - 30 * g.1.toNat)) (fun g => g.1.toNat) ?_ N _ ⟨s0, (show r4.1 ≤ 5 by omega), by simp, (fun x hx => by cases hx), h4.le (show _ ≤ j + 190 - 30 * r4.1.toNat by omega)⟩ (show r4.1.toNat < N by omega)
  rintro go ⟨n, b3, b4, c, c2, c3, b5, b6⟩ ⟨g1, g2, g3, g4, g5⟩ hgo
  dsimp only at g1 g2 g3 g4 g5 ⊢
  refine Def.dif (fun e => ?_) (fun e => ?_)
  · refine Def.bind (leaf_def N g5 (by omega)) fun r5 ⟨hl, h5⟩ => ?_
    have hput : Def (s_l11Put_m N N r5.1 r5.2.1 r5.2.2.1 r5.2.2.2.1 r5.2.2.2.2.1 ([] : List DQ)) fun r => True := by
      obtain ⟨M, rfl⟩ : ∃ M, N = M + 1 := ⟨N - 1, by omega⟩
      exact put_def (M + 1) M (by omega) hN2 _ _ _ _ _ hl
    refine Def.bind hput fun r6 _ => ?_
    refine Def.bind (one_def N (by simp) h5 (by omega)) fun r7 ⟨_, h7⟩ => ?_
    refine Def.bind (hits_def N h7 (by omega) (by omega)) fun r8 ⟨e8, h8⟩ => ?_
    refine Def.bind (specPut_def N c c2 c3 r6 r7.1 r8.1 g3 g4 e8 (by omega) hN2) fun r9 ⟨e9, f9⟩ => ?_
    exact Def.ite (by unfold fits; omega) (hgo _ ⟨(show 0 ≤ n - 1 by omega), (show n - 1 ≤ 5 by omega), e9, f9, h8.le (show _ ≤ j + 190 - 30 * (n - 1).toNat by omega)⟩ (show (n - 1).toNat < n.toNat by omega))
  · refine Def.meet (fun g => (g.2.2.2.2.1.length ≤ 6 ∧ fewHits 6 g.2.2.2.2.1) ∧ Rdr g.2.2.2.2.2.1 g.2.2.2.2.2.2 (j + 200)) ?_ ?_
    · rintro ⟨b7, b8, c4, c5, c6, b9, b10⟩ ⟨⟨k1, k2⟩, k3⟩
      dsimp only at k1 k2 k3 ⊢
      rw [copy_spec N c4 c5 c6 (by omega) (by omega) (few_le k2 (by omega)), Option.bind_some]
      exact Def.ret ⟨⟨k1, k2⟩, k3⟩
    · intro J hJ
      refine Def.bind (pick_def N 14 g5 (by omega)) fun r10 ⟨_, _, _, h10⟩ => ?_
      refine Def.dif (fun _ => ?_) (fun _ => ?_)
      · refine Def.bind (one_def N (by simp) h10 (by omega)) fun r11 ⟨_, h11⟩ => ?_
        exact hJ _ ⟨⟨(show c3.length ≤ 6 by omega), g4⟩, h11.le (by omega)⟩
      · refine Def.dif (fun _ => ?_) (fun _ => ?_)
        · refine Def.ite (room_of (by simp only [List.length_cons, List.length_nil]; omega) (by simp only [List.length_cons, List.length_nil]; omega)) (hJ _ ⟨⟨?_, fun z hz => ?_⟩, h10.le (by omega)⟩)
          · simp only [List.length_append, List.length_cons, List.length_nil]; omega
          · rcases List.mem_append.1 hz with h | h
            · exact g4 z h
            · rw [List.mem_singleton.1 h]; decide
        · exact hJ _ ⟨⟨(show c3.length ≤ 6 by omega), g4⟩, h10.le (by omega)⟩
theorem drawGet_def (N : Nat) {code : List Int} (hb : Bs code) (hN : 20 ≤ N) (hN2 : N ≤ 1000000) : Def (s_DrawCacheGet_m N code) fun r => r.2.2.1.length ≤ 6 ∧ fewHits 6 r.2.2.1 := by
  have hput : ∀ q f ws a b, LeafOk q f ws a b → Def (s_l11Put_m N N q f ws a b ([] : List DQ)) fun r => True := fun q f ws a b hl => by
    obtain ⟨M, rfl⟩ : ∃ M, N = M + 1 := ⟨N - 1, by omega⟩
    exact put_def (M + 1) M (by omega) hN2 _ _ _ _ _ hl
  unfold s_DrawCacheGet_m
  refine Def.bind (open_def N hb) fun r h0 => ?_
  refine Def.bind (cache_def N h0 (by omega) hN hN2) fun r2 ⟨h2, h3⟩ => ?_
  refine Def.dif (fun e => ?_) (fun e => ?_)
  · refine Def.bind (pick_def N 3 h3 (by omega)) fun r3 ⟨_, _, _, h4⟩ => ?_
    refine Def.dif (fun _ => ?_) (fun _ => ?_)
    · refine Def.bind (pick_def N _ h4 (by omega)) fun r4 ⟨q0, q1, _, h5⟩ => ?_
      refine Def.idx q0 (q1 (by omega)) fun x _ _ => ?_
      exact Def.bind (one_def N (by simp) h5 (by omega)) fun r5 _ => Def.ret h2
    · refine Def.bind (leaf_def N h4 (by omega)) fun r6 ⟨hl, _⟩ => ?_
      exact Def.bind (hput _ _ _ _ _ hl) fun r7 _ => Def.ret h2
  · refine Def.bind (leaf_def N h3 (by omega)) fun r6 ⟨hl, _⟩ => ?_
    exact Def.bind (hput _ _ _ _ _ hl) fun r7 _ => Def.ret h2
end Go.Proofs.Ythodbhjnfeahhaa
