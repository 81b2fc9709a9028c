/- The law FnCacheGet, in plain Lean. -/
import Derived.Test.YthodbhjnfeahhaaP18
set_option linter.unusedVariables false
set_option linter.unusedSimpArgs false
namespace Go.Proofs.Ythodbhjnfeahhaa
open Go.RowKit
theorem specOk_spec (N : Nat) (c g : Int) (xs : List DItem2) (h : xs.length < N) (hN : (N : Int) ≤ 9223372036854775000) (hf : fewHits N xs) : s_CacheOk_m N c g xs = some (okCache c g xs) := by
  unfold s_CacheOk_m
  rw [l24Ok_spec N c g xs h hN hf]
  rfl
theorem few_step {ask : List UInt8} {xs : List DItem2} {n : Nat} (h : n < xs.length) : others ask (xs.take (n + 1)) = others ask (xs.take n) ++ (if xs[n].1 = ask then [] else [xs[n]]) := others_take ask xs n h
theorem getAgain (M : Nat) (c g : Int) (x : DItem2) (xs : List DItem2) (h : (x :: xs).length < M + 3) (hN : M + 3 ≤ 1099511627776) (hf : fewHits (M + 3) (x :: xs)) (hok : okCache c g (x :: xs) = true) : i_CacheGet_m (M + 3) c g (x :: xs) x.1 g = some (c, g, x :: xs, x.2, true) := by
  obtain ⟨r, h1, h2⟩ := implGet_spec M c g (x :: xs) x.1 g h hN hf
  have h3 : Got c g (x :: xs) x.1 g (c, g, x :: xs, x.2, true) := by
    have := Got.got (ask := x.1) hok rfl 0 (by simp) (by simp)
    simpa using this
  rw [h1, h2.same h3]
theorem fnCacheGet_law0 (M : Nat) (code : List Int) (hb : Bs code) (hM : 20 ≤ M) (hM2 : M + 3 ≤ 1000000) : l_FnCacheGet_m (M + 3) code = some true := by
  refine Def.get ?_
  unfold l_FnCacheGet_m
  refine Def.dif (fun _ => Def.ret rfl) (fun _ => ?_)
  refine Def.bind (drawGet_def (M + 3) hb (by omega) hM2) fun r ⟨hl, hf⟩ => ?_
  obtain ⟨c, g, xs, ask, gen⟩ := r
  dsimp only at hl hf ⊢
  have hf' : fewHits (M + 3) xs := few_le hf (by omega)
  obtain ⟨r2, e1, e2, hgot⟩ := get_same M c g xs ask gen (by omega) (by omega) hf'
  have ik := cacheOk_spec M c g xs (by omega) (by omega) hf'
  have sk := specOk_spec (M + 3) c g xs (by omega) (by omega) hf'
  rw [e1, e2, ik, sk]
  simp only [Option.bind_some]
  have hbb : (r2.2.2.2.2 == r2.2.2.2.2) = true := by simp
  have hff : (okCache c g xs == okCache c g xs) = true := by simp
  have few2 : r2.2.2.1.length < M + 3 ∧ fewHits (M + 3) r2.2.2.1 ∧ r2.2.2.2.1.length < M + 3 := by
    cases hgot with
    | bad => exact ⟨by simp, (fun x hx => by cases hx), by simp⟩
    | none => exact ⟨by dsimp only; omega, hf', by simp⟩
    | got h hg n hn ha =>
      have hp := front_perm xs n hn
      exact ⟨by dsimp only; rw [hp.length_eq]; omega, few_perm hp.symm hf', hf' _ (List.getElem_mem hn)⟩
  rw [hbb, foCache_spec (M + 3) r2.1 r2.2.1 r2.2.2.1 r2.1 r2.2.1 r2.2.2.1 few2.1 (by omega) few2.2.1, foHits_spec (M + 3) r2.2.2.2.1 r2.2.2.2.1 few2.2.2 (by omega), hff]
  simp only [Option.bind_some, decide_true, Bool.not_true, cond_false, cond_true]
  refine Def.bif (fun _ => Def.ret rfl) (fun hok => ?_)
  have hok : okCache c g xs = true := by simpa using hok
  cases hgot with
  | bad h => rw [h] at hok; cases hok
  | none _ hn =>
    dsimp only
    rw [Bool.not_false, cond_true, foCache_spec (M + 3) c g xs c g xs (by omega) (by omega) hf', Option.bind_some]
    exact Def.ret (by simp)
  | got _ hg n hn ha =>
    subst hg
    dsimp only at few2 ⊢
    rw [Bool.not_true, cond_false]
    have hp := front_perm xs n hn
    have hokf := okCache_front hok n hn
    have hlen := hp.length_eq
    refine Def.upto xs.length (fun m s => s = (ask, gen, xs[n].2, others ask (xs.take m), (m : Int), c, gen, xs, c, gen, xs[n] :: (xs.take n ++ xs.drop (n + 1)))) ?_ ?_ (M + 3) 0 _ (Nat.zero_le _) rfl (by omega)
    · rintro go _ rfl
      dsimp only
      refine Def.dif (fun e => absurd e (by omega)) (fun _ => ?_)
      have hag := getAgain M c gen xs[n] (xs.take n ++ xs.drop (n + 1)) (by rw [hlen]; omega) (by omega) few2.2.1 hokf
      rw [ha] at hag
      rw [hag, Option.bind_some, cacheOk_spec M c gen _ (by rw [hlen]; omega) (by omega) few2.2.1, hokf, Option.bind_some]
      dsimp only
      rw [cond_true, cond_true, foCache_spec (M + 3) c gen _ c gen _ (by rw [hlen]; omega) (by omega) few2.2.1, Option.bind_some]
      simp only [decide_true, cond_true]
      rw [foHits_spec (M + 3) xs[n].2 xs[n].2 few2.2.2 (by omega), Option.bind_some]
      simp only [decide_true, cond_true]
      refine Def.idx (by omega) (by simp only [List.length_cons]; omega) fun x _ hx => ?_
      have hx : xs[n] = x := by simpa using hx
      subst hx
      refine Def.dif (fun _ => ?_) (fun e => absurd ha e)
      refine Def.cut (by omega) (by simp only [List.length_cons]; omega) (Int.le_refl _) ?_
      have hit := okCache_items hok
      have ho := others_at hit hn
      rw [ha] at ho
      have e3 : ((xs[n] :: (xs.take n ++ xs.drop (n + 1))).take (((xs[n] :: (xs.take n ++ xs.drop (n + 1))).length : Nat) : Int).toNat).drop ((1 : Int)).toNat = others ask (xs.take xs.length) := by
        rw [Int.toNat_natCast, List.take_length, List.take_length, ho]
        rfl
      rw [e3, List.take_length, ho]
      have hsub : fewHits (M + 3) (xs.take n ++ xs.drop (n + 1)) := fun x hx => few2.2.1 x (List.mem_cons_of_mem _ hx)
      rw [foItems_spec (M + 3) _ _ (by simp only [List.length_append, List.length_take, List.length_drop]; omega) (by omega) hsub, Option.bind_some]
      exact Def.ret (by simp)
    · rintro go m _ hm rfl hgo
      dsimp only
      refine Def.dif (fun e => ?_) (fun e => absurd (by omega) e)
      have he : idx xs (m : Int) = some xs[m] := idx_at hm
      rw [he, Option.bind_some]
      have hfew : (others ask (xs.take m)).length ≤ m := by
        refine Nat.le_trans (List.length_filter_le _ _) ?_
        simp; omega
      refine Def.bif (fun hne => ?_) (fun hne => ?_)
      · rw [Option.bind_some]
        refine Def.ite (room_of (by simp only [List.length_cons, List.length_nil]; omega) (by simp only [List.length_cons, List.length_nil]; omega)) ?_
        refine Def.ite (by unfold fits; omega) (hgo _ ?_)
        have hne : ¬ xs[m].1 = ask := by simpa using hne
        rw [cast_succ', few_step hm, if_neg hne]
      · refine Def.ite (by unfold fits; omega) (hgo _ ?_)
        have hne : xs[m].1 = ask := by simpa using hne
        rw [cast_succ', few_step hm, if_pos hne, List.append_nil]
theorem fnCacheGet_law (code : List Int) (hb : ∀ x, x ∈ code → 0 ≤ x ∧ x ≤ 255) : l_FnCacheGet_m (37 + 3) code = some true := fnCacheGet_law0 37 code hb (by omega) (by omega)
end Go.Proofs.Ythodbhjnfeahhaa
