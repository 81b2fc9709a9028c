/- Plain laws: the text of a mark. -/
import Derived.Test.YtjggioppicabbaaQ1
import Derived.Test.YtjggioppicabbaaG1
set_option linter.unusedVariables false
set_option linter.unusedSimpArgs false
namespace Go.Proofs.Ytjggioppicabbaa
open Go.RowKit
/-! ### the mark of a text -/
theorem markText_loop {F : ((Int × List UInt8) → Option (List UInt8)) → (Int × List UInt8) → Option (List UInt8)} (hF : F = fun go g => match g with
        | (k2, out) =>
        (bif (decide ((0 : Int) < k2)) then
          (if 10 ≠ 0 then
            (if fits (48 + (k2.tmod 10)) then (if (bytesOf ([(IntKind.u8.wrap (48 + (k2.tmod 10)))] : List Int)).length + out.length ≤ 9223372036854775807 then
                (if 10 ≠ 0 then
                  (if fits (k2.tdiv 10) then (go ((k2.tdiv 10), ((bytesOf ([(IntKind.u8.wrap (48 + (k2.tmod 10)))] : List Int)) ++ out))) else none)
                  else none)
                else none) else none)
            else none)
          else
          (if ([109] : List UInt8).length + out.length ≤ 9223372036854775807 then
            (some (([109] : List UInt8) ++ out))
            else none))) : ∀ (j N : Nat) (k : Int) (out : List UInt8), 0 ≤ k → k ≤ 9223372036854775807 → k < (10 : Int) ^ j → j < N → out.length + j ≤ 1000 → Def (iter F N (k, out)) fun _ => True
  | _, 0, _, _, _, _, _, h, _ => absurd h (Nat.not_lt_zero _)
  | 0, N + 1, k, out, h0, hk, h1, h2, h3 => by
    show Def (F (iter F N) (k, out)) _
    subst hF
    dsimp only
    rw [decide_eq_false (by simp at h1; omega), cond_false]
    exact Def.ite (by simp only [List.length_cons, List.length_nil]; omega) (Def.ret True.intro)
  | j + 1, N + 1, k, out, h0, hk, h1, h2, h3 => by
    show Def (F (iter F N) (k, out)) _
    have ih := fun out' => markText_loop hF j N (k.tdiv 10) out'
    subst hF
    dsimp only
    have hp : (10 : Int) ^ (j + 1) = 10 * (10 : Int) ^ j := by rw [Int.pow_succ, Int.mul_comm]
    have hd : k.tdiv 10 = k / 10 := Int.tdiv_eq_ediv_of_nonneg h0
    have hm : k.tmod 10 = k % 10 := Int.tmod_eq_emod_of_nonneg h0
    refine Def.dif (fun e => ?_) (fun e => Def.ite (by simp only [List.length_cons, List.length_nil]; omega) (Def.ret True.intro))
    have hb : (bytesOf ([(IntKind.u8.wrap (48 + (k.tmod 10)))] : List Int)).length = 1 := by simp [bytesOf]
    refine Def.ite (by decide) (Def.ite (by unfold fits; omega) (Def.ite (by rw [hb]; omega) (Def.ite (by decide) (Def.ite ?_ ?_))))
    · rw [hd]; unfold fits; omega
    · refine ih _ (by omega) (by omega) (by omega) (by omega) ?_
      rw [List.length_append, hb]; omega
def mT (N : Nat) (k : Int) : List UInt8 := (l_markText_m N k).getD []
theorem markText_spec (N : Nat) (k : Int) (h0 : 0 ≤ k) (h1 : k ≤ 1000000000000000000) (hN : 30 ≤ N) : l_markText_m N k = some (mT N k) := by
  have : Def (l_markText_m N k) fun _ => True := by
    unfold l_markText_m
    refine Def.dif (fun e => Def.ret True.intro) (fun e => ?_)
    exact markText_loop rfl 19 N k [] h0 (by omega) (by omega) (by omega) (by simp)
  obtain ⟨r, h, _⟩ := this
  unfold mT
  rw [h]; rfl
end Go.Proofs.Ytjggioppicabbaa
