/- Plain laws: documents that are drawn; FnSortNone. -/
import Derived.Test.YtjggioppicabbaaS7
set_option linter.unusedVariables false
set_option linter.unusedSimpArgs false
namespace Go.Proofs.Ytjggioppicabbaa
open Go.RowKit
theorem foInts_spec (N : Nat) (a b : List Int) (h : a.length < N) (hN : N ≤ 1099511627776) : l_foInts_m N a b = some (decide (a = b)) :=
  eqLoop_spec (fun (e e2 : Int) => some (decide (e = e2))) N a b h hN fun x hx y => rfl
theorem docs_def (N : Nat) {b : List Int} {k : Int} {j : Nat} (h : Rdr b k j) (hj : j ≤ 1000) (hN : 20 ≤ N) : Def (s_l30Docs_m N b k) fun r => (r.1.length ≤ 6 ∧ ∀ x, x ∈ r.1 → okD Sm TDoc x ∧ shortN x.2.2) ∧ Rdr r.2.1 r.2.2 (j + 700) := by
  unfold s_l30Docs_m
  refine Def.bind (pick_def N 6 h (by omega)) fun r ⟨p0, p1, _, h1⟩ => ?_
  have p1 := p1 (by omega)
  refine Def.iter (fun g => ∃ out : List EDoc, ∃ id : Int, ∃ n : Nat, ∃ x y, n ≤ 6 ∧ out.length + n ≤ 6 ∧ (0 ≤ id ∧ id ≤ 4 * (6 - n)) ∧ (∀ z, z ∈ out → okD Sm TDoc z ∧ shortN z.2.2) ∧ Rdr x y (j + 1 + 110 * (6 - n)) ∧ g = (out, id, (n : Int), x, y)) (fun g => g.2.2.1.toNat) ?_ N _ ⟨[], 0, r.1.toNat, _, _, by omega, by simp; omega, by omega, (fun z hz => by cases hz), h1.le (by omega), by rw [Int.toNat_of_nonneg p0]⟩ (by show r.1.toNat < N; omega)
  rintro go _ ⟨out, id, n, x, y, hn, hl, hid, ho, hr, rfl⟩ hgo
  dsimp only
  refine Def.dif (fun e => ?_) (fun e => Def.ret ⟨⟨by dsimp only; omega, ho⟩, hr.le (by omega)⟩)
  refine Def.ite (by unfold fits; omega) ?_
  refine Def.bind (pick_def N 3 hr (by omega)) fun r2 ⟨q0, q1, _, h2⟩ => ?_
  have q1 := q1 (by omega)
  refine Def.ite (by unfold fits; omega) ?_
  refine Def.bind (doc_def N _ h2 (by omega) hN) fun r3 ⟨e3, s3, h3⟩ => ?_
  refine Def.ite (room_of (by simp; omega) (by simp; omega)) (Def.ite (by unfold fits; omega) (hgo _ ⟨out ++ [(r3.1, r3.2.1, r3.2.2.1)], id + 1 + r2.1, n - 1, _, _, by omega, ?_, by omega, fun z hz => ?_, h3.le (by omega), ?_⟩ ?_))
  · simp only [List.length_append, List.length_cons, List.length_nil]; omega
  · rcases List.mem_append.1 hz with hz | hz
    · exact ho z hz
    · rw [List.mem_singleton.1 hz]; exact ⟨s3.ok (by omega) (by rw [e3]; omega), s3.short⟩
  · rw [show ((n : Int) - 1) = ((n - 1 : Nat) : Int) from by omega]
  · show ((n : Int) - 1).toNat < (n : Int).toNat
    omega
theorem anyDocs_def (N : Nat) {b : List Int} {k : Int} {j : Nat} (h : Rdr b k j) (hj : j ≤ 1000) (hN : 20 ≤ N) : Def (s_l30AnyDocs_m N b k) fun r => (r.1.length ≤ 7 ∧ ∀ x, x ∈ r.1 → okD Sm TDoc x ∧ shortN x.2.2) ∧ Rdr r.2.1 r.2.2 (j + 1000) := by
  unfold s_l30AnyDocs_m
  refine Def.bind (docs_def N h hj hN) fun r ⟨⟨l1, o1⟩, h1⟩ => ?_
  refine Def.bind (pick_def N 10 h1 (by omega)) fun r2 ⟨_, _, _, h2⟩ => ?_
  refine Def.dif (fun _ => ?_) (fun _ => Def.ret ⟨⟨by dsimp only; omega, o1⟩, h2.le (by omega)⟩)
  refine Def.bind (anyDoc_def N h2 (by omega) hN) fun r3 ⟨o3, h3⟩ => ?_
  refine Def.ite (room_of (by simp; omega) (by simp; omega)) (Def.ret ⟨⟨by simp only [List.length_append, List.length_cons, List.length_nil]; omega, fun z hz => ?_⟩, h3.le (by omega)⟩)
  rcases List.mem_append.1 hz with hz | hz
  · exact o1 z hz
  · rw [List.mem_singleton.1 hz]; exact o3
theorem drawSort_def (N : Nat) {code : List Int} (hb : Bs code) (hN : 20 ≤ N) : Def (s_DrawSortOf_m N code) fun r => r.1.length ≤ 7 ∧ (∀ x, x ∈ r.1 → okD Sm TDoc x ∧ shortN x.2.2) ∧ okD Sm (.sl TKey) r.2 := by
  unfold s_DrawSortOf_m
  refine Def.bind (open_def N hb) fun r h0 => ?_
  refine Def.bind (anyDocs_def N h0 (by omega) hN) fun r2 ⟨⟨l2, o2⟩, h2⟩ => ?_
  exact Def.bind (keys_def N h2 (by omega) hN) fun r3 o3 => Def.ret ⟨l2, o2, o3⟩
end Go.Proofs.Ytjggioppicabbaa
