/- Plain laws: what is drawn for the cache. -/
import Derived.Test.YthodbhjnfeahhaaP15
set_option linter.unusedVariables false
set_option linter.unusedSimpArgs false
namespace Go.Proofs.Ythodbhjnfeahhaa
open Go.RowKit
theorem dec_small (N D : Nat) (hD : 9 ≤ D) (hD2 : D ≤ 1000000) (n : Int) (h0 : 0 ≤ n) (h1 : n ≤ 10) : Def (s_l1Dec_m N D n) fun r => r.length ≤ D := by
  obtain ⟨E, rfl⟩ : ∃ E, D = E + 1 := ⟨D - 1, by omega⟩
  refine dec_def N E n (by omega) h0 (by omega) ?_
  have h2 : (10 : Nat) ^ 9 ≤ 10 ^ (E + 1) := Nat.pow_le_pow_right (by decide) hD
  have h3 : ((10 ^ (E + 1) : Nat) : Int) = (10 : Int) ^ (E + 1) := by simp
  rw [← h3]
  omega
theorem join_def (N : Nat) (ws : List (List UInt8)) (sign : List UInt8) (hs : sign.length ≤ 10) (hw : ws.length ≤ 2) (hl : ∀ w, w ∈ ws → w.length ≤ 10) (hN : 4 ≤ N) : Def (s_l11Join_m N ws sign) fun r => r.length ≤ 100 := by
  unfold s_l11Join_m
  refine Def.upto ws.length (fun n g => ∃ out : List UInt8, out.length ≤ 20 * n ∧ g = (ws, sign, out, (n : Int))) ?_ ?_ N 0 _ (Nat.zero_le _) ⟨_, by simp, rfl⟩ (by omega)
  · rintro go _ ⟨out, h3, rfl⟩
    dsimp only
    exact Def.dif (fun e => absurd e (by omega)) (fun _ => Def.ret (by omega))
  · rintro go n _ hn ⟨out, h3, rfl⟩ hgo
    dsimp only
    refine Def.dif (fun e => ?_) (fun e => absurd (by omega) e)
    refine Def.meet (fun g => ∃ out : List UInt8, out.length ≤ 20 * n + 10 ∧ g = (ws, sign, out, (n : Int))) ?_ ?_
    · rintro _ ⟨out, h4, rfl⟩
      dsimp only
      refine Def.idx (by omega) e fun x hx _ => ?_
      have := hl x hx
      refine Def.ite (by omega) (Def.ite (by unfold fits; omega) (hgo _ ⟨_, ?_, by rw [cast_succ']⟩))
      simp only [List.length_append]; omega
    · intro J hJ
      refine Def.dif (fun e => ?_) (fun e => ?_)
      · refine Def.ite (by omega) (hJ _ ⟨_, ?_, rfl⟩)
        simp only [List.length_append]; omega
      · exact hJ _ ⟨_, by omega, rfl⟩
theorem put_def (N D : Nat) (hD : 9 ≤ N) (hN2 : N ≤ 1000000) (q : Int) (f : List UInt8) (ws : List (List UInt8)) (a b : Int) (h : LeafOk q f ws a b) : Def (s_l11Put_m N (D + 1) q f ws a b []) fun r => True := by
  have dec := fun n h0 h1 => dec_small N N hD hN2 n h0 h1
  unfold s_l11Put_m
  refine Def.bind (dec a h.lo.1 h.lo.2) fun r hr => ?_
  refine Def.ite (by simp only [List.length_cons, List.length_nil]; omega) ?_
  refine Def.dif (fun e => Def.ret trivial) (fun e1 => ?_)
  have hf := h.field
  have hk := h.kind
  refine Def.meet (fun g => ∃ heads t15 kids, (t15 = true → q = 2 ∨ q = 5) ∧ (t15 = false → q ≠ 2 ∧ q ≠ 5) ∧ g = (heads, q, t15, q, f, ws, a, b, kids)) ?_ ?_
  · rintro _ ⟨heads, t15, kids, h1, h2, rfl⟩
    dsimp only
    have hidx : (q = 2 ∨ q = 4 ∨ q = 5) → (0 : Int) < ws.length := fun hh => by have := h.some hh; omega
    refine Def.bif (fun e => ?_) (fun e => ?_)
    · refine Def.ite (by simp only [List.length_cons, List.length_nil]; omega) ?_
      refine Def.idx (by omega) (hidx (by have := h1 e; omega)) fun x hx _ => ?_
      have := h.word x hx
      exact Def.ite (by simp only [List.length_append, List.length_cons, List.length_nil]; omega) (Def.ret trivial)
    have h2 := h2 e
    refine Def.dif (fun e => ?_) (fun e3 => ?_)
    · refine Def.ite (by simp only [List.length_cons, List.length_nil]; omega) ?_
      refine Def.bind (join_def N ws _ (by decide) h.words h.word (by omega)) fun r2 hr2 => ?_
      refine Def.ite (by simp only [List.length_append, List.length_cons, List.length_nil]; omega) ?_
      refine Def.ite (by simp only [List.length_append, List.length_cons, List.length_nil]; omega) ?_
      refine Def.bind (dec a h.lo.1 h.lo.2) fun r3 hr3 => ?_
      exact Def.ite (by simp only [List.length_append, List.length_cons, List.length_nil]; omega) (Def.ret trivial)
    refine Def.dif (fun e => ?_) (fun e4 => ?_)
    · refine Def.ite (by simp only [List.length_cons, List.length_nil]; omega) ?_
      refine Def.idx (by omega) (hidx (by omega)) fun x hx _ => ?_
      have := h.word x hx
      refine Def.ite (by simp only [List.length_append, List.length_cons, List.length_nil]; omega) ?_
      refine Def.ite (by simp only [List.length_append, List.length_cons, List.length_nil]; omega) ?_
      refine Def.bind (dec a h.lo.1 h.lo.2) fun r3 hr3 => ?_
      exact Def.ite (by simp only [List.length_append, List.length_cons, List.length_nil]; omega) (Def.ret trivial)
    refine Def.dif (fun e => ?_) (fun e6 => absurd hk (by omega))
    · refine Def.ite (by simp only [List.length_cons, List.length_nil]; omega) ?_
      refine Def.bind (dec a h.lo.1 h.lo.2) fun r3 hr3 => ?_
      refine Def.ite (by simp only [List.length_append, List.length_cons, List.length_nil]; omega) ?_
      refine Def.ite (by simp only [List.length_append, List.length_cons, List.length_nil]; omega) ?_
      refine Def.bind (dec b h.hi.1 h.hi.2) fun r4 hr4 => ?_
      exact Def.ite (by simp only [List.length_append, List.length_cons, List.length_nil]; omega) (Def.ret trivial)
  · intro J hJ
    refine Def.dif (fun e => hJ _ ⟨_, _, _, (fun _ => .inl e), (fun h => by cases h), rfl⟩) (fun e => hJ _ ⟨_, _, _, (fun h => .inr (by simpa using h)), (fun h => ⟨e, by simpa using h⟩), rfl⟩)
theorem push_def (N : Nat) (xs : List (Int × Int)) (h h2 : Int) (hx : xs.length ≤ 12) (hN : 14 ≤ N) : Def (s_l13Push_m N xs h h2 16) fun r => r.length ≤ xs.length + 1 := by
  unfold s_l13Push_m
  have fin : ∀ n : Nat, n ≤ xs.length → Def (Option.bind (cut xs 0 (n : Int)) fun (y4 : List (Int × Int)) =>
          (if room ([] : List (Int × Int)).length y4.length 16 then
            (if room (([] : List (Int × Int)) ++ y4).length ([(h, h2)] : List (Int × Int)).length 16 then
              (Option.bind (cut xs (n : Int) (xs.length : Int)) fun (y5 : List (Int × Int)) =>
                (if room ((([] : List (Int × Int)) ++ y4) ++ ([(h, h2)] : List (Int × Int))).length y5.length 16 then
                  (bif (decide ((16 : Int) < ((((([] : List (Int × Int)) ++ y4) ++ ([(h, h2)] : List (Int × Int))) ++ y5).length : Int))) then
                    (Option.bind (cut (((([] : List (Int × Int)) ++ y4) ++ ([(h, h2)] : List (Int × Int))) ++ y5) 0 16) fun (y6 : List (Int × Int)) =>
                      (some y6))
                    else
                    (some (((([] : List (Int × Int)) ++ y4) ++ ([(h, h2)] : List (Int × Int))) ++ y5)))
                  else none))
              else none)
            else none)) fun r => r.length ≤ xs.length + 1 := fun n hn => by
    refine Def.cut (by omega) (by omega) (by omega) ?_
    have l1 : ((xs.take ((n : Int)).toNat).drop (0 : Int).toNat).length = n := by simp; omega
    refine Def.ite (room_of (by rw [l1]; simp only [List.length_nil]; omega) (by rw [l1]; simp only [List.length_nil]; omega)) ?_
    refine Def.ite (room_of (by simp only [List.nil_append, l1, List.length_cons, List.length_nil]; omega) (by simp only [List.nil_append, l1, List.length_cons, List.length_nil]; omega)) ?_
    refine Def.cut (by omega) (by omega) (by omega) ?_
    have l2 : ((xs.take ((xs.length : Int)).toNat).drop ((n : Int)).toNat).length = xs.length - n := by simp
    refine Def.ite (room_of (by simp only [List.nil_append, List.length_append, l1, l2, List.length_cons, List.length_nil]; omega) (by simp only [List.nil_append, List.length_append, l1, l2, List.length_cons, List.length_nil]; omega)) ?_
    refine Def.dif (fun e => ?_) (fun e => Def.ret ?_)
    · simp only [List.nil_append, List.length_append, l1, l2, List.length_cons, List.length_nil] at e; omega
    · simp only [List.nil_append, List.length_append, l1, l2, List.length_cons, List.length_nil]; omega
  refine Def.upto xs.length (fun n g => g = (xs, 16, (n : Int), h, h2)) ?_ ?_ N 0 _ (Nat.zero_le _) rfl (by omega)
  · rintro go _ rfl
    dsimp only
    exact Def.dif (fun e => absurd e (by omega)) (fun _ => fin _ (Nat.le_refl _))
  · rintro go n _ hn rfl hgo
    dsimp only
    refine Def.dif (fun e => ?_) (fun e => absurd (by omega) e)
    refine Def.idx (by omega) e fun x hx _ => ?_
    rw [less_spec N x (h, h2), Option.bind_some]
    refine Def.bif (fun _ => ?_) (fun _ => fin n (by omega))
    exact Def.ite (by unfold fits; omega) (hgo _ (by rw [cast_succ']))
theorem hits_def (N : Nat) {b : List Int} {k : Int} {j : Nat} (hr : Rdr b k j) (hj : j ≤ 100000) (hN : 20 ≤ N) : Def (s_l30Hits_m N b k) fun r => r.1.length ≤ 5 ∧ Rdr r.2.1 r.2.2 (j + 11) := by
  unfold s_l30Hits_m
  refine Def.bind (pick_def N 6 hr (by omega)) fun r ⟨p0, p1, _, h1⟩ => ?_
  have p1 := p1 (by omega)
  refine Def.iter (fun g => 0 ≤ g.2.1 ∧ g.2.1 ≤ 5 ∧ (g.1.length : Int) ≤ 5 - g.2.1 ∧ Rdr g.2.2.1 g.2.2.2 (j + 11 - 2 * g.2.1.toNat)) (fun g => g.2.1.toNat) ?_ N _ ⟨p0, (show r.1 ≤ 5 by omega), (show ((0 : Nat) : Int) ≤ 5 - r.1 by omega), h1.le (show j + 1 ≤ j + 11 - 2 * r.1.toNat by omega)⟩ (show r.1.toNat < N by omega)
  rintro go ⟨out, n, b3, b4⟩ ⟨h2, h3, h4, h5⟩ hgo
  dsimp only at h2 h3 h4 h5 ⊢
  refine Def.dif (fun e => ?_) (fun e => Def.ret ⟨(show out.length ≤ 5 by omega), h5.le (by omega)⟩)
  refine Def.bind (pick_def N 8 h5 (by omega)) fun r2 ⟨q0, q1, _, h6⟩ => ?_
  have q1 := q1 (by omega)
  refine Def.ite (by unfold fits; omega) ?_
  refine Def.bind (pick_def N 5 h6 (by omega)) fun r3 ⟨s0, s1, _, h7⟩ => ?_
  have s1 := s1 (by omega)
  refine Def.ite (by unfold fits; omega) ?_
  refine Def.upto out.length (fun m g => ∃ is, g = (out, n, is, (m : Int), 1 + r2.1, 1 + r3.1, r3.2.1, r3.2.2)) ?_ ?_ N 0 _ (Nat.zero_le _) ⟨_, rfl⟩ (by omega)
  · rintro go2 _ ⟨is, rfl⟩
    dsimp only
    refine Def.dif (fun e => absurd e (by omega)) (fun _ => ?_)
    refine Def.bif (fun _ => ?_) (fun _ => ?_)
    · refine Def.bind (push_def N out _ _ (by omega) (by omega)) fun r4 hr4 => ?_
      exact Def.ite (by unfold fits; omega) (hgo _ ⟨(show 0 ≤ n - 1 by omega), (show n - 1 ≤ 5 by omega), (show (r4.length : Int) ≤ 5 - (n - 1) by omega), h7.le (show _ ≤ j + 11 - 2 * (n - 1).toNat by omega)⟩ (show (n - 1).toNat < n.toNat by omega))
    · exact Def.ite (by unfold fits; omega) (hgo _ ⟨(show 0 ≤ n - 1 by omega), (show n - 1 ≤ 5 by omega), (show (out.length : Int) ≤ 5 - (n - 1) by omega), h7.le (show _ ≤ j + 11 - 2 * (n - 1).toNat by omega)⟩ (show (n - 1).toNat < n.toNat by omega))
  · rintro go2 m _ hm ⟨is, rfl⟩ hgo2
    dsimp only
    refine Def.dif (fun e => ?_) (fun e => absurd (by omega) e)
    refine Def.bif (fun _ => ?_) (fun _ => ?_)
    · exact Def.ite (by unfold fits; omega) (hgo2 _ ⟨_, by rw [cast_succ']⟩)
    · refine Def.idx (by omega) e fun x hx _ => ?_
      exact Def.ite (by unfold fits; omega) (hgo2 _ ⟨_, by rw [cast_succ']⟩)
end Go.Proofs.Ythodbhjnfeahhaa
