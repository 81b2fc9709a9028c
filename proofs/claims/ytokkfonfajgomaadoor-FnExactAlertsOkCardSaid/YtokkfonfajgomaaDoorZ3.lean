/- Plain laws: the engine's check of a question's node. -/
import Derived.Test.YtokkfonfajgomaaDoorZ2
set_option linter.unusedVariables false
set_option linter.unusedSimpArgs false
namespace Go.Proofs.YtokkfonfajgomaaDoor
open Go.RowKit
theorem meet_one {δ ρ : Type} {J : δ → Option ρ} {X : (δ → Option ρ) → Option ρ} {w : Option ρ} (g0 : δ) (v : Option ρ) (hJ : J g0 = v) (hX : ∀ J' : δ → Option ρ, J' g0 = v → X J' = w) : meet J X = w := hX J hJ
abbrev ESh : Type := Bool × Int × Int × Int × Int × Bool × Int × Int
def shp (k : Int) : Option ESh := mget (.int .i64) (.pair .bool (.pair (.int .i64) (.pair (.int .i64) (.pair (.int .i64) (.pair (.int .i64) (.pair .bool (.pair (.int .i64) (.int .i64)))))))) gm_shapes k
theorem shp_none {k : Int} (h1 : ¬ k = 1) (h2 : ¬ k = 2) (h3 : ¬ k = 3) (h4 : ¬ k = 4) (h5 : ¬ k = 5) (h6 : ¬ k = 6) (h7 : ¬ k = 7) (h8 : ¬ k = 8) (h9 : ¬ k = 9) (h10 : ¬ k = 10) : shp k = none := by
  unfold shp mget gm_shapes
  simp only [List.find?, Tp.eqB, decide_eq_false h1, decide_eq_false h2, decide_eq_false h3, decide_eq_false h4, decide_eq_false h5, decide_eq_false h6, decide_eq_false h7, decide_eq_false h8, decide_eq_false h9, decide_eq_false h10, Option.map_none]
def inB (n lo hi : Int) : Bool := decide (lo ≤ n) && decide (n ≤ hi)
def wK (k : Int) (w : List UInt8) : Bool := bif decide (k = 5) then okG w && !okW w else okW w
def nodeS (s : ESh) (k : Int) (f : List UInt8) (ws : List (List UInt8)) (a b : Int) (kids : List DQ) (P : DQ → Bool) : Bool :=
  (s.1 == !decide (f = [])) && ((!s.1 || okW f) && (inB ws.length s.2.1 s.2.2.1 && (inB kids.length s.2.2.2.2.2.2.1 s.2.2.2.2.2.2.2 && (inB a s.2.2.2.1 s.2.2.2.2.1 && ((!s.2.2.2.2.2.1 || inB b a 999999999) && ((s.2.2.2.2.2.1 || decide (b = 0)) && (ws.all (wK k) && kids.all P)))))))
def nodeO (s : Option ESh) (k : Int) (f : List UInt8) (ws : List (List UInt8)) (a b : Int) (kids : List DQ) (P : DQ → Bool) : Bool :=
  match s with
  | none => false
  | some s => nodeS s k f ws a b kids P
theorem nodeOk_one (N : Nat) (hM : Sm < N) (hN : N ≤ 1099511627776) (n D : Nat) (hn : n ≤ 1000) (ih : ∀ q, BQ n q → i_nodeOk_m N D q.kind q.field q.words q.lo q.hi q.kids (n : Int) = some (okQ n q)) (k : Int) (f : List UInt8) (ws : List (List UInt8)) (a b : Int) (kids : List DQ) (h1 : f.length ≤ 1048576) (h2 : ws.length ≤ 1048576) (h3 : ∀ w, w ∈ ws → w.length ≤ 1048576) (h4 : kids.length ≤ 1048576) (h5 : ∀ c, c ∈ kids → BQ n c) : i_nodeOk_m N (D + 1) k f ws a b kids ((n + 1 : Nat) : Int) = some (nodeO (shp k) k f ws a b kids (okQ n)) := by
  have hM' : 1048576 < N := hM
  have e : ((n + 1 : Nat) : Int) - 1 = (n : Int) := by omega
  rw [i_nodeOk_m]
  unfold shp
  generalize mget (.int .i64) (.pair .bool (.pair (.int .i64) (.pair (.int .i64) (.pair (.int .i64) (.pair (.int .i64) (.pair .bool (.pair (.int .i64) (.int .i64)))))))) gm_shapes k = o
  cases o with
  | none => rfl
  | some sh =>
    obtain ⟨x, x2, x3, x4, x5, x6, x7, x8⟩ := sh
    show _ = some (nodeS _ k f ws a b kids (okQ n))
    unfold nodeS
    dsimp only
    generalize hv3 : (ws.all (wK k) && kids.all (okQ n)) = v3
    generalize hv2 : ((!x6 || inB b a 999999999) && ((x6 || decide (b = 0)) && v3)) = v2
    refine meet_one (((n + 1 : Nat) : Int), k, f, ws, a, b, kids, x, x2, x3, x4, x5, x6, x7, x8) (some (inB ws.length x2 x3 && (inB kids.length x7 x8 && (inB a x4 x5 && v2)))) ?_ (fun J hJ => ?_)
    · dsimp only
      refine meet_one (((n + 1 : Nat) : Int), k, f, ws, a, b, kids, x, x2, x3, x4, x5, x6, x7, x8) (some v2) ?_ (fun J2 hJ2 => ?_)
      · dsimp only
        refine meet_one (((n + 1 : Nat) : Int), k, f, ws, a, b, kids) (some v3) ?_ (fun J3 hJ3 => ?_)
        · dsimp only
          refine Eq.trans (check_list _ ws (fun i => (((n + 1 : Nat) : Int), ws, (ws.length : Int), (i : Int), k, f, ws, a, b, kids)) (wK k) (some false) (some (kids.all (okQ n))) (fun go => ?_) (fun go i hi => ?_) N (by omega)) ?_
          · dsimp only
            rw [decide_eq_false (Int.lt_irrefl _), cond_false]
            refine Eq.trans (check_list _ kids (fun i => (((n + 1 : Nat) : Int), kids, (kids.length : Int), (i : Int))) (okQ n) (some false) (some true) (fun go => ?_) (fun go i hi => ?_) N (by omega)) ?_
            · dsimp only
              rw [decide_eq_false (Int.lt_irrefl _), cond_false]
            · dsimp only
              have hm := List.getElem_mem hi
              rw [decide_eq_true (by omega : (i : Int) < (kids.length : Int)), cond_true, idx_at hi, Option.bind_some, e, if_pos (by unfold fits; omega), ih _ (h5 _ hm), Option.bind_some, if_pos (fits_nat (n := i) (by omega)), cast_succ']
              cases okQ n kids[i] <;> rfl
            · cases kids.all (okQ n) <;> rfl
          · dsimp only
            have hm := h3 _ (List.getElem_mem hi)
            have hf : fits ((i : Int) + 1) := fits_nat (by omega)
            rw [decide_eq_true (by omega : (i : Int) < (ws.length : Int)), cond_true, idx_at hi, Option.bind_some]
            simp only [globOk_spec N _ (by omega : ws[i].length < N) hN, wordOk_spec N _ (by omega : ws[i].length < N) hN, Option.bind_some, if_pos hf, cast_succ']
            unfold wK
            cases decide (k = 5) <;> cases okG ws[i] <;> cases okW ws[i] <;> rfl
          · rw [← hv3]
            cases ws.all (wK k) <;> rfl
        · simp only [within_spec, Option.bind_some, hJ3]
          rw [← hv2]
          unfold inB
          cases x6 <;> cases decide (a ≤ b) <;> cases decide (b ≤ 999999999) <;> cases decide (b = 0) <;> rfl
      · simp only [within_spec, Option.bind_some, hJ2]
        unfold inB
        cases (decide (x2 ≤ (ws.length : Int)) && decide ((ws.length : Int) ≤ x3)) <;> cases (decide (x7 ≤ (kids.length : Int)) && decide ((kids.length : Int) ≤ x8)) <;> cases (decide (x4 ≤ a) && decide (a ≤ x5)) <;> rfl
    · dsimp only [Option.isSome, Option.getD]
      rw [decide_eq_false (by omega : ¬ ((n + 1 : Nat) : Int) < 1)]
      simp only [wordOk_spec N f (by omega) hN, Option.bind_some, hJ]
      cases x <;> cases decide (f = []) <;> cases okW f <;> rfl
theorem in_same {m v : Int} : inB m v v = decide (m = v) := by unfold inB; rw [Bool.eq_iff_iff]; simp only [Bool.and_eq_true, decide_eq_true_eq]; omega
theorem node_kind (k : Int) (f : List UInt8) (ws : List (List UInt8)) (a b : Int) (kids : List DQ) (P : DQ → Bool) : nodeO (shp k) k f ws a b kids P = (oneQ k f ws a b kids && kids.all P) := by
  have e1 : decide ((ws.length : Int) = 0) = true → ws.all (wK k) = true := fun h => by
    have := of_decide_eq_true h
    rw [List.length_eq_zero_iff.1 (by omega : ws.length = 0)]
    rfl
  have e2 : decide ((kids.length : Int) = 0) = true → kids.all P = true := fun h => by
    have := of_decide_eq_true h
    rw [List.length_eq_zero_iff.1 (by omega : kids.length = 0)]
    rfl
  have e3 : decide (f = []) = true → okW f = false := fun h => by rw [of_decide_eq_true h]; rfl
  by_cases k1 : k = 1
  · subst k1
    show nodeS (false, 0, 0, 0, 0, false, 0, 0) 1 f ws a b kids P = _
    rw [show wK 1 = okW from rfl] at e1
    unfold nodeS oneQ nilB
    rw [show wK 1 = okW from rfl]
    dsimp only
    simp only [in_same]
    unfold inB
    generalize ws.all okW = q at *
    generalize kids.all P = p at *
    generalize decide ((ws.length : Int) = 0) = l at *
    generalize decide ((kids.length : Int) = 0) = m at *
    generalize decide (a = 0) = u at *
    generalize decide (b = 0) = v at *
    generalize decide (f = []) = z at *
    generalize okW f = o at *
    cases q <;> cases p <;> cases l <;> cases m <;> cases u <;> cases v <;> cases z <;> cases o <;> first | rfl | simp_all
  by_cases k2 : k = 2
  · subst k2
    show nodeS (true, 1, 1, 0, 0, false, 0, 0) 2 f ws a b kids P = _
    clear e1
    unfold nodeS oneQ nilB
    rw [show wK 2 = okW from rfl]
    dsimp only
    simp only [in_same]
    unfold inB
    generalize ws.all okW = q at *
    generalize kids.all P = p at *
    generalize decide ((ws.length : Int) = 1) = l at *
    generalize decide ((kids.length : Int) = 0) = m at *
    generalize decide (a = 0) = u at *
    generalize decide (b = 0) = v at *
    generalize decide (f = []) = z at *
    generalize okW f = o at *
    cases q <;> cases p <;> cases l <;> cases m <;> cases u <;> cases v <;> cases z <;> cases o <;> first | rfl | simp_all
  by_cases k3 : k = 3
  · subst k3
    show nodeS (true, 2, 4, 0, 5, false, 0, 0) 3 f ws a b kids P = _
    clear e1
    unfold nodeS oneQ nilB
    rw [show wK 3 = okW from rfl]
    dsimp only
    simp only [in_same]
    unfold inB
    generalize ws.all okW = q at *
    generalize kids.all P = p at *
    generalize decide ((2 : Int) ≤ (ws.length : Int)) = l1 at *
    generalize decide ((ws.length : Int) ≤ 4) = l2 at *
    generalize decide ((kids.length : Int) = 0) = m at *
    generalize decide ((0 : Int) ≤ a) = u1 at *
    generalize decide (a ≤ 5) = u2 at *
    generalize decide (b = 0) = v at *
    generalize decide (f = []) = z at *
    generalize okW f = o at *
    cases q <;> cases p <;> cases l1 <;> cases l2 <;> cases m <;> cases u1 <;> cases u2 <;> cases v <;> cases z <;> cases o <;> first | rfl | simp_all
  by_cases k4 : k = 4
  · subst k4
    show nodeS (true, 1, 1, 1, 2, false, 0, 0) 4 f ws a b kids P = _
    clear e1
    unfold nodeS oneQ nilB
    rw [show wK 4 = okW from rfl]
    dsimp only
    simp only [in_same]
    unfold inB
    generalize ws.all okW = q at *
    generalize kids.all P = p at *
    generalize decide ((ws.length : Int) = 1) = l at *
    generalize decide ((kids.length : Int) = 0) = m at *
    generalize decide ((1 : Int) ≤ a) = u1 at *
    generalize decide (a ≤ 2) = u2 at *
    generalize decide (b = 0) = v at *
    generalize decide (f = []) = z at *
    generalize okW f = o at *
    cases q <;> cases p <;> cases l <;> cases m <;> cases u1 <;> cases u2 <;> cases v <;> cases z <;> cases o <;> first | rfl | simp_all
  by_cases k5 : k = 5
  · subst k5
    show nodeS (true, 1, 1, 0, 0, false, 0, 0) 5 f ws a b kids P = _
    clear e1
    unfold nodeS oneQ nilB
    rw [show wK 5 = (fun w => okG w && !okW w) from rfl]
    dsimp only
    simp only [in_same]
    unfold inB
    generalize ws.all (fun w => okG w && !okW w) = q at *
    generalize kids.all P = p at *
    generalize decide ((ws.length : Int) = 1) = l at *
    generalize decide ((kids.length : Int) = 0) = m at *
    generalize decide (a = 0) = u at *
    generalize decide (b = 0) = v at *
    generalize decide (f = []) = z at *
    generalize okW f = o at *
    cases q <;> cases p <;> cases l <;> cases m <;> cases u <;> cases v <;> cases z <;> cases o <;> first | rfl | simp_all
  by_cases k6 : k = 6
  · subst k6
    show nodeS (true, 0, 0, 0, 999999999, true, 0, 0) 6 f ws a b kids P = _
    rw [show wK 6 = okW from rfl] at e1
    unfold nodeS oneQ nilB
    rw [show wK 6 = okW from rfl]
    dsimp only
    simp only [in_same]
    unfold inB
    generalize ws.all okW = q at *
    generalize kids.all P = p at *
    generalize decide ((ws.length : Int) = 0) = l at *
    generalize decide ((kids.length : Int) = 0) = m at *
    generalize decide ((0 : Int) ≤ a) = u1 at *
    generalize decide (a ≤ 999999999) = u2 at *
    generalize decide (a ≤ b) = v1 at *
    generalize decide (b ≤ 999999999) = v2 at *
    generalize decide (f = []) = z at *
    generalize okW f = o at *
    cases q <;> cases p <;> cases l <;> cases m <;> cases u1 <;> cases u2 <;> cases v1 <;> cases v2 <;> cases z <;> cases o <;> first | rfl | simp_all
  by_cases k7 : k = 7
  · subst k7
    show nodeS (false, 0, 0, 0, 0, false, 2, 4) 7 f ws a b kids P = _
    rw [show wK 7 = okW from rfl] at e1
    clear e2
    unfold nodeS oneQ nilB
    rw [show wK 7 = okW from rfl]
    dsimp only
    simp only [in_same]
    unfold inB
    generalize ws.all okW = q at *
    generalize kids.all P = p at *
    generalize decide ((ws.length : Int) = 0) = l at *
    generalize decide ((2 : Int) ≤ (kids.length : Int)) = m1 at *
    generalize decide ((kids.length : Int) ≤ 4) = m2 at *
    generalize decide (a = 0) = u at *
    generalize decide (b = 0) = v at *
    generalize decide (f = []) = z at *
    generalize okW f = o at *
    cases q <;> cases p <;> cases l <;> cases m1 <;> cases m2 <;> cases u <;> cases v <;> cases z <;> cases o <;> first | rfl | simp_all
  by_cases k8 : k = 8
  · subst k8
    show nodeS (false, 0, 0, 0, 0, false, 2, 4) 8 f ws a b kids P = _
    rw [show wK 8 = okW from rfl] at e1
    clear e2
    unfold nodeS oneQ nilB
    rw [show wK 8 = okW from rfl]
    dsimp only
    simp only [in_same]
    unfold inB
    generalize ws.all okW = q at *
    generalize kids.all P = p at *
    generalize decide ((ws.length : Int) = 0) = l at *
    generalize decide ((2 : Int) ≤ (kids.length : Int)) = m1 at *
    generalize decide ((kids.length : Int) ≤ 4) = m2 at *
    generalize decide (a = 0) = u at *
    generalize decide (b = 0) = v at *
    generalize decide (f = []) = z at *
    generalize okW f = o at *
    cases q <;> cases p <;> cases l <;> cases m1 <;> cases m2 <;> cases u <;> cases v <;> cases z <;> cases o <;> first | rfl | simp_all
  by_cases k9 : k = 9
  · subst k9
    show nodeS (false, 0, 0, 0, 0, false, 2, 2) 9 f ws a b kids P = _
    rw [show wK 9 = okW from rfl] at e1
    clear e2
    unfold nodeS oneQ nilB
    rw [show wK 9 = okW from rfl]
    dsimp only
    simp only [in_same]
    unfold inB
    generalize ws.all okW = q at *
    generalize kids.all P = p at *
    generalize decide ((ws.length : Int) = 0) = l at *
    generalize decide ((kids.length : Int) = 2) = m at *
    generalize decide (a = 0) = u at *
    generalize decide (b = 0) = v at *
    generalize decide (f = []) = z at *
    generalize okW f = o at *
    cases q <;> cases p <;> cases l <;> cases m <;> cases u <;> cases v <;> cases z <;> cases o <;> first | rfl | simp_all
  by_cases k10 : k = 10
  · subst k10
    show nodeS (false, 0, 0, 2, 9, false, 1, 1) 10 f ws a b kids P = _
    rw [show wK 10 = okW from rfl] at e1
    clear e2
    unfold nodeS oneQ nilB
    rw [show wK 10 = okW from rfl]
    dsimp only
    simp only [in_same]
    unfold inB
    generalize ws.all okW = q at *
    generalize kids.all P = p at *
    generalize decide ((ws.length : Int) = 0) = l at *
    generalize decide ((kids.length : Int) = 1) = m at *
    generalize decide ((2 : Int) ≤ a) = u1 at *
    generalize decide (a ≤ 9) = u2 at *
    generalize decide (b = 0) = v at *
    generalize decide (f = []) = z at *
    generalize okW f = o at *
    cases q <;> cases p <;> cases l <;> cases m <;> cases u1 <;> cases u2 <;> cases v <;> cases z <;> cases o <;> first | rfl | simp_all
  rw [shp_none k1 k2 k3 k4 k5 k6 k7 k8 k9 k10]
  unfold oneQ
  simp only [decide_eq_false k1, decide_eq_false k2, decide_eq_false k3, decide_eq_false k4, decide_eq_false k5, decide_eq_false k6, decide_eq_false k7, decide_eq_false k8, decide_eq_false k9, decide_eq_false k10, Bool.or_false, cond_false, Bool.false_and]
  rfl
theorem nodeOk_spec (N : Nat) (hM : Sm < N) (hN : N ≤ 1099511627776) : ∀ (n D : Nat), n < D → n ≤ 1000 → ∀ q, BQ n q → i_nodeOk_m N D q.kind q.field q.words q.lo q.hi q.kids (n : Int) = some (okQ n q)
  | 0, D + 1, _, _, q, _ => by
    rw [i_nodeOk_m]
    generalize mget (.int .i64) (.pair .bool (.pair (.int .i64) (.pair (.int .i64) (.pair (.int .i64) (.pair (.int .i64) (.pair .bool (.pair (.int .i64) (.int .i64)))))))) gm_shapes q.kind = o
    cases o <;> rfl
  | n + 1, D + 1, hD, hn, q, hq => by
    have ih := nodeOk_spec N hM hN n D (by omega) (by omega)
    obtain ⟨k, f, ws, a, b, kids⟩ := q
    obtain ⟨h1, h2, h3, h4, h5⟩ := hq
    rw [show i_nodeOk_m N (D + 1) (DQ.mk k f ws a b kids).kind (DQ.mk k f ws a b kids).field (DQ.mk k f ws a b kids).words (DQ.mk k f ws a b kids).lo (DQ.mk k f ws a b kids).hi (DQ.mk k f ws a b kids).kids ((n + 1 : Nat) : Int) = i_nodeOk_m N (D + 1) k f ws a b kids ((n + 1 : Nat) : Int) from rfl, nodeOk_one N hM hN n D (by omega) ih k f ws a b kids h1 h2 h3 h4 h5, node_kind, okQ]
end Go.Proofs.YtokkfonfajgomaaDoor
