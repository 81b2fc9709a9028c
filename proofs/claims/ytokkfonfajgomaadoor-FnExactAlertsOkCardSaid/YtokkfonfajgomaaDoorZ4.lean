/- Plain laws: questions measured, copied, held against themselves. -/
import Derived.Test.YtokkfonfajgomaaDoorZ3
set_option linter.unusedVariables false
set_option linter.unusedSimpArgs false
namespace Go.Proofs.YtokkfonfajgomaaDoor
open Go.RowKit
theorem szLoop_less {α : Type} (Z : α → Int → Option Int) (N : Nat) (hN : 1048576 < N) (P : α → Prop) (a : List α) (left : Int) (hl : a.length ≤ BigN) (h0 : 0 ≤ left) (h1 : left ≤ 1048576) (hZ : ∀ x, x ∈ a → ∀ l : Int, 0 ≤ l → l < left → SzP 0 l (Z x l) (P x)) :
    SzP 0 left (szLoop Z N a left) (a.length ≤ 1048576 ∧ ∀ x, x ∈ a → P x) := by
  unfold SzP szLoop
  have hl' : (a.length : Int) ≤ 9223372036854775807 := by have : a.length ≤ 9223372036854775807 := hl; omega
  refine Def.ite (by unfold fits; omega) ?_
  refine Def.dif (fun e => Def.ret (.inl rfl)) (fun e => ?_)
  refine Def.upto a.length (fun n g => ∃ l : Int, 0 ≤ l ∧ l + (a.length : Nat) ≤ left ∧ (∀ x, x ∈ a.take n → P x) ∧ g = (a, l, (n : Int))) ?_ ?_ N 0 _ (Nat.zero_le _) ⟨_, by omega, by omega, by simp, rfl⟩ (by omega)
  · rintro go _ ⟨l, hl0, hl1, hP, rfl⟩
    dsimp only
    rw [decide_eq_false (Int.lt_irrefl _), cond_false]
    exact Def.ret (.inr ⟨hl0, by omega, by omega, by rwa [List.take_length] at hP⟩)
  · rintro go n _ hn ⟨l, hl0, hl1, hP, rfl⟩ hgo
    dsimp only
    rw [decide_eq_true (by omega : (n : Int) < (a.length : Int)), cond_true, idx_at hn, Option.bind_some]
    refine Def.bind (hZ _ (List.getElem_mem hn) l hl0 (by omega)) fun r hr => ?_
    refine Def.dif (fun e => Def.ret (.inl rfl)) (fun e => ?_)
    rcases hr with hr | ⟨r0, r1, hx⟩
    · omega
    refine Def.ite (fits_nat (n := n) (by omega)) ?_
    refine hgo _ ⟨r, r0, by omega, fun x hx' => ?_, by rw [cast_succ']⟩
    rw [List.take_succ_eq_append_getElem hn, List.mem_append, List.mem_singleton] at hx'
    rcases hx' with hx' | rfl
    · exact hP x hx'
    · exact hx
def GQ : Nat → DQ → Prop
  | 0, _ => False
  | n + 1, q => q.field.length ≤ 1048576 ∧ q.words.length ≤ 1048576 ∧ (∀ w, w ∈ q.words → w.length ≤ 1048576) ∧ q.kids.length ≤ 1048576 ∧ ∀ c, c ∈ q.kids → GQ n c
theorem GQ.bq : ∀ (n d : Nat) (q : DQ), GQ d q → BQ n q
  | 0, _, _, _ => True.intro
  | _ + 1, 0, _, h => h.elim
  | n + 1, d + 1, q, ⟨h1, h2, h3, h4, h5⟩ => ⟨h1, h2, h3, h4, fun c hc => GQ.bq n d c (h5 c hc)⟩
theorem sz_query (N : Nat) (hN : 1048576 < N) : ∀ (D : Nat) (q : DQ), OkQ BigN q → ∀ left : Int, 0 ≤ left → left ≤ 1048576 → left < D → SzP 0 left (l_szQuery_m N D q.kind q.field q.words q.lo q.hi q.kids left) (GQ D q)
  | 0, _, _, left, h0, _, h => by omega
  | D + 1, q, ho, left, h0, h1, h => by
    obtain @⟨k, a, b, f, ws, kids, hk, hf, hn, hw, ha, hb, hm, hq⟩ := ho
    rw [l_szQuery_m]
    refine (SzP.len (k := 0) hf h0 h1 (fun g0 g1 => ?_) (R := GQ (D + 1) (DQ.mk k f ws a b kids)) (Q := ws.length ≤ 1048576 ∧ (∀ w, w ∈ ws → w.length ≤ 1048576) ∧ kids.length ≤ 1048576 ∧ ∀ c, c ∈ kids → GQ D c) (fun hl hr => ⟨hl, hr.1, hr.2.1, hr.2.2.1, hr.2.2.2⟩)).imp (Nat.zero_le _) id
    refine (SzP.then (j := 0) (szLoop2_spec N hN ws _ hn g0 (by omega) hw) (fun r r0 r1 => ?_) (Q := kids.length ≤ 1048576 ∧ ∀ c, c ∈ kids → GQ D c) (fun x y => ⟨x.1, x.2, y.1, y.2⟩)).imp (Nat.zero_le _) id
    refine SzP.neg (szLoop_less (fun (x : DQ) l => l_szQuery_m N D x.kind x.field x.words x.lo x.hi x.kids l) N hN (GQ D) kids r hm r0 (by omega) (fun x hx l l0 l1 => sz_query N hN D x (hq x hx) l l0 (by omega) (by omega))) id
abbrev toLoop2 {α β : Type} (T : α → Option β) (G : β → α) (z : α) (m : Int) (N : Nat) (a : List α) : Option (List α) :=
  (if (a.length : Int) = (a.length : Int) ∧ 0 ≤ (a.length : Int) ∧ (a.length : Int) * m ≤ 140737488355328 ∧ (a.length : Int) ≤ 140737488355328 then
    (iter (fun (go : (List α × List α × Int) → Option (List α)) (g : List α × List α × Int) =>
        match g with
        | (a2, out, i) =>
        (bif (decide (i < (a2.length : Int))) then
          (Option.bind (idx a2 i) fun (e : α) =>
            (Option.bind (T e) fun (r : β) =>
              (if 0 ≤ i ∧ i < (out.length : Int) then
                (Option.bind (out[i.toNat]?) fun (e2 : α) =>
                  (if fits (i + 1) then (go (a2, (out.set i.toNat (G r)), (i + 1))) else none))
                else none)))
          else
          (some out))) N (a, (List.replicate (a.length : Int).toNat z), 0))
    else none)
theorem toLoop2_spec {α β : Type} (T : α → Option β) (G : β → α) (z : α) (m : Int) (N : Nat) (a : List α) (h : a.length < N) (hN : N ≤ 1099511627776) (hm : (a.length : Int) * m ≤ 140737488355328) (hT : ∀ x, x ∈ a → ∃ r, T x = some r ∧ G r = x) : toLoop2 T G z m N a = some a := by
  unfold toLoop2
  rw [if_pos ⟨rfl, by omega, hm, by omega⟩]
  refine (iter_scan _ a.length (fun n => (a, a.take n ++ List.replicate (a.length - n) z, (n : Int))) (fun n => some a) (fun go => ?_) (fun go n hn hgo => ?_) N 0 (Nat.zero_le _) (by omega))
  · dsimp only
    rw [decide_eq_false (Int.lt_irrefl _), cond_false, List.take_length, Nat.sub_self]
    simp
  · have hn' : (n : Int) < (a.length : Int) := by omega
    have hol : (a.take n ++ List.replicate (a.length - n) z).length = a.length := by simp; omega
    obtain ⟨r, hr, hg⟩ := hT _ (List.getElem_mem hn)
    dsimp only
    rw [decide_eq_true hn', cond_true, idx_at hn, Option.bind_some, hr, Option.bind_some, if_pos (by omega), Int.toNat_natCast, List.getElem?_eq_getElem (by omega), Option.bind_some, if_pos (fits_nat (n := n) (by omega)), hg, take_set a z n hn]
    simp only [cast_succ'] at hgo
    exact hgo
theorem to_query (N : Nat) (hN : N ≤ 1099511627776) (hM : 1048576 < N) : ∀ (D : Nat) (q : DQ), GQ D q → l_toQuery_m N D q.kind q.field q.words q.lo q.hi q.kids = some (q.kind, q.field, q.words, q.lo, q.hi, q.kids)
  | D + 1, q, ⟨h1, h2, h3, h4, h5⟩ => by
    have e1 : l_toStringS_m N q.words = some q.words := toLoop_spec some [] 16 N q.words (by omega) hN (by omega) (fun x hx => rfl)
    have e2 : l_toQueryS_m N (fun a => l_toQuery_m N D a.1 a.2.1 a.2.2.1 a.2.2.2.1 a.2.2.2.2.1 a.2.2.2.2.2) q.kids = some q.kids :=
      toLoop2_spec (fun (e : DQ) => l_toQuery_m N D e.kind e.field e.words e.lo e.hi e.kids) (fun r => DQ.mk r.1 r.2.1 r.2.2.1 r.2.2.2.1 r.2.2.2.2.1 r.2.2.2.2.2) _ 88 N q.kids (by omega) hN (by omega)
        (fun x hx => ⟨_, to_query N hN hM D x (h5 x hx), by cases x; rfl⟩)
    rw [l_toQuery_m, e1, Option.bind_some, e2, Option.bind_some]
theorem eqLoop_self {α : Type} (E : α → α → Option Bool) (N : Nat) (a : List α) (h : a.length < N) (hN : N ≤ 1099511627776) (hE : ∀ x, x ∈ a → E x x = some true) : eqLoop E N a a = some true := by
  unfold eqLoop
  rw [decide_eq_true rfl, Bool.not_true, cond_false]
  refine (iter_scan _ a.length (fun n => (a, a, (n : Int))) (fun n => some true) (fun go => ?_) (fun go n hn hgo => ?_) N 0 (Nat.zero_le _) (by omega))
  · dsimp only
    rw [decide_eq_false (Int.lt_irrefl _), cond_false]
  · dsimp only
    rw [decide_eq_true (by omega : (n : Int) < (a.length : Int)), cond_true, idx_at hn, Option.bind_some, Option.bind_some, hE _ (List.getElem_mem hn), Option.bind_some, Bool.not_true, cond_false, if_pos (fits_nat (n := n) (by omega))]
    simp only [cast_succ'] at hgo
    exact hgo
theorem eq_query (N : Nat) (hN : N ≤ 1099511627776) (hM : 1048576 < N) : ∀ (D : Nat) (q : DQ), GQ D q → l_eqQuery_m N D q.kind q.field q.words q.lo q.hi q.kids q.kind q.field q.words q.lo q.hi q.kids = some true
  | D + 1, q, ⟨h1, h2, h3, h4, h5⟩ => by
    have e1 : l_eqStringS_m N q.words q.words = some true := eqLoop_self (fun e e2 => some (decide (e = e2))) N q.words (by omega) hN (fun x hx => by rw [decide_eq_true rfl])
    have e2 : l_eqQueryS_m N (fun a => l_eqQuery_m N D a.1 a.2.1 a.2.2.1 a.2.2.2.1 a.2.2.2.2.1 a.2.2.2.2.2.1 a.2.2.2.2.2.2.1 a.2.2.2.2.2.2.2.1 a.2.2.2.2.2.2.2.2.1 a.2.2.2.2.2.2.2.2.2.1 a.2.2.2.2.2.2.2.2.2.2.1 a.2.2.2.2.2.2.2.2.2.2.2) q.kids q.kids = some true :=
      eqLoop_self (fun (x y : DQ) => l_eqQuery_m N D x.kind x.field x.words x.lo x.hi x.kids y.kind y.field y.words y.lo y.hi y.kids) N q.kids (by omega) hN (fun x hx => eq_query N hN hM D x (h5 x hx))
    rw [l_eqQuery_m]
    simp only [decide_true, Bool.not_true, cond_false, e1, e2, Option.bind_some]
abbrev EAl : Type := List UInt8 × DQ
def GA (D : Nat) (x : EAl) : Prop := x.1.length ≤ 1048576 ∧ GQ D x.2
theorem sz_alerts (N : Nat) (hN : 1048576 < N) (xs : List EAl) (ho : okD BigN (.sl (.pair .str .q)) xs) (left : Int) (h0 : 0 ≤ left) (h1 : left ≤ 1048576) : SzP 0 left (l_szAlertS_m N xs left) (xs.length ≤ 1048576 ∧ ∀ x, x ∈ xs → GA N x) := by
  refine szLoop_less (fun (x : EAl) l => l_szAlert_m N x.1 x.2.kind x.2.field x.2.words x.2.lo x.2.hi x.2.kids l) N hN (GA N) xs left ho.1 h0 h1 (fun x hx l l0 l1 => ?_)
  have hx' := ho.2 x hx
  refine (SzP.len (k := 0) hx'.1 l0 (by omega) (fun g0 g1 => ?_) (R := GA N x) (Q := GQ N x.2) (fun a b => ⟨a, b⟩)).imp (Nat.zero_le _) id
  exact SzP.neg (sz_query N hN N x.2 hx'.2 _ g0 (by omega) (by omega)) id
theorem to_alerts (N : Nat) (hN : N ≤ 1099511627776) (hM : 1048576 < N) (xs : List EAl) (h : xs.length ≤ 1048576) (hx : ∀ x, x ∈ xs → GA N x) : l_toAlertS_m N xs = some xs :=
  toLoop2_spec (fun (e : EAl) => l_toAlert_m N e.1 e.2.kind e.2.field e.2.words e.2.lo e.2.hi e.2.kids) (fun r => (r.1, (DQ.mk r.2.1 r.2.2.1 r.2.2.2.1 r.2.2.2.2.1 r.2.2.2.2.2.1 r.2.2.2.2.2.2))) _ 104 N xs (by omega) hN (by omega)
    (fun x hm => ⟨(x.1, x.2.kind, x.2.field, x.2.words, x.2.lo, x.2.hi, x.2.kids), by show l_toAlert_m N _ _ _ _ _ _ _ = _; unfold l_toAlert_m; rw [to_query N hN hM N x.2 (hx x hm).2, Option.bind_some], by obtain ⟨s, q⟩ := x; cases q; rfl⟩)
theorem eq_alerts (N : Nat) (hN : N ≤ 1099511627776) (hM : 1048576 < N) (xs : List EAl) (h : xs.length ≤ 1048576) (hx : ∀ x, x ∈ xs → GA N x) : l_eqAlertS_m N xs xs = some true :=
  eqLoop_self (fun (e e2 : EAl) => l_eqAlert_m N e.1 e.2.kind e.2.field e.2.words e.2.lo e.2.hi e.2.kids e2.1 e2.2.kind e2.2.field e2.2.words e2.2.lo e2.2.hi e2.2.kids) N xs (by omega) hN
    (fun x hm => by show l_eqAlert_m N _ _ _ _ _ _ _ _ _ _ _ _ _ _ = _; unfold l_eqAlert_m; simp only [decide_true, Bool.not_true, cond_false, eq_query N hN hM N x.2 (hx x hm).2, Option.bind_some])
def alAt (xs : List EAl) (n : Nat) : EAl := xs[n]?.getD ([], .mk 0 [] [] 0 0 [])
theorem alAt_eq {xs : List EAl} {n : Nat} (h : n < xs.length) : xs[n] = alAt xs n := by unfold alAt; rw [List.getElem?_eq_getElem h]; rfl
def okAl (xs : List EAl) (n : Nat) : Bool := okW (alAt xs n).1 && okQ 4 (alAt xs n).2 && (decide (n = 0) || Op.bytesLess (alAt xs (n - 1)).1 (alAt xs n).1)
theorem l11Ok_spec (N : Nat) (hM : Sm < N) (hN : N ≤ 1099511627776) (q : DQ) (h : BQ 4 q) : s_l11Ok_m N q.kind q.field q.words q.lo q.hi q.kids = some (okQ 4 q) := by
  have hM' : 1048576 < N := hM
  unfold s_l11Ok_m
  rw [show (4 : Int) = ((4 : Nat) : Int) from rfl, l11Deep_spec N hM hN 4 N (by omega) (by omega) q h, Option.bind_some]
theorem queryOk_spec (N : Nat) (hM : Sm < N) (hN : N ≤ 1099511627776) (q : DQ) (h : BQ 4 q) : i_QueryOk_m N q.kind q.field q.words q.lo q.hi q.kids = some (okQ 4 q) := by
  have hM' : 1048576 < N := hM
  unfold i_QueryOk_m
  rw [show (4 : Int) = ((4 : Nat) : Int) from rfl, nodeOk_spec N hM hN 4 N (by omega) (by omega) q h, Option.bind_some]
theorem al_impl (N : Nat) (hM : Sm < N) (hN : N ≤ 1099511627776) (xs : List EAl) (h : xs.length ≤ 1048576) (hx : ∀ x, x ∈ xs → GA N x) : i_AlertsOk_m N xs = some (allN xs.length (okAl xs) && decide ((xs.length : Int) ≤ 6)) := by
  have hM' : 1048576 < N := hM
  unfold i_AlertsOk_m
  refine check_loop _ xs.length (fun n => (xs, xs, (xs.length : Int), (n : Int))) (okAl xs) _ (fun go => ?_) (fun go n hn => ?_) N (by omega)
  · dsimp only
    rw [decide_eq_false (Int.lt_irrefl _), cond_false]
  · dsimp only
    have hm := hx _ (List.getElem_mem hn)
    have hf : fits ((n : Int) + 1) := fits_nat (by omega)
    rw [decide_eq_true (by omega : (n : Int) < (xs.length : Int)), cond_true, idx_at hn, Option.bind_some, wordOk_spec N _ (by have := hm.1; omega) hN, Option.bind_some, queryOk_spec N hM hN _ (hm.2.bq 4 N), Option.bind_some]
    simp only [if_pos hf, cast_succ', alAt_eq hn]
    unfold okAl
    match n, hn with
    | 0, hn =>
      rw [decide_eq_false (by omega), cond_false, decide_eq_true rfl, Bool.true_or, Bool.and_true]
      cases okW (alAt xs 0).1 <;> cases okQ 4 (alAt xs 0).2 <;> rfl
    | n + 1, hn =>
      rw [decide_eq_true (by omega), cond_true, show ((n + 1 : Nat) : Int) - 1 = (n : Int) from by omega, if_pos (by unfold fits; omega), idx_at (by omega : n < xs.length), Option.bind_some, alAt_eq (by omega : n < xs.length), decide_eq_false (by omega), Bool.false_or, Nat.add_sub_cancel]
      cases okW (alAt xs (n + 1)).1 <;> cases okQ 4 (alAt xs (n + 1)).2 <;> cases Op.bytesLess (alAt xs n).1 (alAt xs (n + 1)).1 <;> rfl
theorem al_spec (N : Nat) (hM : Sm < N) (hN : N ≤ 1099511627776) (xs : List EAl) (h : xs.length ≤ 1048576) (hx : ∀ x, x ∈ xs → GA N x) : s_AlertsOk_m N xs = some (allN xs.length (okAl xs) && decide ((xs.length : Int) ≤ 6)) := by
  have hM' : 1048576 < N := hM
  suffices hs : s_l25Ok_m N xs = some (allN xs.length (okAl xs) && decide ((xs.length : Int) ≤ 6)) by unfold s_AlertsOk_m; rw [hs]; rfl
  unfold s_l25Ok_m
  refine check_loop _ xs.length (fun n => (xs, (n : Int))) (okAl xs) (decide ((xs.length : Int) ≤ 6)) (fun go => ?_) (fun go n hn => ?_) N (by omega)
  · dsimp only
    rw [decide_eq_false (Int.lt_irrefl _), cond_false]
  · dsimp only
    have hm := hx _ (List.getElem_mem hn)
    rw [alAt_eq hn] at hm
    have hf : fits ((n : Int) + 1) := fits_nat (by omega)
    rw [decide_eq_true (by omega : (n : Int) < (xs.length : Int)), cond_true, idx_at hn]
    simp only [Option.bind_some, alAt_eq hn, l1WordOk_spec N _ (by have := hm.1; omega : (alAt xs n).1.length < N) hN, l11Ok_spec N hM hN _ (hm.2.bq 4 N), if_pos hf, cast_succ', bytesLess_or]
    unfold okAl
    match n, hn with
    | 0, hn =>
      rw [decide_eq_false (by omega), cond_false, decide_eq_true rfl, Bool.true_or, Bool.and_true]
      cases okW (alAt xs 0).1 <;> cases okQ 4 (alAt xs 0).2 <;> rfl
    | n + 1, hn =>
      rw [decide_eq_true (by omega), cond_true, show ((n + 1 : Nat) : Int) - 1 = (n : Int) from by omega, if_pos (by unfold fits; omega), idx_at (by omega : n < xs.length), Option.bind_some, alAt_eq (by omega : n < xs.length), decide_eq_false (by omega), Bool.false_or, Nat.add_sub_cancel]
      cases okW (alAt xs (n + 1)).1 <;> cases okQ 4 (alAt xs (n + 1)).2 <;> cases Op.bytesLess (alAt xs n).1 (alAt xs (n + 1)).1 <;> rfl
theorem fnExactAlertsOk_law (xs : List EAl) (ho : okD BigN (.sl (.pair .str .q)) xs) : l_FnExactAlertsOk_m 1048700 xs = some true := by
  unfold l_FnExactAlertsOk_m
  obtain ⟨r, h1, h2⟩ := sz_alerts 1048700 (by omega) xs ho 1048576 (by omega) (by omega)
  rw [h1, Option.bind_some]
  rcases h2 with rfl | ⟨h0, _, hl, hx⟩
  · rfl
  · rw [decide_eq_false (by omega), cond_false, to_alerts 1048700 (by omega) (by omega) xs hl hx, Option.bind_some, al_spec 1048700 (by show 1048576 < _; omega) (by omega) xs hl hx]
    simp only [Option.bind_some, al_impl 1048700 (by show 1048576 < _; omega) (by omega) xs hl hx, eq_alerts 1048700 (by omega) (by omega) xs hl hx, beq_self_eq_true, Bool.not_true, cond_false]
end Go.Proofs.YtokkfonfajgomaaDoor
