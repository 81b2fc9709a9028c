/- The engine, twenty-fourth part: functions. -/
import Derived.Test.YtcjbjmbialienaaGreatDoorK23
set_option linter.unusedSimpArgs false
set_option linter.unusedVariables false
namespace Go.Proofs.YtcjbjmbialienaaGreatDoor
open Go.RowKit
def ja8 (tmps : Array Value) : ResultVar → Sem Value
 | .tmp t => pure (tmps.getD t undef)
 | .cell ad t => do loadVar t (← asAddr (tmps.getD ad undef))
theorem jnz (fn : Func) (tmps : Array Value) : results fn tmps = (fn.results.mapM (ja8 tmps)) >>= fun vs => pure (if h : vs.size = 1 then vs[0] else .tuple vs) := by
 unfold results
 congr 1
theorem joo {c : Ctx} {x y : AV} {v : Value} (hx : x.one? = some y) (h : V3 c x v) : V2 c y v := by
 cases x with
 | tup _ => cases hx
 | _ => cases hx; exact h
section
variable {E : Env} (hE : EnvOk E) {s : LSt} {c : Ctx} {a : Act} {w : World} (hs : ∀ i, V3 c (getA s.L i) (a.tmps.getD i undef)) (hcw : c.w = w) (hbox : ∀ k b, lookB s.B k = some b → BoxAt c k (c.β k) b.cs)
include hE hs hcw hbox
theorem jtt (r : ResultVar) (x : AV) (h : resOne E s r = some x) : ∃ v, (ja8 a.tmps r).run E.P w = .ok v w ∧ V2 c x v := by
 cases r with
 | tmp t => exact ⟨_, rfl, joo h (hs t)⟩
 | cell ad T =>
  simp only [resOne] at h
  have hp0 := hs ad
  split at h
  case h_2 => cases h
  rename_i k q ty hk hT
  rw [hk] at hp0
  have ok := hE.ty _ _ hT
  obtain ⟨d, hu, hd⟩ := ok.desc
  obtain ⟨i, z, hi, hsz, _⟩ := ok.info
  split at h
  case isTrue => cases h
  rename_i hmk
  split at h
  case h_2 => cases h
  rename_i b hcs
  have hp : a.tmps.getD ad undef = .pointer (some ⟨c.β k, q, none⟩) := (v3_box (by simpa using hmk) hp0).2
  obtain ⟨vs, T', hv, ha⟩ := (hbox k b hcs).cells (by simpa using hmk)
  rw [hcw] at hv
  have hlen := ha.len
  split at h
  ·rename_i hagg
   split at h
   ·rename_i hle
    cases h
    refine ⟨.agg ((vs.drop q).take ty.size).toArray, ?_, _, rfl, (ha.drop q).take _⟩
    simp only [ja8, hp, asAddr, Sem.run_bind, Sem.run_pure, Result.andThen_ok]
    rw [loadVar_agg hu (hd.trans hagg) hi w _ ((vs.drop q).take ty.size) (by simp [hsz]; omega) (fun j v hj => ?_)]
    rw [List.getElem?_take] at hj
    split at hj
    ·rw [List.getElem?_drop] at hj
     rw [add_ptr, cell_box hv]; exact hj
    ·cases hj
   ·cases h
  ·rename_i hagg
   obtain ⟨v, hv2, hyv⟩ := ha.get q x h
   refine ⟨v, ?_, V2_of_V1 hyv.1⟩
   simp only [ja8, hp, asAddr, Sem.run_bind, Sem.run_pure, Result.andThen_ok]
   rw [loadVar_one hu (hd.trans (by simpa using hagg)) w _ v (by rw [cell_box hv]; exact hv2)]
theorem jhN : ∀ (rs : List ResultVar) (xs : List AV), resL E s rs = some xs → ∃ vs, (rs.mapM (ja8 a.tmps)).run E.P w = .ok vs w ∧ All2 (V2 c) xs vs
 | [], xs, h => by simp [resL] at h; subst h; exact ⟨[], rfl, True.intro⟩
 | r :: rs, xs, h => by
  simp only [resL] at h
  split at h
  ·rename_i x ys hx hy
   cases h
   obtain ⟨v, h1, h2⟩ := jtt hE hs hcw hbox r x hx
   obtain ⟨vs, h3, h4⟩ := jhN rs ys hy
   refine ⟨v :: vs, ?_, h2, h4⟩
   rw [List.mapM_cons, Sem.run_bind, h1, Result.andThen_ok, Sem.run_bind, h3]
   rfl
  ·cases h
theorem jrR (fn : Func) (x : AV) (h : resA E s fn.results.toList = some x) : ∃ v, (results fn a.tmps).run E.P w = .ok v w ∧ V3 c x v := by
 unfold resA at h
 have key : ∀ xs, resL E s fn.results.toList = some xs → ∃ vs : List Value, (results fn a.tmps).run E.P w = .ok (if h : vs.toArray.size = 1 then vs.toArray[0] else .tuple vs.toArray) w ∧ All2 (V2 c) xs vs := fun xs hx => by
  obtain ⟨vs, h1, h2⟩ := jhN hE hs hcw hbox _ xs hx
  refine ⟨vs, ?_, h2⟩
  rw [jnz, Array.mapM_eq_mapM_toList, Sem.run_bind, Sem.run_map, h1]
  rfl
 split at h
 ·rename_i y hy
  cases h
  obtain ⟨vs, h1, h2⟩ := key _ hy
  match vs, h2 with
  | [v], h2 =>
   refine ⟨v, by rw [h1]; simp, ?_⟩
   have h3 := h2.1
   cases x with
   | tup ys => exact h3.elim
   | _ => exact h3
 ·rename_i xs hne hxs
  cases h
  obtain ⟨vs, h1, h2⟩ := key _ hxs
  have hl := h2.len
  have hn : ¬ vs.toArray.size = 1 := by
   intro h
   match xs, hl, hne with
   | [y], hl, hne => exact hne y rfl
   | [], hl, _ => simp at h hl; omega
   | _ :: _ :: _, hl, _ => simp at h hl; omega
  refine ⟨.tuple vs.toArray, ?_, vs, rfl, h2⟩
  rw [h1, dif_neg hn]
 ·cases h
end
theorem jpG {E : Env} {s : LSt} (T : List (Nat × Option TS)) (rs : List ResultVar) : resA E { s with T := T } rs = resA E s rs := by
 have h1 : ∀ r, resOne E { s with T := T } r = resOne E s r := fun r => by cases r <;> rfl
 have h2 : ∀ l, resL E { s with T := T } l = resL E s l := fun l => by
  induction l with
  | nil => rfl
  | cons r l ih => simp only [resL, h1, ih]
 simp only [resA, h2]
mutual
def VS.toks : VS → List Nat
 | .own n _ _ _ => [n]
 | .mtk n _ _ _ => [n]
 | .tre n _ _ => [n]
 | .agg l => VS.toksL l
 | .tup l => VS.toksL l
 | .clo _ l => VS.toksL l
 | _ => []
def VS.toksL : List VS → List Nat
 | [] => []
 | v :: l => v.toks ++ VS.toksL l
end
def jc9 : List (Nat × Bool × List VS) → List Nat
 | [] => []
 | b :: l => VS.toksL b.2.2 ++ jc9 l
def Sh.names (s : Sh) : List Nat := s.boxes.map (·.1) ++ (VS.toksL s.vals ++ jc9 s.boxes)
mutual
theorem jnP : ∀ (v : VS) (ps : List Pay) (x : Nat × Option TS), x ∈ (inst v ps).2.2 → x.1 ∈ v.toks
 | .dead, ps, x, h => by cases h
 | .pv t, ps, x, h => by cases ps <;> cases h
 | .nils, ps, x, h => by cases h
 | .nilp, ps, x, h => by cases h
 | .box k o, ps, x, h => by cases h
 | .ptr t, ps, x, h => by cases ps <;> cases h
 | .own n t e d, ps, x, h => by
  simp only [inst] at h
  split at h
  ·simp at h; subst h; simp [VS.toks]
  ·cases h
 | .mtk n t e d, ps, x, h => by
  simp only [inst] at h
  split at h
  ·simp at h; subst h; simp [VS.toks]
  ·cases h
 | .tre n t e, ps, x, h => by
  simp only [inst] at h
  split at h
  ·simp at h; subst h; simp [VS.toks]
  ·cases h
 | .agg l, ps, x, h => jan l ps x h
 | .tup l, ps, x, h => jan l ps x h
 | .clo f l, ps, x, h => by
  cases ps with
  | nil => cases h
  | cons p ps => exact jan l _ x h
theorem jan : ∀ (l : List VS) (ps : List Pay) (x : Nat × Option TS), x ∈ (instL l ps).2.2 → x.1 ∈ VS.toksL l
 | [], ps, x, h => by cases h
 | v :: l, ps, x, h => by
  simp only [instL] at h
  rcases List.mem_append.1 h with h | h
  ·exact List.mem_append_left _ (jnP v ps x h)
  ·exact List.mem_append_right _ (jan l _ x h)
end
theorem jj4 : ∀ (l : List (Nat × Bool × List VS)) (ps : List Pay), (∀ x, x ∈ (instB l ps).2 → x.1 ∈ jc9 l) ∧ ∀ x, x ∈ (instB l ps).1 → x.1 ∈ l.map (·.1)
 | [], ps => ⟨(fun x h => by cases h), (fun x h => by cases h)⟩
 | (k, fz, vs) :: l, ps => by
  obtain ⟨h1, h2⟩ := jj4 l (instL vs ps).2.1
  refine ⟨fun x h => ?_, fun x h => ?_⟩
  ·simp only [instB] at h
   rcases List.mem_append.1 h with h | h
   ·exact List.mem_append_left _ (jan vs ps x h)
   ·exact List.mem_append_right _ (h1 x h)
  ·simp only [instB] at h
   rcases List.mem_cons.1 h with h | h
   ·subst h; simp
   ·exact List.mem_cons_of_mem _ (h2 x h)
theorem jq7 (sh : Sh) (y : HD sh.codes) : (∀ k, lookB (sh.mk' y).B k ≠ none → k ∈ sh.names) ∧ ∀ t, lookT (sh.mk' y).T t ≠ none → t ∈ sh.names := by
 obtain ⟨h1, h2⟩ := jj4 sh.boxes (instL sh.vals (unpack sh.codes y)).2.1
 refine ⟨fun k hk => ?_, fun t ht => ?_⟩
 ·obtain ⟨b, hb⟩ := Option.ne_none_iff_exists'.1 hk
  exact List.mem_append_left _ (h2 (k, b) (lookB_mem hb))
 ·obtain ⟨z, hz⟩ := Option.ne_none_iff_exists'.1 ht
  have := lookT_mem hz
  refine List.mem_append_right _ ?_
  rcases List.mem_append.1 this with h | h
  ·exact List.mem_append_left _ (jan sh.vals _ (t, some z) h)
  ·exact List.mem_append_right _ (h1 (t, some z) h)
theorem jsl {E : Env} (hE : EnvOk E) {f : FuncId} {fn : Func} {c : Code} (hf : E.P.funcs[f]? = some fn) (hname : (fn.name == "runtime.NumGoroutine") = false) (hbody : fn.body = some c) (N : Nat) (h : Hint) (m : Model) (hres : m.arg.names.all E.res = true) (hlen : Nat.ble m.arg.vals.length fn.ntmps = true)
  (hrun : ∀ a, m.run a = runF N E jba fn c h m.arg m.ret a) : ModelOk E.P f m := by
 refine ⟨⟨fn, hf, by simpa using hname, by rw [hbody]; rfl⟩, fun a r hr => ?_⟩
 rw [hrun a] at hr
 unfold runF at hr
 simp only at hr
 obtain ⟨s0, hs0⟩ : ∃ s0, s0 = m.arg.mk' a := ⟨_, rfl⟩
 rw [← hs0] at hr ⊢
 intro w S β τ F vs hgl hM ha
 have hL : s0.L.length ≤ fn.ntmps := by
  have : ∀ (l : List VS) (ps : List Pay), (instL l ps).1.length = l.length := by
   intro l
   induction l with
   | nil => intro ps; rfl
   | cons v l ih => intro ps; simp only [instL, List.length_cons, ih]
  have e : s0.L.length = m.arg.vals.length := by rw [hs0]; exact this _ _
  rw [e]; exact Nat.le_of_ble_eq_true hlen
 have hR0 : ROk E (lentRoot s0 β τ F S w) := by
  obtain ⟨n1, n2⟩ := jq7 m.arg a
  have hall := List.all_eq_true.1 hres
  refine ⟨fun k hk => hall k (n1 k ?_), fun t ht => hall t (n2 t ?_), hgl⟩
  ·rw [← hs0]
   intro e
   simp only [lentRoot, e] at hk
   exact hk rfl
  ·rw [← hs0]
   intro e
   simp only [lentRoot, e] at ht
   exact ht rfl
 have hl := ha.len
 obtain ⟨s1, hs1⟩ : ∃ s1 : LSt, s1 = ⟨s0.L ++ List.replicate (fn.ntmps - s0.L.length) (.tup []), s0.B, s0.T⟩ := ⟨_, rfl⟩
 rw [← hs1] at hr
 have hR : Rel (lentRoot s0 β τ F S w) s1 { tmps := vs.toArray ++ Array.replicate (fn.ntmps - vs.toArray.size) undef, defers := [] } w := by
  have hall : All2 (V3 (s1.ctx w S β τ)) s1.L (vs.toArray ++ Array.replicate (fn.ntmps - vs.toArray.size) undef).toList := by
   rw [hs1]
   simp only [Array.toList_append, Array.toList_replicate]
   refine All2.append (ha) ?_
   simp only [List.size_toArray]
   rw [hl]
   generalize fn.ntmps - vs.length = n
   induction n with
   | zero => exact True.intro
   | succ n ih => exact ⟨⟨[], rfl, True.intro⟩, ih⟩
  obtain ⟨h1, h2⟩ := jfs hall
  refine ⟨β, τ, F, S, by rw [hs1]; exact hM, h1, rfl, h2⟩
 refine calls_of_wp hf hbody (wp_mono (jkx hE hR0 N c h s1 _ hr _ _ hR) (fun e a' w' he => ?_))
 obtain ⟨s', hR', hq⟩ := he
 have fin : (match resA E s' fn.results.toList with | some v => m.ret.to0 E ⟨v :: extras m.ret.vals.tail s'.plug.T, s'.B, s'.plug.T⟩ | none => none) = some r → a'.defers = [] ∧ ∃ v, (results fn a'.tmps).run E.P w' = .ok v w' ∧ ∃ v' β' τ' F' S', Ending.returned v = .returned v' ∧ Mem (lentRoot s0 β τ F S w) (lookB (m.ret.mk' r).B) (lookT (m.ret.mk' r).T) β' τ' F' S' w' ∧ ∃ x, (m.ret.mk' r).L.head? = some x ∧ V3 ((m.ret.mk' r).ctx w' S' β' τ') x v' := fun hq => by
  split at hq
  case h_2 => cases hq
  rename_i x hx
  rw [← jpG (plugAll s'.T)] at hx
  obtain ⟨sp, hsp⟩ : ∃ sp, sp = s'.plug := ⟨_, rfl⟩
  have hR2 := jfP hR'
  have hx : resA E s'.plug fn.results.toList = some x := hx
  have hR2 : Rel _ s'.plug a' w' := hR2
  have hB2 : s'.B = sp.B := by rw [hsp]; rfl
  rw [hB2, ← hsp] at hq
  rw [← hsp] at hx hR2
  clear hR'
  obtain ⟨β1, τ1, F1, S1, hM1, hn1, hd1, hs1'⟩ := hR2
  obtain ⟨v, h1, h2⟩ := jrR hE (c := sp.ctx w' S1 β1 τ1) hs1' rfl (fun k b hk => (hM1.boxes k b hk).2.2.2) fn x hx
  unfold Sh.to0 at hq
  split at hq
  case h_2 => cases hq
  rename_i y acc hc
  split at hq
  case isFalse => cases hq
  rename_i hok
  cases hq
  have mtkCase : ∀ (n : Nat) (us : List Value) {l : List AV}, All2 (V3 (sp.ctx w' S1 β1 τ1)) l us → ∃ us', All2 (V3 (sp.ctx w' S1 β1 τ1)) ((if liveB (lookT sp.T n) then AV.mtk n else AV.dead) :: l) us' := fun n us {l} hus => by
   split
   ·rename_i hlv
    cases hz : lookT sp.T n with
    | none => rw [hz] at hlv; cases hlv
    | some z => cases z with
     | spent => rw [hz] at hlv; cases hlv
     | live tk =>
      exact ⟨τ1 n :: us, ⟨(hM1.toks n tk hz).cell, by show lookT sp.T n ≠ none; rw [hz]; simp, fun tk' _ => rfl⟩, hus⟩
   ·exact ⟨undef :: us, True.intro, hus⟩
  have hex : ∃ us, All2 (V3 (sp.ctx w' S1 β1 τ1)) (extras m.ret.vals.tail sp.T) us := by
   generalize m.ret.vals.tail = l
   induction l with
   | nil => exact ⟨[], True.intro⟩
   | cons q l ih =>
    obtain ⟨us, hus⟩ := ih
    cases q with
    | mtk n t e d => exact mtkCase n us hus
    | tre n t e => exact mtkCase n us hus
    | _ => exact ⟨undef :: us, True.intro, hus⟩
  obtain ⟨us, hus⟩ := hex
  obtain ⟨S', hM', hv'⟩ := jjv hR0 hM1 (s := sp) hc hok (vals := v :: us) ⟨h2, hus⟩
  refine ⟨hd1, v, h1, v, _, _, _, S', rfl, hM', ?_⟩
  cases hL1 : (m.ret.mk' r).L with
  | nil => rw [hL1] at hv'; exact hv'.elim
  | cons z zs => rw [hL1] at hv'; exact ⟨z, rfl, hv'.1⟩
 cases e with
 | normal => exact fin hq
 | ret => exact fin hq
 | _ => cases hq
theorem jcU {P : Program} {f : FuncId} (h : Enter P f) (m : Model) (hr : ∀ a, m.run a = none) : ModelOk P f m :=
 ⟨h, fun a r h' => by rw [hr] at h'; cases h'⟩
end Go.Proofs.YtcjbjmbialienaaGreatDoor
