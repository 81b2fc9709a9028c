/- The engine, twenty-first part: regions, whatever order is drawn. -/
import Derived.Test.YtcjbjmbialienaaGreatDoorK20
set_option linter.unusedSimpArgs false
set_option linter.unusedVariables false
namespace Go.Proofs.YtcjbjmbialienaaGreatDoor
open Go.RowKit
def jec : List Oper → List Nat → List Nat
 | [], acc => acc
 | o :: l, acc => jec l (acc ++ [o.after.toList.foldl (fun m e => if Region.binds .any e then m ||| (1 <<< e.on) ||| acc.getD e.on 0 else m) 0])
def jex (all : Array Oper) (ms : List Nat) (l : List (Oper × FP)) (i j : Nat) : Bool :=
 (ms.getD j 0).testBit i || match l[i]?, l[j]? with
  | some (x, p), some (y, q) => indepB all x y p q
  | _, _ => false
def jde (all : List Oper) (fps : List FP) : Bool :=
 let ms := jec all []
 let l := all.zip fps
 (List.range all.length).all fun j => (List.range j).all fun i => jex all.toArray ms l i j
inductive Ahead (all : Array Oper) : Nat → Nat → Prop where
 | edge (i j : Nat) (o : Oper) (e : Edge) (hj : all[j]? = some o) (he : e ∈ o.after) (hb : Region.binds .any e = true) (hi : e.on = i) : Ahead all i j
 | step (i k j : Nat) (o : Oper) (e : Edge) (hj : all[j]? = some o) (he : e ∈ o.after) (hb : Region.binds .any e = true) (hk : e.on = k) (h : Ahead all i k) : Ahead all i j
theorem jf4 (all : List Oper) : ∀ (l : List Oper) (acc : List Nat), all = all.take acc.length ++ l → (∀ j i, (acc.getD j 0).testBit i = true → Ahead all.toArray i j) → ∀ j i, ((jec l acc).getD j 0).testBit i = true → Ahead all.toArray i j
 | [], acc, _, h => h
 | o :: l, acc, hall, h => by
  have hlen : acc.length < all.length := by
   have := congrArg List.length hall
   simp at this; omega
  have ho : all[acc.length]? = some o := by
   rw [hall]
   rw [List.getElem?_append_right (by simp; omega)]
   simp [Nat.min_eq_left (Nat.le_of_lt hlen)]
  refine jf4 all l _ ?_ (fun j i hb => ?_)
  ·simp only [List.length_append, List.length_singleton]
   rw [List.take_succ_eq_append_getElem hlen]
   have : all[acc.length] = o := by rw [List.getElem?_eq_getElem hlen] at ho; exact Option.some.inj ho
   rw [this, List.append_assoc]
   simpa using hall
  ·by_cases hj : j < acc.length
   ·rw [List.getD_eq_getElem?_getD, List.getElem?_append_left hj, ← List.getD_eq_getElem?_getD] at hb
    exact h j i hb
   ·by_cases hj2 : j = acc.length
    ·subst hj2
     have hfold : ∀ (es : List Edge) (m : Nat), (es.foldl (fun m e => if Region.binds .any e then m ||| (1 <<< e.on) ||| acc.getD e.on 0 else m) m).testBit i = true → m.testBit i = true ∨ ∃ e, e ∈ es ∧ Region.binds .any e = true ∧ (e.on = i ∨ (acc.getD e.on 0).testBit i = true) := by
      intro es
      induction es with
      | nil => exact fun m hm => .inl hm
      | cons e es ih =>
       intro m hm
       simp only [List.foldl_cons] at hm
       rcases ih _ hm with h1 | ⟨e', h1, h2, h3⟩
       ·split at h1
        ·rename_i hbd
         simp only [Nat.testBit_or, Bool.or_eq_true, Nat.one_shiftLeft, Nat.testBit_two_pow] at h1
         rcases h1 with (h1 | h1) | h1
         ·exact .inl h1
         ·exact .inr ⟨e, List.mem_cons_self, hbd, .inl (by simpa using h1)⟩
         ·exact .inr ⟨e, List.mem_cons_self, hbd, .inr h1⟩
        ·exact .inl h1
       ·exact .inr ⟨e', List.mem_cons_of_mem _ h1, h2, h3⟩
     have hb' : ((o.after.toList.foldl (fun m e => if Region.binds .any e then m ||| (1 <<< e.on) ||| acc.getD e.on 0 else m) 0)).testBit i = true := by
      simpa [List.getD] using hb
     rcases hfold _ _ hb' with h1 | ⟨e, h1, h2, h3⟩
     ·simp at h1
     ·rcases h3 with h3 | h3
      ·exact .edge i _ o e (by simpa using ho) (by simpa using h1) h2 h3
      ·exact .step i e.on _ o e (by simpa using ho) (by simpa using h1) h2 rfl (h _ _ h3)
    ·have : acc.length + 1 ≤ j := by omega
     rw [List.getD_eq_getElem?_getD, List.getElem?_eq_none (by simp; omega)] at hb
     simp at hb
def ja3 (all : Array Oper) (listed : Array Bool) : Prop := ∀ j o e, listed.getD j false = true → all[j]? = some o → e ∈ o.after → Region.binds .any e = true → listed.getD e.on false = true
theorem jpQ {all : Array Oper} {listed : Array Bool} (hc : ja3 all listed) {i j : Nat} (h : Ahead all i j) : listed.getD j false = true → listed.getD i false = true := by
 induction h with
 | edge j o e hj he hb hi => exact fun hl => hi ▸ hc j o e hl hj he hb
 | step k j o e hj he hb hk h ih => exact fun hl => ih (hk ▸ hc j o e hl hj he hb)
theorem jtD {all : Array Oper} {listed : Array Bool} (hc : ja3 all listed) {i j : Nat} (h : Ahead all i j) (hr : j ∈ Region.ready .any all listed) : listed.getD i false = true := by
 obtain ⟨_, o, ho, hall⟩ := mem_ready.1 hr
 cases h with
 | edge _ o' e hj he hb hi => rw [hj] at ho; cases ho; exact hi ▸ hall e he hb
 | step k _ o' e hj he hb hk h => rw [hj] at ho; cases ho; exact jpQ hc h (hk ▸ hall e he hb)
def jke (all : Array Oper) (rem : List (Nat × Oper × FP)) : Prop :=
 ∀ (a b : Nat) i j x y p q, a < b → rem[a]? = some (i, x, p) → rem[b]? = some (j, y, q) → Ahead all i j ∨ Indep all x y p q
theorem jhM {E : Env} (hE : EnvOk E) {all : Array Oper} {Q : Exit → Act → World → Prop} {R : Root} (hR0 : ROk E R) : ∀ (fuel : Nat) (rem : List (Nat × Oper × FP)) (listed : Array Bool) (s s' : LSt) (hQ : ∀ a w, Rel R s' a w → Q .normal a w) (a : Act) (w : World), rem.length = fuel → listed.size = all.size →
  (∀ i, listed.getD i true = false ↔ ∃ x p, (i, x, p) ∈ rem) → (∀ i x p, (i, x, p) ∈ rem → all[i]? = some x) → (∀ (k k' : Nat) i x p x' p', rem[k]? = some (i, x, p) → rem[k']? = some (i, x', p') → k = k') → jke all rem → ja3 all listed → Runs E all (rem.map (·.2.1)) s s' (rem.map (·.2.2)) → Rel R s a w →
  (Region.ready .any all listed = [] → rem = []) → (∀ l : Array Bool, l.size = all.size → (∃ i, i < all.size ∧ l.getD i true = false) → ja3 all l → Region.ready .any all l ≠ []) → wpAny E.P .any all Q fuel listed a w
 | 0, rem, listed, s, s', hQ, a, w, hlen, hsz, hrem, hall, hinj, hp, hc, hr, hR, hne, hlive => by
  have : rem = [] := List.eq_nil_of_length_eq_zero hlen
  subst this
  have hnil : Region.ready .any all listed = [] := by
   rw [List.eq_nil_iff_forall_not_mem]
   intro i hi
   obtain ⟨x, p, h⟩ := (hrem i).1 (mem_ready.1 hi).1
   simp at h
  refine ⟨hnil, hQ a w ?_⟩
  rw [hr.1]; exact hR
 | fuel + 1, rem, listed, s, s', hQ, a, w, hlen, hsz, hrem, hall, hinj, hp, hc, hr, hR, hne, hlive => by
  refine ⟨fun h => ?_, fun i hi => ?_⟩
  ·rw [hne h] at hlen; simp at hlen
  ·obtain ⟨hun, o, ho, hafter⟩ := mem_ready.1 hi
   obtain ⟨x, p, hmem⟩ := (hrem i).1 hun
   obtain ⟨k, hk, hk2⟩ := List.mem_iff_getElem.1 hmem
   have hk3 : rem[k]? = some (i, x, p) := by rw [List.getElem?_eq_getElem hk, hk2]
   have hxo : all[i]? = some x := hall i x p hmem
   obtain ⟨l1, l2, e1, e2, e3⟩ : ∃ l1 l2 : List (Nat × Oper × FP), rem = l1 ++ (i, x, p) :: l2 ∧ l1.length = k ∧ (∀ y, y ∈ l1 → y ∈ rem) := by
    refine ⟨rem.take k, rem.drop (k + 1), ?_, by simp; omega, fun y hy => List.mem_of_mem_take hy⟩
    conv => lhs; rw [← List.take_append_drop k rem]
    rw [List.drop_eq_getElem_cons hk, hk2]
   subst e1
   rw [List.map_append, List.map_cons, List.map_append, List.map_cons] at hr
   obtain ⟨e, s2, h1, h2, hlk⟩ := runs_front _ _ _ _ _ _ (by simp) hr (fun t y q hy hq => by
    rw [List.getElem?_map] at hy hq
    cases ht : l1[t]? with
    | none => simp [ht] at hy
    | some z =>
     obtain ⟨j, y', q'⟩ := z
     simp [ht] at hy hq
     subst hy; subst hq
     have htl : t < l1.length := (List.getElem?_eq_some_iff.1 ht).1
     rcases hp t k j i y' x q' p (by omega) (by rw [List.getElem?_append_left htl]; exact ht) hk3 with h | h
     ·have hl := jtD hc h hi
      have hju : listed.getD j true = false := (hrem j).2 ⟨y', q', List.mem_append_left _ (List.mem_of_getElem? ht)⟩
      exfalso
      have hjs : j < listed.size := by
       rcases Nat.lt_or_ge j listed.size with h' | h'
       ·exact h'
       ·simp [Array.getD, Nat.not_lt.2 h'] at hl
      simp [Array.getD, hjs] at hl hju
      rw [hl] at hju; cases hju
     ·exact h)
   have his : i < listed.size := by rw [hsz]; exact (Array.getElem?_eq_some_iff.1 hxo).1
   have hset : ∀ j d, (listed.setIfInBounds i true).getD j d = if j = i then true else listed.getD j d := fun j d => by
    by_cases h : j = i
    ·subst h; simp [Array.getD, his]
    ·rw [if_neg h, getD_set_ne d (Ne.symm h)]
   have hclosed : ja3 all (listed.setIfInBounds i true) := fun j o' e' hl hj he hb => by
    rw [hset] at hl ⊢
    by_cases h : j = i
    ·subst h
     rw [hj] at ho; cases ho
     have := hafter e' he hb
     rw [this]; simp
    ·rw [if_neg h] at hl
     rw [hc j o' e' hl hj he hb]; simp
   have hiu : ∀ y q, (i, y, q) ∉ l1 ++ l2 := fun y q hin => by
    rcases List.mem_append.1 hin with hin | hin
    ·obtain ⟨t, ht, ht2⟩ := List.mem_iff_getElem.1 hin
     have := hinj t k i y q x p (by rw [List.getElem?_append_left ht, List.getElem?_eq_getElem ht, ht2]) hk3
     omega
    ·obtain ⟨t, ht, ht2⟩ := List.mem_iff_getElem.1 hin
     have := hinj (l1.length + (t + 1)) k i y q x p (by rw [List.getElem?_append_right (by omega), Nat.add_sub_cancel_left, List.getElem?_cons_succ, List.getElem?_eq_getElem ht, ht2]) hk3
     omega
   have hsub : ∀ (t : Nat) z, (l1 ++ l2)[t]? = some z → ∃ t', (l1 ++ (i, x, p) :: l2)[t']? = some z ∧ t' = if t < l1.length then t else t + 1 := fun t z hz => by
    by_cases ht : t < l1.length
    ·rw [List.getElem?_append_left ht] at hz
     exact ⟨t, by rw [List.getElem?_append_left ht]; exact hz, by rw [if_pos ht]⟩
    ·rw [List.getElem?_append_right (by omega)] at hz
     refine ⟨t + 1, ?_, by rw [if_neg ht]⟩
     rw [List.getElem?_append_right (by omega), show t + 1 - l1.length = (t - l1.length) + 1 from by omega, List.getElem?_cons_succ]; exact hz
   have hrem' : ∀ j, (listed.setIfInBounds i true).getD j true = false ↔ ∃ y q, (j, y, q) ∈ l1 ++ l2 := fun j => by
    rw [hset]
    by_cases h : j = i
    ·subst h
     simp only [if_true]
     exact ⟨(fun h => by cases h), fun ⟨y, q, h⟩ => absurd h (hiu y q)⟩
    ·rw [if_neg h, hrem j]
     constructor
     ·rintro ⟨y, q, hin⟩
      refine ⟨y, q, ?_⟩
      rcases List.mem_append.1 hin with hin | hin
      ·exact List.mem_append_left _ hin
      ·rcases List.mem_cons.1 hin with hin | hin
       ·cases hin; exact absurd rfl h
       ·exact List.mem_append_right _ hin
     ·rintro ⟨y, q, hin⟩
      refine ⟨y, q, ?_⟩
      rcases List.mem_append.1 hin with hin | hin
      ·exact List.mem_append_left _ hin
      ·exact List.mem_append_right _ (List.mem_cons_of_mem _ hin)
   refine jif hE h1 hxo hR0 hR (fun a' w' hR' => jhM hE hR0 fuel (l1 ++ l2) _ _ s2 (fun a w h => hQ a w (hlk.rel h)) a' w' (by simp at hlen ⊢; omega) (by simpa using hsz) hrem' (fun j y q hin => ?_) (fun t t' j y q y' q' ht ht' => ?_) (fun t t' j j' y y' q q' hlt ht ht' => ?_) hclosed (by rw [List.map_append, List.map_append]; exact h2) hR' (fun hnil => ?_) hlive)
   ·exact hall j y q (by
     rcases List.mem_append.1 hin with hin | hin
     ·exact List.mem_append_left _ hin
     ·exact List.mem_append_right _ (List.mem_cons_of_mem _ hin))
   ·obtain ⟨u, hu, eu⟩ := hsub t _ ht
    obtain ⟨u', hu', eu'⟩ := hsub t' _ ht'
    have := hinj u u' j y q y' q' hu hu'
    split at eu <;> split at eu' <;> omega
   ·obtain ⟨u, hu, eu⟩ := hsub t _ ht
    obtain ⟨u', hu', eu'⟩ := hsub t' _ ht'
    exact hp u u' j j' y y' q q' (by split at eu <;> split at eu' <;> omega) hu hu'
   ·rcases List.eq_nil_or_concat (l1 ++ l2) with h | ⟨l, z, h⟩
    ·exact h
    ·exfalso
     obtain ⟨j, y, q⟩ := z
     have hin : (j, y, q) ∈ l1 ++ l2 := by rw [h]; simp
     have hju := (hrem' j).2 ⟨y, q, hin⟩
     have hjs : j < all.size := by
      have := hall j y q (by
       rcases List.mem_append.1 hin with hin | hin
       ·exact List.mem_append_left _ hin
       ·exact List.mem_append_right _ (List.mem_cons_of_mem _ hin))
      exact (Array.getElem?_eq_some_iff.1 this).1
     exact hlive _ (by simpa using hsz) ⟨j, hjs, hju⟩ hclosed hnil
def jbu (all : List Oper) : Bool := (List.range all.length).all fun j => match all[j]? with
 | some o => o.after.toList.all fun e => !Region.binds .any e || decide (e.on < j)
 | none => true
theorem jhi {all : Array Oper} (hb : jbu all.toList = true) (j : Nat) (o : Oper) (hj : all[j]? = some o) (e : Edge) (he : e ∈ o.after) (hbd : Region.binds .any e = true) : e.on < j := by
 have hjl : j < all.size := (Array.getElem?_eq_some_iff.1 hj).1
 have h1 := List.all_eq_true.1 hb j (by simpa using hjl)
 rw [show all.toList[j]? = some o from by simpa using hj] at h1
 have h2 := List.all_eq_true.1 h1 e (by simpa using he)
 rw [hbd] at h2
 simpa using h2
theorem jev {all : Array Oper} (hb : jbu all.toList = true) (l : Array Bool) (hsz : l.size = all.size) (h : ∃ i, i < all.size ∧ l.getD i true = false) : Region.ready .any all l ≠ [] := by
 obtain ⟨i, hi, hu⟩ := h
 have key : ∀ n i, i ≤ n → i < all.size → l.getD i true = false → ∃ j, j ∈ Region.ready .any all l := by
  intro n
  induction n with
  | zero =>
   intro i hin hi hu
   obtain rfl : i = 0 := by omega
   refine ⟨0, mem_ready.2 ⟨hu, all[0], by simp [hi], fun e he hbd => ?_⟩⟩
   have := jhi hb 0 all[0] (by simp [hi]) e he hbd
   omega
  | succ n ih =>
   intro i hin hi hu
   by_cases hall : ∀ e, e ∈ (all[i]).after → Region.binds .any e = true → l.getD e.on false = true
   ·exact ⟨i, mem_ready.2 ⟨hu, all[i], by simp [hi], hall⟩⟩
   ·obtain ⟨e, he⟩ := Classical.not_forall.1 hall
    obtain ⟨he1, he2⟩ := Classical.not_imp.1 he
    obtain ⟨hbd, hnl⟩ := Classical.not_imp.1 he2
    have := jhi hb i all[i] (by simp [hi]) e he1 hbd
    have hon : e.on < all.size := by omega
    refine ih e.on (by omega) hon ?_
    simp [Array.getD, hsz, hon] at hnl ⊢
    exact hnl
 obtain ⟨j, hj⟩ := key i i (Nat.le_refl _) hi hu
 exact List.ne_nil_of_mem hj
end Go.Proofs.YtcjbjmbialienaaGreatDoor
