/- What the laws' own functions over all types share. -/
import Derived.Test.YtlhkdngkjodgiaaBase
import Derived.Test.YtlhkdngkjodgiaaRows
import Derived.ProofKit
import Derived.Deep.Slices
import Derived.ChangeOld
set_option linter.unusedSimpArgs false
set_option linter.unusedVariables false
namespace Go.Proofs.Ytlhkdngkjodgiaa
open Go.RowKit
theorem SRep.one' {α : Type} {m : Nat} {C : CRep α} {w : World} {v : Value} {xs : List α} {p : Blk} (h : SRep m C w v xs p) : v.oneCell' = true := by
  obtain ⟨a, cap, rfl, _⟩ := h; rfl
theorem SOwn.one' {α : Type} {m : Nat} {C : CRep α} {w : World} {v : Value} {xs : List α} {p : Blk} (h : SOwn m C w v xs p) : v.oneCell' = true := by
  obtain ⟨a, cap, rfl, _⟩ := h; rfl
theorem SOwn.shape {α : Type} {m : Nat} {C : CRep α} {w : World} {v : Value} {xs : List α} {p : Blk} (h : SOwn m C w v xs p) : ∃ a c, v = .slice a xs.length c := by
  obtain ⟨a, cap, hv, _⟩ := h; exact ⟨a, cap, hv⟩
theorem below_tr {w b c : World} (k : Below b.heap.size b c) (h : Below w.heap.size w b) : Below w.heap.size w c := h.trans (k.mono h.size)
theorem below_drew {w a : World} (h : Below w.heap.size w a) : Below w.heap.size w a.drew := h.drew
def IntC : CRep Int := fun _ cs x _ => cs = [.int .i64 x]
theorem intGood : Good 1 IntC := by
  refine ⟨?_, ?_, ?_, ?_, ?_⟩
  · rintro w cs x p rfl; rfl
  · rintro w cs x p rfl u hu; simp at hu; subst hu; rfl
  · rintro w w' cs x p rfl hs; rfl
  · rintro w cs x p q rfl hs; rfl
  · rintro w cs x p rfl; rfl
theorem intLeaf : Leaf IntC := ⟨by rintro w cs x p rfl w' q; rfl⟩
def StrC : CRep ByteArray := fun _ cs x _ => cs = [.string x] ∧ x.size ≤ 9223372036854775807
theorem strGood : Good 1 StrC := by
  refine ⟨?_, ?_, ?_, ?_, ?_⟩
  · rintro w cs x p ⟨rfl, h⟩; rfl
  · rintro w cs x p ⟨rfl, h⟩ u hu; simp at hu; subst hu; rfl
  · rintro w w' cs x p ⟨rfl, h⟩ hs; exact ⟨rfl, h⟩
  · rintro w cs x p q ⟨rfl, h⟩ hs; exact ⟨rfl, h⟩
  · rintro w cs x p ⟨rfl, h⟩; exact ⟨rfl, h⟩
theorem strLeaf : Leaf StrC := ⟨by rintro w cs x p ⟨rfl, h⟩ w' q; exact ⟨rfl, h⟩⟩
def mkInt (_ : Int) (k : Nat) : Int := (k : Int)
def mkStr (_ : ByteArray) (k : Nat) : ByteArray := mText k
def cntOne {α : Type} (_ : α) : Nat := 1
/-- What is left of l when n is taken away. -/
def subM (l : Int) (n : Nat) : Int := if (n : Int) ≤ l then l - n else -1
theorem subM_pos {l : Int} {n : Nat} (h : (n : Int) ≤ l) : subM l n = l - n := if_pos h
theorem subM_neg {l : Int} {n : Nat} (h : ¬ (n : Int) ≤ l) : subM l n = -1 := if_neg h
theorem ret_int {k : IntKind} {a b : Int} (h : a = b) : Ending.returned (.int k a) = .returned (.int k b) := by rw [h]
theorem ret_bool {a b : Bool} (h : a = b) : Ending.returned (.bool a) = .returned (.bool b) := by rw [h]
theorem ret_str {a b : ByteArray} (h : a = b) : Ending.returned (.string a) = .returned (.string b) := by rw [h]
/-- The size of a slice: its length, and its elements' sizes. -/
def szL {α : Type} (f : α → Nat) : List α → Nat
  | [] => 0
  | x :: xs => f x + szL f xs + 1
section
variable {α : Type} (f : α → Nat)
theorem szL_len : ∀ (xs : List α), xs.length ≤ szL f xs
  | [] => Nat.le_refl _
  | x :: xs => by simp only [List.length_cons, szL]; have := szL_len xs; omega
theorem szL_take : ∀ (xs : List α) (k : Nat) (h : k < xs.length), szL f (xs.take (k + 1)) = szL f (xs.take k) + f xs[k] + 1
  | x :: xs, 0, _ => by simp [szL]
  | x :: xs, k + 1, h => by
    simp only [List.take_succ_cons, szL, List.getElem_cons_succ]
    rw [szL_take xs k (by simpa using h)]; omega
theorem szL_take_le : ∀ (xs : List α) (k : Nat), szL f (xs.take k) + (xs.length - k) ≤ szL f xs
  | [], k => by simp [szL]
  | x :: xs, 0 => by simp only [List.take_zero, szL, List.length_cons]; have := szL_len f xs; omega
  | x :: xs, k + 1 => by simp only [List.take_succ_cons, szL, List.length_cons]; have := szL_take_le xs k; omega
theorem szL_at (xs : List α) (k : Nat) (h : k < xs.length) : f xs[k] + 1 ≤ szL f xs := by
  have h1 := szL_take f xs k h
  have h2 := szL_take_le f xs (k + 1)
  omega
end
theorem len1 {β : Type} {l : List β} (h : l.length = 1) : ∃ c0, l = [c0] := by
  match l, h with
  | [c0], _ => exact ⟨c0, rfl⟩
theorem len2 {β : Type} {l : List β} (h : l.length = 2) : ∃ c0 c1, l = [c0, c1] := by
  match l, h with
  | [c0, c1], _ => exact ⟨c0, c1, rfl⟩
theorem len3 {β : Type} {l : List β} (h : l.length = 3) : ∃ c0 c1 c2, l = [c0, c1, c2] := by
  match l, h with
  | [c0, c1, c2], _ => exact ⟨c0, c1, c2, rfl⟩
theorem len4 {β : Type} {l : List β} (h : l.length = 4) : ∃ c0 c1 c2 c3, l = [c0, c1, c2, c3] := by
  match l, h with
  | [c0, c1, c2, c3], _ => exact ⟨c0, c1, c2, c3, rfl⟩
theorem len5 {β : Type} {l : List β} (h : l.length = 5) : ∃ c0 c1 c2 c3 c4, l = [c0, c1, c2, c3, c4] := by
  match l, h with
  | [c0, c1, c2, c3, c4], _ => exact ⟨c0, c1, c2, c3, c4, rfl⟩
theorem len6 {β : Type} {l : List β} (h : l.length = 6) : ∃ c0 c1 c2 c3 c4 c5, l = [c0, c1, c2, c3, c4, c5] := by
  match l, h with
  | [c0, c1, c2, c3, c4, c5], _ => exact ⟨c0, c1, c2, c3, c4, c5, rfl⟩
theorem len7 {β : Type} {l : List β} (h : l.length = 7) : ∃ c0 c1 c2 c3 c4 c5 c6, l = [c0, c1, c2, c3, c4, c5, c6] := by
  match l, h with
  | [c0, c1, c2, c3, c4, c5, c6], _ => exact ⟨c0, c1, c2, c3, c4, c5, c6, rfl⟩
theorem len8 {β : Type} {l : List β} (h : l.length = 8) : ∃ c0 c1 c2 c3 c4 c5 c6 c7, l = [c0, c1, c2, c3, c4, c5, c6, c7] := by
  match l, h with
  | [c0, c1, c2, c3, c4, c5, c6, c7], _ => exact ⟨c0, c1, c2, c3, c4, c5, c6, c7, rfl⟩
theorem ownKnob_none : ownKnob Try.prog.godebug = none := by kernel_rfl
theorem laid_out : laidOutB Try.prog = true := by kernel_rfl
/-! ### arguments, as the form reads them -/
section
variable {H : Type} {enc : TypeId × Value → H} {P : Program} {w : World} {spare : Nat → Bool} {held : Bool}
theorem read_slice {fuel : Nat} {t e : TypeId} {cs : List Value} {x : DataW H × List MemPlace} {α : Type} {m : Nat} {C : CRep α} (hm0 : 0 < m) (ht : P.underlying t = some (.slice e)) (hm : P.cellsOf e = m)
    (hel : ∀ (n : Nat) (cs : List Value) (y : DataW H × List MemPlace), DataW.trod enc P w 0 spare held n e cs = some y → cs.length = m → ∃ d : α, C w cs d (fun _ => True))
    (h : DataW.trod enc P w 0 spare held fuel t cs = some x) : ∃ v xs, cs = [v] ∧ SRep m C w v xs (fun _ => True) := by
  rcases DataW.trod_slice ht h with ⟨rfl, _⟩ | ⟨a, len, cap, elems, rest, n, _, rfl, _, _, hl, hcm, hlen, he, _⟩
  · exact ⟨_, [], rfl, SRep.nil _ _ _ _⟩
  · rw [hm] at he
    obtain ⟨xs, hxl, hx⟩ := choose_list (fun i (d : α) => ∃ cs', w.cells? 0 (a.add (i * m)) m = some cs' ∧ C w cs' d (fun _ => True)) len (fun i hi => by
      have h1 := he i hi
      rw [List.getElem?_eq_getElem (by omega)] at h1
      obtain ⟨cs', h2, h3⟩ := Option.bind_eq_some_iff.1 h1
      obtain ⟨d, hd⟩ := hel n cs' _ h3 (World.cells?_some h2).2.1
      exact ⟨d, cs', h2, hd⟩)
    refine ⟨_, xs, rfl, some a, cap, by rw [hxl], by simp only [maxLen] at hcm; exact ⟨by omega, by omega⟩, fun i d hd => ?_⟩
    obtain ⟨cs', h1, h2⟩ := hx i d hd
    obtain ⟨_, hn, hc⟩ := World.cells?_some h1
    have hsome : ∀ j c, cs'[j]? = some c → w.cell? (a.add (i * m + j)) = some c := by
      intro j c hj
      obtain ⟨hj1, rfl⟩ := List.getElem?_eq_some_iff.1 hj
      rw [← Addr.add_add]
      exact (hc j (by omega)).trans hj
    obtain ⟨b, o, rfl⟩ : ∃ b o, a = ⟨b, o, none⟩ := by
      have hi : i < len := by have := (List.getElem?_eq_some_iff.1 hd).1; omega
      obtain ⟨cs0, k1, _⟩ := hx 0 (xs[0]'(by omega)) (by simp)
      obtain ⟨_, kn, kc⟩ := World.cells?_some k1
      have h0 := kc 0 hm0
      rw [List.getElem?_eq_getElem (by omega), Addr.add_add] at h0
      obtain ⟨b, o, sp⟩ := a
      cases sp with
      | none => exact ⟨b, o, rfl⟩
      | some sp =>
        exfalso
        simp only [World.cell?, Addr.add, Nat.zero_mul, Nat.add_zero, if_true] at h0
        split at h0
        · simp at h0
        · cases h0
    have hb : b < w.heap.size := by
      have h0 := hsome 0 (cs'[0]'(by omega)) (by simp)
      rw [add_at] at h0
      exact lt_of_cell h0
    exact ⟨b, o, cs', rfl, trivial, hb, hn, fun j c hj => by rw [Nat.add_assoc, ← add_at]; exact hsome j c hj, h2⟩
theorem read_int {fuel : Nat} {t : TypeId} {cs : List Value} {x : DataW H × List MemPlace} (ht : P.underlying t = some (.int .i64)) (h : DataW.trod enc P w 0 spare held fuel t cs = some x) : ∃ d : Int, IntC w cs d (fun _ => True) := by
  obtain ⟨n, rfl, _, _⟩ := DataW.trod_int ht h; exact ⟨n, rfl⟩
theorem read_str {fuel : Nat} {t : TypeId} {cs : List Value} {x : DataW H × List MemPlace} (ht : P.underlying t = some .string) (h : DataW.trod enc P w 0 spare held fuel t cs = some x) : ∃ d : ByteArray, StrC w cs d (fun _ => True) := by
  obtain ⟨s, rfl, _, hs⟩ := DataW.trod_string ht h; exact ⟨s, rfl, by simp only [maxLen] at hs; omega⟩
end
/-- What a marking hands back: the next number; the marked slice. -/
def RetM {α : Type} (m : Nat) (C : CRep α) (v : Value) (xs : List α) (p : Blk) (n : Nat) (w : World) (e : Ending) (w' : World) : Prop :=
  e = .returned (.int .i64 (n : Int)) ∧ Upd p w w' ∧ SOwn m C w' v xs p
theorem cells1_of {w : World} {b o : Nat} {ds : List Value} (hn : ds.length = 1) (h : ∀ j c, ds[j]? = some c → w.cell? ⟨b, o + j, none⟩ = some c) : ∃ d0, w.cell? ⟨b, o, none⟩ = some d0 := by
  match ds, hn, h with
  | [d0], _, h => exact ⟨d0, h 0 _ rfl⟩
theorem look1 {w : World} {b o : Nat} {c0 : Value} (h0 : w.cell? ⟨b, o, none⟩ = some c0) : ∀ j c, [c0][j]? = some c → w.cell? ⟨b, o + j, none⟩ = some c
  | 0, c, h => by simp at h; subst h; exact h0
  | j + 1, c, h => by simp at h
theorem cells2_of {w : World} {b o : Nat} {ds : List Value} (hn : ds.length = 2) (h : ∀ j c, ds[j]? = some c → w.cell? ⟨b, o + j, none⟩ = some c) : ∃ d0 d1, w.cell? ⟨b, o, none⟩ = some d0 ∧ w.cell? ⟨b, o + 1, none⟩ = some d1 := by
  match ds, hn, h with
  | [d0, d1], _, h => exact ⟨d0, d1, h 0 _ rfl, h 1 _ rfl⟩
theorem look2 {w : World} {b o : Nat} {c0 c1 : Value} (h0 : w.cell? ⟨b, o, none⟩ = some c0) (h1 : w.cell? ⟨b, o + 1, none⟩ = some c1) : ∀ j c, [c0, c1][j]? = some c → w.cell? ⟨b, o + j, none⟩ = some c
  | 0, c, h => by simp at h; subst h; exact h0
  | 1, c, h => by simp at h; subst h; exact h1
  | j + 2, c, h => by simp at h
theorem cells3_of {w : World} {b o : Nat} {ds : List Value} (hn : ds.length = 3) (h : ∀ j c, ds[j]? = some c → w.cell? ⟨b, o + j, none⟩ = some c) : ∃ d0 d1 d2, w.cell? ⟨b, o, none⟩ = some d0 ∧ w.cell? ⟨b, o + 1, none⟩ = some d1 ∧ w.cell? ⟨b, o + 2, none⟩ = some d2 := by
  match ds, hn, h with
  | [d0, d1, d2], _, h => exact ⟨d0, d1, d2, h 0 _ rfl, h 1 _ rfl, h 2 _ rfl⟩
theorem look3 {w : World} {b o : Nat} {c0 c1 c2 : Value} (h0 : w.cell? ⟨b, o, none⟩ = some c0) (h1 : w.cell? ⟨b, o + 1, none⟩ = some c1) (h2 : w.cell? ⟨b, o + 2, none⟩ = some c2) : ∀ j c, [c0, c1, c2][j]? = some c → w.cell? ⟨b, o + j, none⟩ = some c
  | 0, c, h => by simp at h; subst h; exact h0
  | 1, c, h => by simp at h; subst h; exact h1
  | 2, c, h => by simp at h; subst h; exact h2
  | j + 3, c, h => by simp at h
theorem cells4_of {w : World} {b o : Nat} {ds : List Value} (hn : ds.length = 4) (h : ∀ j c, ds[j]? = some c → w.cell? ⟨b, o + j, none⟩ = some c) : ∃ d0 d1 d2 d3, w.cell? ⟨b, o, none⟩ = some d0 ∧ w.cell? ⟨b, o + 1, none⟩ = some d1 ∧ w.cell? ⟨b, o + 2, none⟩ = some d2 ∧ w.cell? ⟨b, o + 3, none⟩ = some d3 := by
  match ds, hn, h with
  | [d0, d1, d2, d3], _, h => exact ⟨d0, d1, d2, d3, h 0 _ rfl, h 1 _ rfl, h 2 _ rfl, h 3 _ rfl⟩
theorem look4 {w : World} {b o : Nat} {c0 c1 c2 c3 : Value} (h0 : w.cell? ⟨b, o, none⟩ = some c0) (h1 : w.cell? ⟨b, o + 1, none⟩ = some c1) (h2 : w.cell? ⟨b, o + 2, none⟩ = some c2) (h3 : w.cell? ⟨b, o + 3, none⟩ = some c3) : ∀ j c, [c0, c1, c2, c3][j]? = some c → w.cell? ⟨b, o + j, none⟩ = some c
  | 0, c, h => by simp at h; subst h; exact h0
  | 1, c, h => by simp at h; subst h; exact h1
  | 2, c, h => by simp at h; subst h; exact h2
  | 3, c, h => by simp at h; subst h; exact h3
  | j + 4, c, h => by simp at h
theorem cells5_of {w : World} {b o : Nat} {ds : List Value} (hn : ds.length = 5) (h : ∀ j c, ds[j]? = some c → w.cell? ⟨b, o + j, none⟩ = some c) : ∃ d0 d1 d2 d3 d4, w.cell? ⟨b, o, none⟩ = some d0 ∧ w.cell? ⟨b, o + 1, none⟩ = some d1 ∧ w.cell? ⟨b, o + 2, none⟩ = some d2 ∧ w.cell? ⟨b, o + 3, none⟩ = some d3 ∧ w.cell? ⟨b, o + 4, none⟩ = some d4 := by
  match ds, hn, h with
  | [d0, d1, d2, d3, d4], _, h => exact ⟨d0, d1, d2, d3, d4, h 0 _ rfl, h 1 _ rfl, h 2 _ rfl, h 3 _ rfl, h 4 _ rfl⟩
theorem look5 {w : World} {b o : Nat} {c0 c1 c2 c3 c4 : Value} (h0 : w.cell? ⟨b, o, none⟩ = some c0) (h1 : w.cell? ⟨b, o + 1, none⟩ = some c1) (h2 : w.cell? ⟨b, o + 2, none⟩ = some c2) (h3 : w.cell? ⟨b, o + 3, none⟩ = some c3) (h4 : w.cell? ⟨b, o + 4, none⟩ = some c4) : ∀ j c, [c0, c1, c2, c3, c4][j]? = some c → w.cell? ⟨b, o + j, none⟩ = some c
  | 0, c, h => by simp at h; subst h; exact h0
  | 1, c, h => by simp at h; subst h; exact h1
  | 2, c, h => by simp at h; subst h; exact h2
  | 3, c, h => by simp at h; subst h; exact h3
  | 4, c, h => by simp at h; subst h; exact h4
  | j + 5, c, h => by simp at h
theorem cells6_of {w : World} {b o : Nat} {ds : List Value} (hn : ds.length = 6) (h : ∀ j c, ds[j]? = some c → w.cell? ⟨b, o + j, none⟩ = some c) : ∃ d0 d1 d2 d3 d4 d5, w.cell? ⟨b, o, none⟩ = some d0 ∧ w.cell? ⟨b, o + 1, none⟩ = some d1 ∧ w.cell? ⟨b, o + 2, none⟩ = some d2 ∧ w.cell? ⟨b, o + 3, none⟩ = some d3 ∧ w.cell? ⟨b, o + 4, none⟩ = some d4 ∧ w.cell? ⟨b, o + 5, none⟩ = some d5 := by
  match ds, hn, h with
  | [d0, d1, d2, d3, d4, d5], _, h => exact ⟨d0, d1, d2, d3, d4, d5, h 0 _ rfl, h 1 _ rfl, h 2 _ rfl, h 3 _ rfl, h 4 _ rfl, h 5 _ rfl⟩
theorem look6 {w : World} {b o : Nat} {c0 c1 c2 c3 c4 c5 : Value} (h0 : w.cell? ⟨b, o, none⟩ = some c0) (h1 : w.cell? ⟨b, o + 1, none⟩ = some c1) (h2 : w.cell? ⟨b, o + 2, none⟩ = some c2) (h3 : w.cell? ⟨b, o + 3, none⟩ = some c3) (h4 : w.cell? ⟨b, o + 4, none⟩ = some c4) (h5 : w.cell? ⟨b, o + 5, none⟩ = some c5) : ∀ j c, [c0, c1, c2, c3, c4, c5][j]? = some c → w.cell? ⟨b, o + j, none⟩ = some c
  | 0, c, h => by simp at h; subst h; exact h0
  | 1, c, h => by simp at h; subst h; exact h1
  | 2, c, h => by simp at h; subst h; exact h2
  | 3, c, h => by simp at h; subst h; exact h3
  | 4, c, h => by simp at h; subst h; exact h4
  | 5, c, h => by simp at h; subst h; exact h5
  | j + 6, c, h => by simp at h
theorem cells7_of {w : World} {b o : Nat} {ds : List Value} (hn : ds.length = 7) (h : ∀ j c, ds[j]? = some c → w.cell? ⟨b, o + j, none⟩ = some c) : ∃ d0 d1 d2 d3 d4 d5 d6, w.cell? ⟨b, o, none⟩ = some d0 ∧ w.cell? ⟨b, o + 1, none⟩ = some d1 ∧ w.cell? ⟨b, o + 2, none⟩ = some d2 ∧ w.cell? ⟨b, o + 3, none⟩ = some d3 ∧ w.cell? ⟨b, o + 4, none⟩ = some d4 ∧ w.cell? ⟨b, o + 5, none⟩ = some d5 ∧ w.cell? ⟨b, o + 6, none⟩ = some d6 := by
  match ds, hn, h with
  | [d0, d1, d2, d3, d4, d5, d6], _, h => exact ⟨d0, d1, d2, d3, d4, d5, d6, h 0 _ rfl, h 1 _ rfl, h 2 _ rfl, h 3 _ rfl, h 4 _ rfl, h 5 _ rfl, h 6 _ rfl⟩
theorem look7 {w : World} {b o : Nat} {c0 c1 c2 c3 c4 c5 c6 : Value} (h0 : w.cell? ⟨b, o, none⟩ = some c0) (h1 : w.cell? ⟨b, o + 1, none⟩ = some c1) (h2 : w.cell? ⟨b, o + 2, none⟩ = some c2) (h3 : w.cell? ⟨b, o + 3, none⟩ = some c3) (h4 : w.cell? ⟨b, o + 4, none⟩ = some c4) (h5 : w.cell? ⟨b, o + 5, none⟩ = some c5) (h6 : w.cell? ⟨b, o + 6, none⟩ = some c6) : ∀ j c, [c0, c1, c2, c3, c4, c5, c6][j]? = some c → w.cell? ⟨b, o + j, none⟩ = some c
  | 0, c, h => by simp at h; subst h; exact h0
  | 1, c, h => by simp at h; subst h; exact h1
  | 2, c, h => by simp at h; subst h; exact h2
  | 3, c, h => by simp at h; subst h; exact h3
  | 4, c, h => by simp at h; subst h; exact h4
  | 5, c, h => by simp at h; subst h; exact h5
  | 6, c, h => by simp at h; subst h; exact h6
  | j + 7, c, h => by simp at h
theorem cells8_of {w : World} {b o : Nat} {ds : List Value} (hn : ds.length = 8) (h : ∀ j c, ds[j]? = some c → w.cell? ⟨b, o + j, none⟩ = some c) : ∃ d0 d1 d2 d3 d4 d5 d6 d7, w.cell? ⟨b, o, none⟩ = some d0 ∧ w.cell? ⟨b, o + 1, none⟩ = some d1 ∧ w.cell? ⟨b, o + 2, none⟩ = some d2 ∧ w.cell? ⟨b, o + 3, none⟩ = some d3 ∧ w.cell? ⟨b, o + 4, none⟩ = some d4 ∧ w.cell? ⟨b, o + 5, none⟩ = some d5 ∧ w.cell? ⟨b, o + 6, none⟩ = some d6 ∧ w.cell? ⟨b, o + 7, none⟩ = some d7 := by
  match ds, hn, h with
  | [d0, d1, d2, d3, d4, d5, d6, d7], _, h => exact ⟨d0, d1, d2, d3, d4, d5, d6, d7, h 0 _ rfl, h 1 _ rfl, h 2 _ rfl, h 3 _ rfl, h 4 _ rfl, h 5 _ rfl, h 6 _ rfl, h 7 _ rfl⟩
theorem look8 {w : World} {b o : Nat} {c0 c1 c2 c3 c4 c5 c6 c7 : Value} (h0 : w.cell? ⟨b, o, none⟩ = some c0) (h1 : w.cell? ⟨b, o + 1, none⟩ = some c1) (h2 : w.cell? ⟨b, o + 2, none⟩ = some c2) (h3 : w.cell? ⟨b, o + 3, none⟩ = some c3) (h4 : w.cell? ⟨b, o + 4, none⟩ = some c4) (h5 : w.cell? ⟨b, o + 5, none⟩ = some c5) (h6 : w.cell? ⟨b, o + 6, none⟩ = some c6) (h7 : w.cell? ⟨b, o + 7, none⟩ = some c7) : ∀ j c, [c0, c1, c2, c3, c4, c5, c6, c7][j]? = some c → w.cell? ⟨b, o + j, none⟩ = some c
  | 0, c, h => by simp at h; subst h; exact h0
  | 1, c, h => by simp at h; subst h; exact h1
  | 2, c, h => by simp at h; subst h; exact h2
  | 3, c, h => by simp at h; subst h; exact h3
  | 4, c, h => by simp at h; subst h; exact h4
  | 5, c, h => by simp at h; subst h; exact h5
  | 6, c, h => by simp at h; subst h; exact h6
  | 7, c, h => by simp at h; subst h; exact h7
  | j + 8, c, h => by simp at h
end Go.Proofs.Ytlhkdngkjodgiaa
