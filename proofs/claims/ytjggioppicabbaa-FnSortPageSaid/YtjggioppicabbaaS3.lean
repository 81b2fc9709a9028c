/- Plain laws: documents and keys that are drawn. -/
import Derived.Test.YtjggioppicabbaaQ3
import Derived.Test.YtjggioppicabbaaS2
set_option linter.unusedVariables false
set_option linter.unusedSimpArgs false
namespace Go.Proofs.Ytjggioppicabbaa
open Go.RowKit
theorem raw_def (N : Nat) {b : List Int} {k : Int} {j : Nat} (h : Rdr b k j) (hj : j ≤ 100000) : Def (s_l30Raw_m N b k) fun r => r.1.length ≤ 20 ∧ Rdr r.2.1 r.2.2 (j + 1) := by
  unfold s_l30Raw_m
  refine Def.bind (of_def N (by decide) h (by omega)) fun r ⟨m1, h1⟩ => Def.ret ⟨?_, h1⟩
  exact (by decide : ∀ w, w ∈ ([([99, 97, 116] : List UInt8), ([67, 97, 116, 115] : List UInt8), ([100, 111, 103] : List UInt8), ([100, 111, 103, 115] : List UInt8), ([114, 117, 110] : List UInt8), ([82, 85, 78, 78, 73, 78, 71] : List UInt8), ([116, 104, 101] : List UInt8), ([114, 101, 100] : List UInt8), ([98, 105, 103] : List UInt8), ([110, 101, 119, 32, 121, 111, 114, 107] : List UInt8), ([78, 101, 119, 32, 32, 89, 111, 114, 107] : List UInt8), ([110, 121] : List UInt8), ([102, 111, 120] : List UInt8), ([112, 97, 115, 115, 101, 100] : List UInt8), ([120, 49] : List UInt8), ([97, 118, 101, 114, 121, 118, 101, 114, 121, 108, 111, 110, 103, 119, 111, 114, 100] : List UInt8)] : List (List UInt8)) → w.length ≤ 20) _ m1
theorem text_def (N : Nat) {b : List Int} {k : Int} {j : Nat} (h : Rdr b k j) (hj : j ≤ 10000) (hN : 20 ≤ N) : Def (s_l30Text_m N b k) fun r => r.1.length ≤ 300 ∧ Rdr r.2.1 r.2.2 (j + 30) := by
  unfold s_l30Text_m
  refine Def.bind (pick_def N 9 h (by omega)) fun r ⟨p0, p1, _, h1⟩ => ?_
  have p1 := p1 (by omega)
  refine Def.iter (fun g => ∃ s : List UInt8, ∃ n : Nat, ∃ x y, n ≤ 9 ∧ s.length + 30 * n ≤ 300 ∧ Rdr x y (j + 1 + 2 * (9 - n)) ∧ g = (s, (n : Int), x, y)) (fun g => g.2.1.toNat) ?_ N _ ⟨[], r.1.toNat, _, _, by omega, by simp; omega, h1.le (by omega), by rw [Int.toNat_of_nonneg p0]⟩ (by show r.1.toNat < N; omega)
  rintro go _ ⟨s, n, x, y, hn, hs, hr, rfl⟩ hgo
  dsimp only
  refine Def.dif (fun e => ?_) (fun e => Def.ret ⟨by dsimp only; omega, hr.le (by omega)⟩)
  refine Def.bind (raw_def N hr (by omega)) fun r2 ⟨l2, h2⟩ => ?_
  refine Def.ite (by omega) ?_
  refine Def.bind (of_def N (by decide) h2 (by omega)) fun r3 ⟨m3, h3⟩ => ?_
  have l3 : r3.1.length ≤ 10 := (by decide : ∀ w, w ∈ ([([32] : List UInt8), ([32] : List UInt8), ([44, 32] : List UInt8), ([45] : List UInt8), ([46, 32] : List UInt8)] : List (List UInt8)) → w.length ≤ 10) _ m3
  refine Def.ite (by rw [List.length_append]; omega) (Def.ite (by unfold fits; omega) (hgo _ ⟨(s ++ r2.1) ++ r3.1, n - 1, _, _, by omega, by simp only [List.length_append]; omega, h3.le (by omega), ?_⟩ ?_))
  · rw [show ((n : Int) - 1) = ((n - 1 : Nat) : Int) from by omega]
  · show ((n : Int) - 1).toNat < (n : Int).toNat
    omega
theorem anyText_def (N : Nat) {b : List Int} {k : Int} {j : Nat} (h : Rdr b k j) (hj : j ≤ 10000) (hN : 20 ≤ N) : Def (s_l30AnyText_m N b k) fun r => r.1.length ≤ 1000 ∧ Rdr r.2.1 r.2.2 (j + 40) := by
  unfold s_l30AnyText_m
  refine Def.bind (text_def N h hj hN) fun r ⟨l1, h1⟩ => ?_
  refine Def.bind (pick_def N 12 h1 (by omega)) fun r2 ⟨_, _, _, h2⟩ => ?_
  refine Def.dif (fun e => ?_) (fun e => Def.ret ⟨by dsimp only; omega, h2.le (by omega)⟩)
  refine Def.bind (Def.mono (of_def N (by simp) h2 (by omega)) (Q := fun r3 => r3.1.length ≤ 200 ∧ Rdr r3.2.1 r3.2.2 (j + 40)) ?_) fun r3 ⟨l3, h3⟩ => ?_
  · rintro r3 ⟨m3, h3⟩
    refine ⟨?_, h3.le (by omega)⟩
    simp only [List.mem_cons, List.mem_nil_iff, or_false] at m3
    rcases m3 with m | m | m <;> rw [m] <;> simp
  · exact Def.ite (by omega) (Def.ret ⟨by dsimp only; rw [List.length_append]; omega, h3⟩)
/-- A document that is drawn. -/
structure SmallDoc (fs : List EField) (ats : List EAttr) (n : Nat) : Prop where
  fl : fs.length ≤ n
  al : ats.length ≤ n
  f : ∀ x, x ∈ fs → x.1.length ≤ 1000 ∧ x.2.length ≤ 1000
  a : ∀ x, x ∈ ats → x.1.length ≤ 4 ∧ -1 ≤ x.2 ∧ x.2 ≤ 1000000000
theorem SmallDoc.ok {fs : List EField} {ats : List EAttr} {n : Nat} (h : SmallDoc fs ats n) (hn : n ≤ 1000) {id : Int} (h0 : 0 ≤ id ∧ id ≤ 1000000) : okD Sm TDoc (id, fs, ats) := by
  have e1 : IntKind.i64.min = -9223372036854775808 := by decide
  have e2 : IntKind.i64.max = 9223372036854775807 := by decide
  have hfl := h.fl; have hal := h.al
  refine ⟨⟨by rw [e1]; show _ ≤ id; omega, by rw [e2]; show id ≤ _; omega⟩, ⟨by show fs.length ≤ 1048576; omega, fun x hx => ?_⟩, ⟨by show ats.length ≤ 1048576; omega, fun x hx => ?_⟩⟩
  · have := h.f x hx
    exact ⟨by show x.1.length ≤ 1048576; omega, by show x.2.length ≤ 1048576; omega⟩
  · have := h.a x hx
    exact ⟨by show x.1.length ≤ 1048576; omega, by rw [e1]; exact Int.le_trans (by decide) this.2.1, by rw [e2]; exact Int.le_trans this.2.2 (by decide)⟩
theorem SmallDoc.addF {fs : List EField} {ats : List EAttr} {n : Nat} (h : SmallDoc fs ats n) {x : EField} (h1 : x.1.length ≤ 1000) (h2 : x.2.length ≤ 1000) : SmallDoc (fs ++ [x]) ats (n + 1) := by
  have hfl := h.fl; have hal := h.al
  refine ⟨by simp only [List.length_append, List.length_cons, List.length_nil]; omega, by omega, fun y hy => ?_, h.a⟩
  rcases List.mem_append.1 hy with hy | hy
  · exact h.f y hy
  · rw [List.mem_singleton.1 hy]; exact ⟨h1, h2⟩
theorem SmallDoc.addA {fs : List EField} {ats : List EAttr} {n : Nat} (h : SmallDoc fs ats n) {x : EAttr} (h1 : x.1.length ≤ 4) (h2 : -1 ≤ x.2) (h3 : x.2 ≤ 1000000000) : SmallDoc fs (ats ++ [x]) (n + 1) := by
  have hfl := h.fl; have hal := h.al
  refine ⟨by omega, by simp only [List.length_append, List.length_cons, List.length_nil]; omega, h.f, fun y hy => ?_⟩
  rcases List.mem_append.1 hy with hy | hy
  · exact h.a y hy
  · rw [List.mem_singleton.1 hy]; exact ⟨h1, h2, h3⟩
theorem SmallDoc.le {fs : List EField} {ats : List EAttr} {n m : Nat} (h : SmallDoc fs ats n) (hm : n ≤ m) : SmallDoc fs ats m := ⟨Nat.le_trans h.fl hm, Nat.le_trans h.al hm, h.f, h.a⟩
/-- Names of numbers are short. -/
def shortN (ats : List EAttr) : Prop := ∀ y, y ∈ ats → y.1.length ≤ 4
theorem SmallDoc.short {fs : List EField} {ats : List EAttr} {n : Nat} (h : SmallDoc fs ats n) : shortN ats := fun y hy => (h.a y hy).1
theorem SmallDoc.nil : SmallDoc [] [] 0 := ⟨Nat.le_refl _, Nat.le_refl _, (fun x hx => by cases hx), (fun x hx => by cases hx)⟩
theorem SmallDoc.room {n : Nat} {b : Nat} (hn : n ≤ 1000) (hb : b ≤ 1000) : room n 1 b := by
  have : (n + 1) * b ≤ 1001 * 1000 := Nat.mul_le_mul (by omega) hb
  exact room_of (by omega) (by omega)
theorem doc_def (N : Nat) (id : Int) {b : List Int} {k : Int} {j : Nat} (h : Rdr b k j) (hj : j ≤ 5000) (hN : 20 ≤ N) : Def (s_l30Doc_m N id b k) fun r => r.1 = id ∧ SmallDoc r.2.1 r.2.2.1 4 ∧ Rdr r.2.2.2.1 r.2.2.2.2 (j + 100) := by
  unfold s_l30Doc_m
  refine Def.meet (fun g => ∃ fs x y, SmallDoc fs [] 1 ∧ Rdr x y (j + 31) ∧ g = (0, id, fs, x, y)) ?_ fun J hJ => ?_
  · rintro _ ⟨fs, x, y, hs, hr, rfl⟩
    dsimp only
    refine Def.meet (fun g => ∃ fs x y, SmallDoc fs [] 2 ∧ Rdr x y (j + 65) ∧ g = (0, id, fs, x, y)) ?_ fun J hJ => ?_
    · rintro _ ⟨fs, x, y, hs, hr, rfl⟩
      dsimp only
      refine Def.meet (fun g => ∃ fs ats x y, SmallDoc fs ats 3 ∧ Rdr x y (j + 70) ∧ g = (0, id, fs, ats, x, y)) ?_ fun J hJ => ?_
      · rintro _ ⟨fs, ats, x, y, hs, hr, rfl⟩
        dsimp only
        refine Def.bind (pick_def N 3 hr (by omega)) fun r7 ⟨_, _, _, h7⟩ => ?_
        refine Def.dif (fun _ => ?_) (fun _ => Def.ret ⟨rfl, hs.le (by omega), h7.le (by omega)⟩)
        refine Def.bind (pick_def N 30 h7 (by omega)) fun r8 ⟨q0, q1, _, h8⟩ => ?_
        have q1 := q1 (by omega)
        have hal := hs.al
        exact Def.ite (by unfold fits; omega) (Def.ite (SmallDoc.room (by omega) (by omega)) (Def.ret ⟨rfl, hs.addA (by simp) (by dsimp only; omega) (by dsimp only; omega), h8.le (by omega)⟩))
      · refine Def.bind (pick_def N 3 hr (by omega)) fun r5 ⟨_, _, _, h5⟩ => ?_
        refine Def.dif (fun _ => ?_) (fun _ => hJ _ ⟨_, _, _, _, hs.le (by omega), h5.le (by omega), rfl⟩)
        refine Def.bind (pick_def N 4 h5 (by omega)) fun r6 ⟨q0, q1, _, h6⟩ => ?_
        have q1 := q1 (by omega)
        exact Def.ite (SmallDoc.room (by simp) (by omega)) (hJ _ ⟨_, _, _, _, hs.addA (x := (([114, 97, 116, 101] : List UInt8), r6.1)) (by simp) (by dsimp only; omega) (by dsimp only; omega), h6.le (by omega), rfl⟩)
    · refine Def.bind (pick_def N 3 hr (by omega)) fun r3 ⟨_, _, _, h3⟩ => ?_
      refine Def.dif (fun _ => ?_) (fun _ => hJ _ ⟨_, _, _, hs.le (by omega), h3.le (by omega), rfl⟩)
      refine Def.bind (text_def N h3 (by omega) hN) fun r4 ⟨l4, h4⟩ => ?_
      have hfl := hs.fl
      exact Def.ite (SmallDoc.room (by omega) (by omega)) (hJ _ ⟨_, _, _, hs.addF (x := (([116, 105, 116, 108, 101] : List UInt8), r4.1)) (by simp) (by dsimp only; omega), h4.le (by omega), rfl⟩)
  · refine Def.bind (pick_def N 6 h (by omega)) fun r ⟨_, _, _, h1⟩ => ?_
    refine Def.dif (fun _ => ?_) (fun _ => hJ _ ⟨_, _, _, SmallDoc.nil.le (by omega), h1.le (by omega), rfl⟩)
    refine Def.bind (text_def N h1 (by omega) hN) fun r2 ⟨l2, h2⟩ => ?_
    exact Def.ite (SmallDoc.room (by simp) (by omega)) (hJ _ ⟨_, _, _, SmallDoc.nil.addF (x := (([98, 111, 100, 121] : List UInt8), r2.1)) (by simp) (by dsimp only; omega), h2.le (by omega), rfl⟩)
theorem anyDoc_def (N : Nat) {b : List Int} {k : Int} {j : Nat} (h : Rdr b k j) (hj : j ≤ 4000) (hN : 20 ≤ N) : Def (s_l30AnyDoc_m N b k) fun r => (okD Sm TDoc (r.1, r.2.1, r.2.2.1) ∧ shortN r.2.2.1) ∧ Rdr r.2.2.2.1 r.2.2.2.2 (j + 200) := by
  unfold s_l30AnyDoc_m
  refine Def.bind (pick_def N 9 h (by omega)) fun r ⟨p0, p1, _, h1⟩ => ?_
  have p1 := p1 (by omega)
  refine Def.ite (by unfold fits; omega) ?_
  refine Def.bind (doc_def N _ h1 (by omega) hN) fun r2 ⟨e2, s2, h2⟩ => ?_
  have hid : 0 ≤ r2.1 ∧ r2.1 ≤ 1000000 := by rw [e2]; omega
  have hfl := s2.fl; have hal := s2.al
  refine Def.bind (pick_def N 14 h2 (by omega)) fun r3 ⟨_, _, _, h3⟩ => ?_
  refine Def.dif (fun _ => ?_) (fun _ => ?_)
  · refine Def.bind (one_def N (by simp) h3 (by omega)) fun r4 ⟨m4, h4⟩ => Def.ret ⟨⟨s2.ok (by omega) ?_, s2.short⟩, h4.le (by omega)⟩
    simp only [List.mem_cons, List.mem_nil_iff, or_false] at m4
    omega
  refine Def.dif (fun _ => Def.ite (SmallDoc.room (by omega) (by omega)) (Def.ret ⟨⟨(s2.addF (x := (([98, 111, 100, 121] : List UInt8), ([97, 103, 97, 105, 110] : List UInt8))) (by simp) (by simp)).ok (by omega) hid, s2.short⟩, h3.le (by omega)⟩)) (fun _ => ?_)
  refine Def.dif (fun _ => ?_) (fun _ => ?_)
  · refine Def.bind (one_def N (by simp) h3 (by omega)) fun r5 ⟨m5, h5⟩ => ?_
    simp only [List.mem_cons, List.mem_nil_iff, or_false] at m5
    exact Def.ite (SmallDoc.room (by omega) (by omega)) (Def.ret ⟨⟨(s2.addA (x := (([122, 122] : List UInt8), r5.1)) (by simp) (by dsimp only; omega) (by dsimp only; omega)).ok (by omega) hid, (s2.addA (x := (([122, 122] : List UInt8), r5.1)) (by simp) (by dsimp only; omega) (by dsimp only; omega)).short⟩, h5.le (by omega)⟩)
  refine Def.dif (fun _ => ?_) (fun _ => Def.ret ⟨⟨s2.ok (by omega) hid, s2.short⟩, h3.le (by omega)⟩)
  refine Def.bind (anyText_def N h3 (by omega) hN) fun r6 ⟨l6, h6⟩ => ?_
  exact Def.ite (SmallDoc.room (by omega) (by omega)) (Def.ret ⟨⟨(s2.addF (x := (([122, 101, 100] : List UInt8), r6.1)) (by simp) l6).ok (by omega) hid, s2.short⟩, h6.le (by omega)⟩)
theorem keys_def2 (N : Nat) {b : List Int} {k : Int} {j : Nat} (h : Rdr b k j) (hj : j ≤ 10000) (hN : 20 ≤ N) : Def (s_l30Keys_m N b k) fun r => okD Sm (.sl TKey) r.1 ∧ Rdr r.2.1 r.2.2 (j + 20) := by
  unfold s_l30Keys_m
  refine Def.bind (pick_def N 3 h (by omega)) fun r ⟨p0, p1, _, h1⟩ => ?_
  have p1 := p1 (by omega)
  have fin : ∀ out : List EKey, out.length ≤ 10 → (∀ x, x ∈ out → x.1.length ≤ 10) → okD Sm (.sl TKey) out := fun out hl hx => ⟨by show out.length ≤ 1048576; omega, fun x hxm => ⟨by have := hx x hxm; show x.1.length ≤ 1048576; omega, True.intro⟩⟩
  refine Def.iter (fun g => ∃ out : List EKey, ∃ n : Nat, ∃ x y, n ≤ 3 ∧ out.length + n ≤ 5 ∧ (∀ z, z ∈ out → z.1.length ≤ 10) ∧ Rdr x y (j + 1 + 2 * (3 - n)) ∧ g = (out, (n : Int), x, y)) (fun g => g.2.1.toNat) ?_ N _ ⟨[], r.1.toNat, _, _, by omega, by simp; omega, (fun z hz => by cases hz), h1.le (by omega), by rw [Int.toNat_of_nonneg p0]⟩ (by show r.1.toNat < N; omega)
  rintro go _ ⟨out, n, x, y, hn, hl, ho, hr, rfl⟩ hgo
  dsimp only
  refine Def.dif (fun e => ?_) (fun e => ?_)
  · refine Def.bind (of_def N (by decide) hr (by omega)) fun r2 ⟨m2, h2⟩ => ?_
    have l2 : r2.1.length ≤ 10 := (by decide : ∀ w, w ∈ ([([114, 97, 116, 101] : List UInt8), ([121, 101, 97, 114] : List UInt8), ([110, 111, 110, 101] : List UInt8)] : List (List UInt8)) → w.length ≤ 10) _ m2
    refine Def.bind (pick_def N 2 h2 (by omega)) fun r3 ⟨_, _, _, h3⟩ => ?_
    refine Def.ite (SmallDoc.room (by omega) (by omega)) (Def.ite (by unfold fits; omega) (hgo _ ⟨out ++ [(r2.1, decide (r3.1 = 0))], n - 1, _, _, by omega, ?_, fun z hz => ?_, h3.le (by omega), ?_⟩ ?_))
    · simp only [List.length_append, List.length_cons, List.length_nil]; omega
    · rcases List.mem_append.1 hz with hz | hz
      · exact ho z hz
      · rw [List.mem_singleton.1 hz]; exact l2
    · rw [show ((n : Int) - 1) = ((n - 1 : Nat) : Int) from by omega]
    · show ((n : Int) - 1).toNat < (n : Int).toNat
      omega
  · refine Def.bind (pick_def N 12 hr (by omega)) fun r4 ⟨_, _, _, h4⟩ => ?_
    refine Def.dif (fun _ => ?_) (fun _ => Def.ret ⟨fin out (by omega) ho, h4.le (by omega)⟩)
    refine Def.bind (of_def N (by decide) h4 (by omega)) fun r5 ⟨m5, h5⟩ => ?_
    have l5 : r5.1.length ≤ 10 := (by decide : ∀ w, w ∈ ([([] : List UInt8), ([66, 97, 100] : List UInt8)] : List (List UInt8)) → w.length ≤ 10) _ m5
    refine Def.ite (SmallDoc.room (by omega) (by omega)) (Def.ret ⟨fin _ (by simp only [List.length_append, List.length_cons, List.length_nil]; omega) fun z hz => ?_, h5.le (by omega)⟩)
    rcases List.mem_append.1 hz with hz | hz
    · exact ho z hz
    · rw [List.mem_singleton.1 hz]; exact l5
theorem keys_def (N : Nat) {b : List Int} {k : Int} {j : Nat} (h : Rdr b k j) (hj : j ≤ 10000) (hN : 20 ≤ N) : Def (s_l30Keys_m N b k) fun r => okD Sm (.sl TKey) r.1 := (keys_def2 N h hj hN).mono fun r hr => hr.1
theorem drawLess_def (N : Nat) {code : List Int} (hb : Bs code) (hN : 20 ≤ N) : Def (s_DrawSortLess_m N code) fun r => okD Sm TDoc (r.1, r.2.1, r.2.2.1) ∧ okD Sm TDoc (r.2.2.2.1, r.2.2.2.2.1, r.2.2.2.2.2.1) ∧ okD Sm (.sl TKey) r.2.2.2.2.2.2 := by
  unfold s_DrawSortLess_m
  refine Def.bind (open_def N hb) fun r h0 => ?_
  refine Def.bind (anyDoc_def N h0 (by omega) hN) fun r2 ⟨⟨o2, _⟩, h2⟩ => ?_
  refine Def.bind (anyDoc_def N h2 (by omega) hN) fun r3 ⟨⟨o3, _⟩, h3⟩ => ?_
  exact Def.bind (keys_def N h3 (by omega) hN) fun r4 o4 => Def.ret ⟨o2, o3, o4⟩
end Go.Proofs.Ytjggioppicabbaa
