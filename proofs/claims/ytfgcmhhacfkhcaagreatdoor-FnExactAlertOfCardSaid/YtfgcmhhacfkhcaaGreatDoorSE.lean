import Derived.Test.YtfgcmhhacfkhcaaGreatDoorSC
import Derived.Test.YtfgcmhhacfkhcaaGreatDoorQA
import Derived.Test.YtfgcmhhacfkhcaaGreatDoorSD
set_option linter.unusedVariables false
set_option linter.unusedSimpArgs false
namespace Go.Proofs.YtfgcmhhacfkhcaaGreatDoor
open Go.RowKit
end Go.Proofs.YtfgcmhhacfkhcaaGreatDoor
namespace Go.Proofs.YtfgcmhhacfkhcaaGreatDoor
open Go.RowKit
theorem docOf_some {docs : List EDoc} {id : Int} {d : EDoc} (h : docOf docs id = some d) : d ∈ docs ∧ d.1 = id := by
 refine ⟨zbe h, ?_⟩
 have := List.find?_some h
 exact of_decide_eq_true this
theorem queryOk_i (N : Nat) (hM : Sm < N) (hN : N ≤ 1099511627776) (q : DQ) (hq : BQ 4 q) : i_QueryOk_m N q.kind q.field q.words q.lo q.hi q.kids = some (okQ 4 q) := by
 have hM' : 1048576 < N := hM
 unfold i_QueryOk_m
 rw [show (4 : Int) = ((4 : Nat) : Int) from rfl, jAo N hM hN 4 N (by omega) (by omega) q hq, za]
theorem jFU (N : Nat) (hM : Sm < N) (hN : N ≤ 1099511627776) (q : DQ) (hq : BQ 4 q) : jE5 N q.kind q.field q.words q.lo q.hi q.kids = some (okQ 4 q) := by
 have hM' : 1048576 < N := hM
 unfold jE5
 rw [show (4 : Int) = ((4 : Nat) : Int) from rfl, jzi N hM hN 4 N (by omega) (by omega) q hq, za]
structure Fit (N : Nat) (c : EConf) (s : ESeg) (q : DQ) : Prop where
 big : Sm < N
 top : N ≤ 16777216
 oc : okD Sm TConf c
 od : ∀ x, x ∈ s.1 → okD Sm TDoc x
 len : s.1.length ≤ 1048576
 bq : BQ 4 q
theorem Fit.good {N : Nat} {c : EConf} {s : ESeg} {q : DQ} (h : Fit N c s q) (hs : okSeg c s = true) : GoodS N c s := ⟨h.big, h.top, h.oc, h.od, hs⟩
theorem Fit.segI {N : Nat} {c : EConf} {s : ESeg} {q : DQ} (h : Fit N c s q) : i_SegOk_m N c.1 c.2 s.1 s.2 = some (okSeg c s) := segOk_spec N h.big h.top c h.oc s h.od h.len
theorem Fit.qI {N : Nat} {c : EConf} {s : ESeg} {q : DQ} (h : Fit N c s q) : i_QueryOk_m N q.kind q.field q.words q.lo q.hi q.kids = some (okQ 4 q) := queryOk_i N h.big (by have := h.top; omega) q h.bq
def scoreR (N : Nat) (c : EConf) (s : ESeg) (q : DQ) (id : Int) : Int := bif okSeg c s && okQ 4 q then (match docOf s.1 id with | some d => valS N N c s d q | none => 0) else 0
theorem score_i {N : Nat} {c : EConf} {s : ESeg} {q : DQ} (h : Fit N c s q) (id : Int) : i_ScoreOf_m N c.1 c.2 s.1 s.2 q.kind q.field q.words q.lo q.hi q.kids id = some (scoreR N c s q id) := by
 have hM : 1048576 < N := h.big
 have hl := h.len
 unfold i_ScoreOf_m scoreR
 rw [segDoc_spec N s id (by omega) h.top, za, h.segI, za, h.qI, za]
 cases hs : okSeg c s with
 | false => rfl
 | true =>
  cases hq : okQ 4 q with
  | false => rfl
  | true =>
   rw [zn, ze, ze, zaV, zg]
   cases hd : docOf s.1 id with
   | none => rfl
   | some d =>
    dsimp only
    have he : docOf s.1 d.1 = some d := by rw [(docOf_some hd).2]; exact hd
    have hb := score_both N (h.good hs) d he q hq
    rw [zn, ze]
    rw [hb.eng, za]
end Go.Proofs.YtfgcmhhacfkhcaaGreatDoor
namespace Go.Proofs.YtfgcmhhacfkhcaaGreatDoor
open Go.RowKit
end Go.Proofs.YtfgcmhhacfkhcaaGreatDoor
