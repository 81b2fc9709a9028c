/-
  No cell of these rows narrows 'for every input' (looked for: loops, veiled, ifaces, maps, wideKeys, modest, calm, conditions, laid).
  DERIVED. THE GIVEN ROWS OF THIS SEAT. 7 by the template 'for every input the law returns true; each argument reads behind the call as it read before'; 0 by the template 'total and deterministic' (their statements: YtjggioppicabbaaTotals.lean).
  GIVEN WITH THE SEED: the statements are not yours to turn. If you find one false, say at which input.
  Laid BY PROGRAM, IN A SANDBOX (cutbox-rows.mjs): the forced cells as the released guide's own fill.sh prints them over the translation b813f90a3d9742db… (all of the seat's roots in one cut). By AI agents, Wed Nov 11 2026. No macro, syntax, notation, axiom, sorry.
-/
import Derived.Test.YtjggioppicabbaaChecked
import GoSem.Claim
import GoSem.ClaimJoined
import GoSem.ClaimMapViews
import Derived.JoinedTies
import Derived.KernelRfl
namespace Go.Proofs.Ytjggioppicabbaa
/- THE CELL 'sum', in the pinned program and in every row, IS THE sha256 OF THE DUMP (.gsa) THAT YtjggioppicabbaaProg.lean LOADS. Nothing in Lean hashes anything: it is a label: what it is worth is what the hold of that sum in a sandbox is worth. -/
noncomputable def Try.pinned : Pinned := { name := "ytjggioppicabbaa", sum := "b813f90a3d9742db5b30d644425661a94a8c0af6f272f31aa7c5617f15453011", checked := Try.checked }
namespace Rows
def none {H : Type} : Left H := { results := [], args := [] }

/-- 'laws.FnExactSortLess': WHATEVER THE INPUT: true; the input reads as it did. -/
def fnExactSortLessSpec : ChangeSpec := { name := "fnExactSortLess", fn := fun _ => fun
  | [d1, d2, d3] => { results := [.lit (.bool true)], args := [d1, d2, d3] }
  | _ => none }
def fnExactSortLessRow : OpenClaim := { program := "ytjggioppicabbaa", sum := "b813f90a3d9742db5b30d644425661a94a8c0af6f272f31aa7c5617f15453011", func := "loop.example/fossick/laws.FnExactSortLess", spec := "fnExactSortLess", apart := false }
def FnExactSortLessSaid : Prop := fnExactSortLessRow.holds Try.pinned (OpenSpec.ofChange fnExactSortLessSpec)

/-- ITS FALSE NEIGHBOUR: 'it returns false'. Refute it at one input. -/
def fnExactSortLessWrong : ChangeSpec := { name := "fnExactSortLess", fn := fun _ => fun
  | [d1, d2, d3] => { results := [.lit (.bool false)], args := [d1, d2, d3] }
  | _ => none }
def FnExactSortLessWrongFalsely : Prop := fnExactSortLessRow.holds Try.pinned (OpenSpec.ofChange fnExactSortLessWrong)

/-- 'laws.FnSortLess': WHATEVER THE INPUT: true; the input reads as it did. -/
def fnSortLessSpec : ChangeSpec := { name := "fnSortLess", fn := fun _ => fun
  | [d1, d2] => { results := [.lit (.bool true)], args := [d1, d2] }
  | _ => none }
def fnSortLessRow : OpenClaim := { program := "ytjggioppicabbaa", sum := "b813f90a3d9742db5b30d644425661a94a8c0af6f272f31aa7c5617f15453011", func := "loop.example/fossick/laws.FnSortLess", spec := "fnSortLess", unfollowed := true, recurses := true, apart := false }
def FnSortLessSaid : Prop := fnSortLessRow.holds Try.pinned (OpenSpec.ofChange fnSortLessSpec)

/-- ITS FALSE NEIGHBOUR: 'it returns false'. Refute it at one input. -/
def fnSortLessWrong : ChangeSpec := { name := "fnSortLess", fn := fun _ => fun
  | [d1, d2] => { results := [.lit (.bool false)], args := [d1, d2] }
  | _ => none }
def FnSortLessWrongFalsely : Prop := fnSortLessRow.holds Try.pinned (OpenSpec.ofChange fnSortLessWrong)

/-- 'laws.FnSortNone': WHATEVER THE INPUT: true; the input reads as it did. -/
def fnSortNoneSpec : ChangeSpec := { name := "fnSortNone", fn := fun _ => fun
  | [d] => { results := [.lit (.bool true)], args := [d] }
  | _ => none }
def fnSortNoneRow : OpenClaim := { program := "ytjggioppicabbaa", sum := "b813f90a3d9742db5b30d644425661a94a8c0af6f272f31aa7c5617f15453011", func := "loop.example/fossick/laws.FnSortNone", spec := "fnSortNone", unfollowed := true, recurses := true, apart := false }
def FnSortNoneSaid : Prop := fnSortNoneRow.holds Try.pinned (OpenSpec.ofChange fnSortNoneSpec)

/-- ITS FALSE NEIGHBOUR: 'it returns false'. Refute it at one input. -/
def fnSortNoneWrong : ChangeSpec := { name := "fnSortNone", fn := fun _ => fun
  | [d] => { results := [.lit (.bool false)], args := [d] }
  | _ => none }
def FnSortNoneWrongFalsely : Prop := fnSortNoneRow.holds Try.pinned (OpenSpec.ofChange fnSortNoneWrong)

/-- 'laws.FnSortOf': WHATEVER THE INPUT: true; the input reads as it did. -/
def fnSortOfSpec : ChangeSpec := { name := "fnSortOf", fn := fun _ => fun
  | [d] => { results := [.lit (.bool true)], args := [d] }
  | _ => none }
def fnSortOfRow : OpenClaim := { program := "ytjggioppicabbaa", sum := "b813f90a3d9742db5b30d644425661a94a8c0af6f272f31aa7c5617f15453011", func := "loop.example/fossick/laws.FnSortOf", spec := "fnSortOf", unfollowed := true, recurses := true, apart := false }
def FnSortOfSaid : Prop := fnSortOfRow.holds Try.pinned (OpenSpec.ofChange fnSortOfSpec)

/-- ITS FALSE NEIGHBOUR: 'it returns false'. Refute it at one input. -/
def fnSortOfWrong : ChangeSpec := { name := "fnSortOf", fn := fun _ => fun
  | [d] => { results := [.lit (.bool false)], args := [d] }
  | _ => none }
def FnSortOfWrongFalsely : Prop := fnSortOfRow.holds Try.pinned (OpenSpec.ofChange fnSortOfWrong)

/-- 'laws.FnSortPage': WHATEVER THE INPUT: true; the input reads as it did. -/
def fnSortPageSpec : ChangeSpec := { name := "fnSortPage", fn := fun _ => fun
  | [d] => { results := [.lit (.bool true)], args := [d] }
  | _ => none }
def fnSortPageRow : OpenClaim := { program := "ytjggioppicabbaa", sum := "b813f90a3d9742db5b30d644425661a94a8c0af6f272f31aa7c5617f15453011", func := "loop.example/fossick/laws.FnSortPage", spec := "fnSortPage", unfollowed := true, recurses := true, apart := false }
def FnSortPageSaid : Prop := fnSortPageRow.holds Try.pinned (OpenSpec.ofChange fnSortPageSpec)

/-- ITS FALSE NEIGHBOUR: 'it returns false'. Refute it at one input. -/
def fnSortPageWrong : ChangeSpec := { name := "fnSortPage", fn := fun _ => fun
  | [d] => { results := [.lit (.bool false)], args := [d] }
  | _ => none }
def FnSortPageWrongFalsely : Prop := fnSortPageRow.holds Try.pinned (OpenSpec.ofChange fnSortPageWrong)

/-- 'laws.FnExactSortOf': WHATEVER THE INPUT: true; the input reads as it did. -/
def fnExactSortOfSpec : ChangeSpec := { name := "fnExactSortOf", fn := fun _ => fun
  | [d1, d2] => { results := [.lit (.bool true)], args := [d1, d2] }
  | _ => none }
def fnExactSortOfRow : OpenClaim := { program := "ytjggioppicabbaa", sum := "b813f90a3d9742db5b30d644425661a94a8c0af6f272f31aa7c5617f15453011", func := "loop.example/fossick/laws.FnExactSortOf", spec := "fnExactSortOf", unfollowed := true, recurses := true, apart := false }
def FnExactSortOfSaid : Prop := fnExactSortOfRow.holds Try.pinned (OpenSpec.ofChange fnExactSortOfSpec)

/-- ITS FALSE NEIGHBOUR: 'it returns false'. Refute it at one input. -/
def fnExactSortOfWrong : ChangeSpec := { name := "fnExactSortOf", fn := fun _ => fun
  | [d1, d2] => { results := [.lit (.bool false)], args := [d1, d2] }
  | _ => none }
def FnExactSortOfWrongFalsely : Prop := fnExactSortOfRow.holds Try.pinned (OpenSpec.ofChange fnExactSortOfWrong)

/-- 'laws.FnExactSortPage': WHATEVER THE INPUT: true; the input reads as it did. -/
def fnExactSortPageSpec : ChangeSpec := { name := "fnExactSortPage", fn := fun _ => fun
  | [d1, d2, d3, d4] => { results := [.lit (.bool true)], args := [d1, d2, d3, d4] }
  | _ => none }
def fnExactSortPageRow : OpenClaim := { program := "ytjggioppicabbaa", sum := "b813f90a3d9742db5b30d644425661a94a8c0af6f272f31aa7c5617f15453011", func := "loop.example/fossick/laws.FnExactSortPage", spec := "fnExactSortPage", unfollowed := true, recurses := true, apart := false }
def FnExactSortPageSaid : Prop := fnExactSortPageRow.holds Try.pinned (OpenSpec.ofChange fnExactSortPageSpec)

/-- ITS FALSE NEIGHBOUR: 'it returns false'. Refute it at one input. -/
def fnExactSortPageWrong : ChangeSpec := { name := "fnExactSortPage", fn := fun _ => fun
  | [d1, d2, d3, d4] => { results := [.lit (.bool false)], args := [d1, d2, d3, d4] }
  | _ => none }
def FnExactSortPageWrongFalsely : Prop := fnExactSortPageRow.holds Try.pinned (OpenSpec.ofChange fnExactSortPageWrong)

/- THE SECOND FORM. 'bulk': how many values and letters a reading holds, each counted each time it is reached (what is shared counts as often as it is met; a slice's spare places count too). A statement '..UptoSaid' is the law's where the arguments, and the package variables that the reading takes, are together of bulk at most 1048576: NARROWER than '..Said'. Prove '..Said' where nothing that the law and all that it calls make is longer than what came in: it says more and counts as full. Else prove '..UptoSaid'. A law counts once. -/
mutual
def uptoBulk {H : Type} : DataW H → Nat
  | .lit (.string bytes) => bytes.length + 1
  | .lit _ => 1
  | .nil => 1
  | .ptr d => uptoBulk d + 1
  | .slice elems spare => uptoBulkAll elems + uptoBulkAll spare + 1
  | .agg parts => uptoBulkAll parts + 1
  | .iface _ d => uptoBulk d + 1
  | .map entries => uptoBulkEntries entries + 1
  | .held _ => 1
def uptoBulkAll {H : Type} : List (DataW H) → Nat
  | [] => 0
  | d :: r => uptoBulk d + uptoBulkAll r
def uptoBulkEntries {H : Type} : List (Lit × DataW H) → Nat
  | [] => 0
  | x :: r => uptoBulkEntry x + uptoBulkEntries r
def uptoBulkEntry {H : Type} : Lit × DataW H → Nat
  | (.string bytes, d) => bytes.length + uptoBulk d + 1
  | (_, d) => uptoBulk d + 1
 end
def uptoSmall : (H : Type) → List (DataW H) → Bool := fun _ ds => decide (uptoBulkAll ds ≤ 1048576)
def OpenSpec.upto (s : _root_.Go.ChangeSpec) : _root_.Go.OpenSpec := { _root_.Go.OpenSpec.ofChange s with cond := some uptoSmall }

/-- 'laws.FnExactSortLess', WHERE WHAT IT READS IS OF BULK AT MOST 1048576: true; the input reads as it did. -/
def fnExactSortLessUptoRow : OpenClaim := { program := "ytjggioppicabbaa", sum := "b813f90a3d9742db5b30d644425661a94a8c0af6f272f31aa7c5617f15453011", func := "loop.example/fossick/laws.FnExactSortLess", spec := "fnExactSortLess", apart := false, narrowed := true }
def FnExactSortLessUptoSaid : Prop := fnExactSortLessUptoRow.holds Try.pinned (OpenSpec.upto fnExactSortLessSpec)

/-- 'laws.FnSortLess', WHERE WHAT IT READS IS OF BULK AT MOST 1048576: true; the input reads as it did. -/
def fnSortLessUptoRow : OpenClaim := { program := "ytjggioppicabbaa", sum := "b813f90a3d9742db5b30d644425661a94a8c0af6f272f31aa7c5617f15453011", func := "loop.example/fossick/laws.FnSortLess", spec := "fnSortLess", unfollowed := true, recurses := true, apart := false, narrowed := true }
def FnSortLessUptoSaid : Prop := fnSortLessUptoRow.holds Try.pinned (OpenSpec.upto fnSortLessSpec)

/-- 'laws.FnSortNone', WHERE WHAT IT READS IS OF BULK AT MOST 1048576: true; the input reads as it did. -/
def fnSortNoneUptoRow : OpenClaim := { program := "ytjggioppicabbaa", sum := "b813f90a3d9742db5b30d644425661a94a8c0af6f272f31aa7c5617f15453011", func := "loop.example/fossick/laws.FnSortNone", spec := "fnSortNone", unfollowed := true, recurses := true, apart := false, narrowed := true }
def FnSortNoneUptoSaid : Prop := fnSortNoneUptoRow.holds Try.pinned (OpenSpec.upto fnSortNoneSpec)

/-- 'laws.FnSortOf', WHERE WHAT IT READS IS OF BULK AT MOST 1048576: true; the input reads as it did. -/
def fnSortOfUptoRow : OpenClaim := { program := "ytjggioppicabbaa", sum := "b813f90a3d9742db5b30d644425661a94a8c0af6f272f31aa7c5617f15453011", func := "loop.example/fossick/laws.FnSortOf", spec := "fnSortOf", unfollowed := true, recurses := true, apart := false, narrowed := true }
def FnSortOfUptoSaid : Prop := fnSortOfUptoRow.holds Try.pinned (OpenSpec.upto fnSortOfSpec)

/-- 'laws.FnSortPage', WHERE WHAT IT READS IS OF BULK AT MOST 1048576: true; the input reads as it did. -/
def fnSortPageUptoRow : OpenClaim := { program := "ytjggioppicabbaa", sum := "b813f90a3d9742db5b30d644425661a94a8c0af6f272f31aa7c5617f15453011", func := "loop.example/fossick/laws.FnSortPage", spec := "fnSortPage", unfollowed := true, recurses := true, apart := false, narrowed := true }
def FnSortPageUptoSaid : Prop := fnSortPageUptoRow.holds Try.pinned (OpenSpec.upto fnSortPageSpec)

/-- 'laws.FnExactSortOf', WHERE WHAT IT READS IS OF BULK AT MOST 1048576: true; the input reads as it did. -/
def fnExactSortOfUptoRow : OpenClaim := { program := "ytjggioppicabbaa", sum := "b813f90a3d9742db5b30d644425661a94a8c0af6f272f31aa7c5617f15453011", func := "loop.example/fossick/laws.FnExactSortOf", spec := "fnExactSortOf", unfollowed := true, recurses := true, apart := false, narrowed := true }
def FnExactSortOfUptoSaid : Prop := fnExactSortOfUptoRow.holds Try.pinned (OpenSpec.upto fnExactSortOfSpec)

/-- 'laws.FnExactSortPage', WHERE WHAT IT READS IS OF BULK AT MOST 1048576: true; the input reads as it did. -/
def fnExactSortPageUptoRow : OpenClaim := { program := "ytjggioppicabbaa", sum := "b813f90a3d9742db5b30d644425661a94a8c0af6f272f31aa7c5617f15453011", func := "loop.example/fossick/laws.FnExactSortPage", spec := "fnExactSortPage", unfollowed := true, recurses := true, apart := false, narrowed := true }
def FnExactSortPageUptoSaid : Prop := fnExactSortPageUptoRow.holds Try.pinned (OpenSpec.upto fnExactSortPageSpec)

end Rows
end Go.Proofs.Ytjggioppicabbaa
