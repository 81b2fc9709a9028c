/-
  NARROWER THAN 'FOR EVERY INPUT', by the rows' own cells (each row's printed sentence says how): FnIndexTwice: maps, laid · FnIndexPut: maps, laid · FnIndexWays: maps, laid · FnAlertMany: maps, laid · FnMatchSets: maps, laid · FnGroupTop: maps, laid.
  DERIVED. THE GIVEN ROWS OF THIS SEAT. 6 by the template 'for every input the law returns true; each argument reads behind the call as it read before'; 0 by the template 'total and deterministic' (their statements: YtchgdmmcjgmfcaaGreatDoorTotals.lean).
  GIVEN WITH THE SEED: the statements are not yours to turn. If you find one false, say at which input.
  Laid BY PROGRAM, IN A SANDBOX (cutbox-rows.mjs): the forced cells as the released guide's own fill.sh prints them over the translation 5d61d33a155b9cf0… (all of the seat's roots in one cut). By AI agents, Wed Nov 11 2026. No macro, syntax, notation, axiom, sorry.
-/
import Derived.Test.YtchgdmmcjgmfcaaGreatDoorChecked
import GoSem.Claim
import GoSem.ClaimJoined
import GoSem.ClaimMapViews
import Derived.JoinedTies
import Derived.KernelRfl
namespace Go.Proofs.YtchgdmmcjgmfcaaGreatDoor
/- THE CELL 'sum', in the pinned program and in every row, IS THE sha256 OF THE DUMP (.gsa) THAT YtchgdmmcjgmfcaaGreatDoorProg.lean LOADS. Nothing in Lean hashes anything: it is a label: what it is worth is what the hold of that sum in a sandbox is worth. -/
noncomputable def Tryz.pinned : Pinned := { name := "ytchgdmmcjgmfcaagreatdoor", sum := "5d61d33a155b9cf0f64e0bba17ec822d135d636946f0956a418ab785e45b99d6", checked := Tryz.checked }
namespace Rows
def none {H : Type} : Left H := { results := [], args := [] }

/- WHAT THE LISTED PACKAGE-LEVEL VARIABLES READ AS WHEN THE CALL BEGINS. Each datum BY PROGRAM (the guide's laid-datum.mjs) off the statement by which the dump's own 'gosem.cut.vars' lays the variable. In a bare row this is a premise. The card (YtchgdmmcjgmfcaaGreatDoorCards.lean) ties it to the program's text. -/
def laid_loop_example_fossick_impl_none {H : Type} : DataW H := .agg [.lit (.int .i64 0), .lit (.int .i64 1)]
def laid_loop_example_fossick_impl_shapes {H : Type} : DataW H := .map [(.int .i64 1, .agg [.lit (.bool false), .lit (.int .i64 0), .lit (.int .i64 0), .lit (.int .i64 0), .lit (.int .i64 0), .lit (.bool false), .lit (.int .i64 0), .lit (.int .i64 0)]), (.int .i64 2, .agg [.lit (.bool true), .lit (.int .i64 1), .lit (.int .i64 1), .lit (.int .i64 0), .lit (.int .i64 0), .lit (.bool false), .lit (.int .i64 0), .lit (.int .i64 0)]), (.int .i64 3, .agg [.lit (.bool true), .lit (.int .i64 2), .lit (.int .i64 4), .lit (.int .i64 0), .lit (.int .i64 5), .lit (.bool false), .lit (.int .i64 0), .lit (.int .i64 0)]), (.int .i64 4, .agg [.lit (.bool true), .lit (.int .i64 1), .lit (.int .i64 1), .lit (.int .i64 1), .lit (.int .i64 2), .lit (.bool false), .lit (.int .i64 0), .lit (.int .i64 0)]), (.int .i64 5, .agg [.lit (.bool true), .lit (.int .i64 1), .lit (.int .i64 1), .lit (.int .i64 0), .lit (.int .i64 0), .lit (.bool false), .lit (.int .i64 0), .lit (.int .i64 0)]), (.int .i64 6, .agg [.lit (.bool true), .lit (.int .i64 0), .lit (.int .i64 0), .lit (.int .i64 0), .lit (.int .i64 999999999), .lit (.bool true), .lit (.int .i64 0), .lit (.int .i64 0)]), (.int .i64 7, .agg [.lit (.bool false), .lit (.int .i64 0), .lit (.int .i64 0), .lit (.int .i64 0), .lit (.int .i64 0), .lit (.bool false), .lit (.int .i64 2), .lit (.int .i64 4)]), (.int .i64 8, .agg [.lit (.bool false), .lit (.int .i64 0), .lit (.int .i64 0), .lit (.int .i64 0), .lit (.int .i64 0), .lit (.bool false), .lit (.int .i64 2), .lit (.int .i64 4)]), (.int .i64 9, .agg [.lit (.bool false), .lit (.int .i64 0), .lit (.int .i64 0), .lit (.int .i64 0), .lit (.int .i64 0), .lit (.bool false), .lit (.int .i64 2), .lit (.int .i64 2)]), (.int .i64 10, .agg [.lit (.bool false), .lit (.int .i64 0), .lit (.int .i64 0), .lit (.int .i64 2), .lit (.int .i64 9), .lit (.bool false), .lit (.int .i64 1), .lit (.int .i64 1)])]

/-- 'laws.FnIndexTwice': WHATEVER THE INPUT: true; the input reads as it did. -/
def fnIndexTwiceSpec : ChangeSpec := { name := "fnIndexTwice", vars := ["loop.example/fossick/impl.shapes", "loop.example/fossick/impl.none"], fn := fun _ => fun
  | [d, g1, g2] => { results := [.lit (.bool true)], args := [d], vars := [g1, g2] }
  | _ => none }
def fnIndexTwiceRow : OpenClaim := { program := "ytchgdmmcjgmfcaagreatdoor", sum := "5d61d33a155b9cf0f64e0bba17ec822d135d636946f0956a418ab785e45b99d6", func := "loop.example/fossick/laws.FnIndexTwice", spec := "fnIndexTwice", inPlace := ["internal/abi.NoEscape", "internal/bytealg.MakeNoZero"], unfollowed := true, recurses := true, named := ["loop.example/fossick/impl.shapes", "loop.example/fossick/impl.none"], maps := true, apart := false, laid := [("loop.example/fossick/impl.none", laid_loop_example_fossick_impl_none), ("loop.example/fossick/impl.shapes", laid_loop_example_fossick_impl_shapes)] }
def FnIndexTwiceSaid : Prop := fnIndexTwiceRow.holds Tryz.pinned (OpenSpec.ofChange fnIndexTwiceSpec)

/-- ITS FALSE NEIGHBOUR: 'it returns false'. Refute it at one input. -/
def fnIndexTwiceWrong : ChangeSpec := { name := "fnIndexTwice", vars := ["loop.example/fossick/impl.shapes", "loop.example/fossick/impl.none"], fn := fun _ => fun
  | [d, g1, g2] => { results := [.lit (.bool false)], args := [d], vars := [g1, g2] }
  | _ => none }
def FnIndexTwiceWrongFalsely : Prop := fnIndexTwiceRow.holds Tryz.pinned (OpenSpec.ofChange fnIndexTwiceWrong)

/-- 'laws.FnIndexPut': WHATEVER THE INPUT: true; the input reads as it did. -/
def fnIndexPutSpec : ChangeSpec := { name := "fnIndexPut", vars := ["loop.example/fossick/impl.shapes", "loop.example/fossick/impl.none"], fn := fun _ => fun
  | [d1, d2, g1, g2] => { results := [.lit (.bool true)], args := [d1, d2], vars := [g1, g2] }
  | _ => none }
def fnIndexPutRow : OpenClaim := { program := "ytchgdmmcjgmfcaagreatdoor", sum := "5d61d33a155b9cf0f64e0bba17ec822d135d636946f0956a418ab785e45b99d6", func := "loop.example/fossick/laws.FnIndexPut", spec := "fnIndexPut", inPlace := ["internal/abi.NoEscape", "internal/bytealg.MakeNoZero"], unfollowed := true, recurses := true, named := ["loop.example/fossick/impl.shapes", "loop.example/fossick/impl.none"], maps := true, apart := false, laid := [("loop.example/fossick/impl.none", laid_loop_example_fossick_impl_none), ("loop.example/fossick/impl.shapes", laid_loop_example_fossick_impl_shapes)] }
def FnIndexPutSaid : Prop := fnIndexPutRow.holds Tryz.pinned (OpenSpec.ofChange fnIndexPutSpec)

/-- ITS FALSE NEIGHBOUR: 'it returns false'. Refute it at one input. -/
def fnIndexPutWrong : ChangeSpec := { name := "fnIndexPut", vars := ["loop.example/fossick/impl.shapes", "loop.example/fossick/impl.none"], fn := fun _ => fun
  | [d1, d2, g1, g2] => { results := [.lit (.bool false)], args := [d1, d2], vars := [g1, g2] }
  | _ => none }
def FnIndexPutWrongFalsely : Prop := fnIndexPutRow.holds Tryz.pinned (OpenSpec.ofChange fnIndexPutWrong)

/-- 'laws.FnIndexWays': WHATEVER THE INPUT: true; the input reads as it did. -/
def fnIndexWaysSpec : ChangeSpec := { name := "fnIndexWays", vars := ["loop.example/fossick/impl.shapes", "loop.example/fossick/impl.none"], fn := fun _ => fun
  | [d1, d2, g1, g2] => { results := [.lit (.bool true)], args := [d1, d2], vars := [g1, g2] }
  | _ => none }
def fnIndexWaysRow : OpenClaim := { program := "ytchgdmmcjgmfcaagreatdoor", sum := "5d61d33a155b9cf0f64e0bba17ec822d135d636946f0956a418ab785e45b99d6", func := "loop.example/fossick/laws.FnIndexWays", spec := "fnIndexWays", inPlace := ["internal/abi.NoEscape", "internal/bytealg.MakeNoZero"], unfollowed := true, recurses := true, named := ["loop.example/fossick/impl.shapes", "loop.example/fossick/impl.none"], maps := true, apart := false, laid := [("loop.example/fossick/impl.none", laid_loop_example_fossick_impl_none), ("loop.example/fossick/impl.shapes", laid_loop_example_fossick_impl_shapes)] }
def FnIndexWaysSaid : Prop := fnIndexWaysRow.holds Tryz.pinned (OpenSpec.ofChange fnIndexWaysSpec)

/-- ITS FALSE NEIGHBOUR: 'it returns false'. Refute it at one input. -/
def fnIndexWaysWrong : ChangeSpec := { name := "fnIndexWays", vars := ["loop.example/fossick/impl.shapes", "loop.example/fossick/impl.none"], fn := fun _ => fun
  | [d1, d2, g1, g2] => { results := [.lit (.bool false)], args := [d1, d2], vars := [g1, g2] }
  | _ => none }
def FnIndexWaysWrongFalsely : Prop := fnIndexWaysRow.holds Tryz.pinned (OpenSpec.ofChange fnIndexWaysWrong)

/-- 'laws.FnAlertMany': WHATEVER THE INPUT: true; the input reads as it did. -/
def fnAlertManySpec : ChangeSpec := { name := "fnAlertMany", vars := ["loop.example/fossick/impl.shapes", "loop.example/fossick/impl.none"], fn := fun _ => fun
  | [d1, d2, g1, g2] => { results := [.lit (.bool true)], args := [d1, d2], vars := [g1, g2] }
  | _ => none }
def fnAlertManyRow : OpenClaim := { program := "ytchgdmmcjgmfcaagreatdoor", sum := "5d61d33a155b9cf0f64e0bba17ec822d135d636946f0956a418ab785e45b99d6", func := "loop.example/fossick/laws.FnAlertMany", spec := "fnAlertMany", inPlace := ["internal/abi.NoEscape", "internal/bytealg.MakeNoZero"], unfollowed := true, recurses := true, named := ["loop.example/fossick/impl.shapes", "loop.example/fossick/impl.none"], maps := true, apart := false, laid := [("loop.example/fossick/impl.none", laid_loop_example_fossick_impl_none), ("loop.example/fossick/impl.shapes", laid_loop_example_fossick_impl_shapes)] }
def FnAlertManySaid : Prop := fnAlertManyRow.holds Tryz.pinned (OpenSpec.ofChange fnAlertManySpec)

/-- ITS FALSE NEIGHBOUR: 'it returns false'. Refute it at one input. -/
def fnAlertManyWrong : ChangeSpec := { name := "fnAlertMany", vars := ["loop.example/fossick/impl.shapes", "loop.example/fossick/impl.none"], fn := fun _ => fun
  | [d1, d2, g1, g2] => { results := [.lit (.bool false)], args := [d1, d2], vars := [g1, g2] }
  | _ => none }
def FnAlertManyWrongFalsely : Prop := fnAlertManyRow.holds Tryz.pinned (OpenSpec.ofChange fnAlertManyWrong)

/-- 'laws.FnMatchSets': WHATEVER THE INPUT: true; the input reads as it did. -/
def fnMatchSetsSpec : ChangeSpec := { name := "fnMatchSets", vars := ["loop.example/fossick/impl.shapes", "loop.example/fossick/impl.none"], fn := fun _ => fun
  | [d1, d2, g1, g2] => { results := [.lit (.bool true)], args := [d1, d2], vars := [g1, g2] }
  | _ => none }
def fnMatchSetsRow : OpenClaim := { program := "ytchgdmmcjgmfcaagreatdoor", sum := "5d61d33a155b9cf0f64e0bba17ec822d135d636946f0956a418ab785e45b99d6", func := "loop.example/fossick/laws.FnMatchSets", spec := "fnMatchSets", inPlace := ["internal/abi.NoEscape", "internal/bytealg.MakeNoZero"], unfollowed := true, recurses := true, named := ["loop.example/fossick/impl.shapes", "loop.example/fossick/impl.none"], maps := true, apart := false, laid := [("loop.example/fossick/impl.none", laid_loop_example_fossick_impl_none), ("loop.example/fossick/impl.shapes", laid_loop_example_fossick_impl_shapes)] }
def FnMatchSetsSaid : Prop := fnMatchSetsRow.holds Tryz.pinned (OpenSpec.ofChange fnMatchSetsSpec)

/-- ITS FALSE NEIGHBOUR: 'it returns false'. Refute it at one input. -/
def fnMatchSetsWrong : ChangeSpec := { name := "fnMatchSets", vars := ["loop.example/fossick/impl.shapes", "loop.example/fossick/impl.none"], fn := fun _ => fun
  | [d1, d2, g1, g2] => { results := [.lit (.bool false)], args := [d1, d2], vars := [g1, g2] }
  | _ => none }
def FnMatchSetsWrongFalsely : Prop := fnMatchSetsRow.holds Tryz.pinned (OpenSpec.ofChange fnMatchSetsWrong)

/-- 'laws.FnGroupTop': WHATEVER THE INPUT: true; the input reads as it did. -/
def fnGroupTopSpec : ChangeSpec := { name := "fnGroupTop", vars := ["loop.example/fossick/impl.shapes", "loop.example/fossick/impl.none"], fn := fun _ => fun
  | [d, g1, g2] => { results := [.lit (.bool true)], args := [d], vars := [g1, g2] }
  | _ => none }
def fnGroupTopRow : OpenClaim := { program := "ytchgdmmcjgmfcaagreatdoor", sum := "5d61d33a155b9cf0f64e0bba17ec822d135d636946f0956a418ab785e45b99d6", func := "loop.example/fossick/laws.FnGroupTop", spec := "fnGroupTop", inPlace := ["internal/abi.NoEscape", "internal/bytealg.MakeNoZero"], unfollowed := true, recurses := true, named := ["loop.example/fossick/impl.shapes", "loop.example/fossick/impl.none"], maps := true, apart := false, laid := [("loop.example/fossick/impl.none", laid_loop_example_fossick_impl_none), ("loop.example/fossick/impl.shapes", laid_loop_example_fossick_impl_shapes)] }
def FnGroupTopSaid : Prop := fnGroupTopRow.holds Tryz.pinned (OpenSpec.ofChange fnGroupTopSpec)

/-- ITS FALSE NEIGHBOUR: 'it returns false'. Refute it at one input. -/
def fnGroupTopWrong : ChangeSpec := { name := "fnGroupTop", vars := ["loop.example/fossick/impl.shapes", "loop.example/fossick/impl.none"], fn := fun _ => fun
  | [d, g1, g2] => { results := [.lit (.bool false)], args := [d], vars := [g1, g2] }
  | _ => none }
def FnGroupTopWrongFalsely : Prop := fnGroupTopRow.holds Tryz.pinned (OpenSpec.ofChange fnGroupTopWrong)

/- THE SECOND FORM. 'bulk': how many values and letters a reading holds, each counted each time it is reached (what is shared counts as often as it is met; a slice's spare places count too). A statement '..UptoSaid' is the law's where the arguments, and the package variables that the reading takes, are together of bulk at most 1048576: NARROWER than '..Said'. Prove '..Said' where nothing that the law and all that it calls make is longer than what came in: it says more and counts as full. Else prove '..UptoSaid'. A law counts once. -/
mutual
def uptoBulk {H : Type} : DataW H → Nat
  | .lit (.string bytes) => bytes.length + 1
  | .lit _ => 1
  | .nil => 1
  | .ptr d => uptoBulk d + 1
  | .slice elems spare => uptoBulkAll elems + uptoBulkAll spare + 1
  | .agg parts => uptoBulkAll parts + 1
  | .iface _ d => uptoBulk d + 1
  | .map entries => uptoBulkEntries entries + 1
  | .held _ => 1
def uptoBulkAll {H : Type} : List (DataW H) → Nat
  | [] => 0
  | d :: r => uptoBulk d + uptoBulkAll r
def uptoBulkEntries {H : Type} : List (Lit × DataW H) → Nat
  | [] => 0
  | x :: r => uptoBulkEntry x + uptoBulkEntries r
def uptoBulkEntry {H : Type} : Lit × DataW H → Nat
  | (.string bytes, d) => bytes.length + uptoBulk d + 1
  | (_, d) => uptoBulk d + 1
 end
def uptoSmall : (H : Type) → List (DataW H) → Bool := fun _ ds => decide (uptoBulkAll ds ≤ 1048576)
def OpenSpec.upto (s : _root_.Go.ChangeSpec) : _root_.Go.OpenSpec := { _root_.Go.OpenSpec.ofChange s with cond := some uptoSmall }

/-- 'laws.FnIndexTwice', WHERE WHAT IT READS IS OF BULK AT MOST 1048576: true; the input reads as it did. -/
def fnIndexTwiceUptoRow : OpenClaim := { program := "ytchgdmmcjgmfcaagreatdoor", sum := "5d61d33a155b9cf0f64e0bba17ec822d135d636946f0956a418ab785e45b99d6", func := "loop.example/fossick/laws.FnIndexTwice", spec := "fnIndexTwice", inPlace := ["internal/abi.NoEscape", "internal/bytealg.MakeNoZero"], unfollowed := true, recurses := true, named := ["loop.example/fossick/impl.shapes", "loop.example/fossick/impl.none"], maps := true, apart := false, laid := [("loop.example/fossick/impl.none", laid_loop_example_fossick_impl_none), ("loop.example/fossick/impl.shapes", laid_loop_example_fossick_impl_shapes)], narrowed := true }
def FnIndexTwiceUptoSaid : Prop := fnIndexTwiceUptoRow.holds Tryz.pinned (OpenSpec.upto fnIndexTwiceSpec)

/-- 'laws.FnIndexPut', WHERE WHAT IT READS IS OF BULK AT MOST 1048576: true; the input reads as it did. -/
def fnIndexPutUptoRow : OpenClaim := { program := "ytchgdmmcjgmfcaagreatdoor", sum := "5d61d33a155b9cf0f64e0bba17ec822d135d636946f0956a418ab785e45b99d6", func := "loop.example/fossick/laws.FnIndexPut", spec := "fnIndexPut", inPlace := ["internal/abi.NoEscape", "internal/bytealg.MakeNoZero"], unfollowed := true, recurses := true, named := ["loop.example/fossick/impl.shapes", "loop.example/fossick/impl.none"], maps := true, apart := false, laid := [("loop.example/fossick/impl.none", laid_loop_example_fossick_impl_none), ("loop.example/fossick/impl.shapes", laid_loop_example_fossick_impl_shapes)], narrowed := true }
def FnIndexPutUptoSaid : Prop := fnIndexPutUptoRow.holds Tryz.pinned (OpenSpec.upto fnIndexPutSpec)

/-- 'laws.FnIndexWays', WHERE WHAT IT READS IS OF BULK AT MOST 1048576: true; the input reads as it did. -/
def fnIndexWaysUptoRow : OpenClaim := { program := "ytchgdmmcjgmfcaagreatdoor", sum := "5d61d33a155b9cf0f64e0bba17ec822d135d636946f0956a418ab785e45b99d6", func := "loop.example/fossick/laws.FnIndexWays", spec := "fnIndexWays", inPlace := ["internal/abi.NoEscape", "internal/bytealg.MakeNoZero"], unfollowed := true, recurses := true, named := ["loop.example/fossick/impl.shapes", "loop.example/fossick/impl.none"], maps := true, apart := false, laid := [("loop.example/fossick/impl.none", laid_loop_example_fossick_impl_none), ("loop.example/fossick/impl.shapes", laid_loop_example_fossick_impl_shapes)], narrowed := true }
def FnIndexWaysUptoSaid : Prop := fnIndexWaysUptoRow.holds Tryz.pinned (OpenSpec.upto fnIndexWaysSpec)

/-- 'laws.FnAlertMany', WHERE WHAT IT READS IS OF BULK AT MOST 1048576: true; the input reads as it did. -/
def fnAlertManyUptoRow : OpenClaim := { program := "ytchgdmmcjgmfcaagreatdoor", sum := "5d61d33a155b9cf0f64e0bba17ec822d135d636946f0956a418ab785e45b99d6", func := "loop.example/fossick/laws.FnAlertMany", spec := "fnAlertMany", inPlace := ["internal/abi.NoEscape", "internal/bytealg.MakeNoZero"], unfollowed := true, recurses := true, named := ["loop.example/fossick/impl.shapes", "loop.example/fossick/impl.none"], maps := true, apart := false, laid := [("loop.example/fossick/impl.none", laid_loop_example_fossick_impl_none), ("loop.example/fossick/impl.shapes", laid_loop_example_fossick_impl_shapes)], narrowed := true }
def FnAlertManyUptoSaid : Prop := fnAlertManyUptoRow.holds Tryz.pinned (OpenSpec.upto fnAlertManySpec)

/-- 'laws.FnMatchSets', WHERE WHAT IT READS IS OF BULK AT MOST 1048576: true; the input reads as it did. -/
def fnMatchSetsUptoRow : OpenClaim := { program := "ytchgdmmcjgmfcaagreatdoor", sum := "5d61d33a155b9cf0f64e0bba17ec822d135d636946f0956a418ab785e45b99d6", func := "loop.example/fossick/laws.FnMatchSets", spec := "fnMatchSets", inPlace := ["internal/abi.NoEscape", "internal/bytealg.MakeNoZero"], unfollowed := true, recurses := true, named := ["loop.example/fossick/impl.shapes", "loop.example/fossick/impl.none"], maps := true, apart := false, laid := [("loop.example/fossick/impl.none", laid_loop_example_fossick_impl_none), ("loop.example/fossick/impl.shapes", laid_loop_example_fossick_impl_shapes)], narrowed := true }
def FnMatchSetsUptoSaid : Prop := fnMatchSetsUptoRow.holds Tryz.pinned (OpenSpec.upto fnMatchSetsSpec)

/-- 'laws.FnGroupTop', WHERE WHAT IT READS IS OF BULK AT MOST 1048576: true; the input reads as it did. -/
def fnGroupTopUptoRow : OpenClaim := { program := "ytchgdmmcjgmfcaagreatdoor", sum := "5d61d33a155b9cf0f64e0bba17ec822d135d636946f0956a418ab785e45b99d6", func := "loop.example/fossick/laws.FnGroupTop", spec := "fnGroupTop", inPlace := ["internal/abi.NoEscape", "internal/bytealg.MakeNoZero"], unfollowed := true, recurses := true, named := ["loop.example/fossick/impl.shapes", "loop.example/fossick/impl.none"], maps := true, apart := false, laid := [("loop.example/fossick/impl.none", laid_loop_example_fossick_impl_none), ("loop.example/fossick/impl.shapes", laid_loop_example_fossick_impl_shapes)], narrowed := true }
def FnGroupTopUptoSaid : Prop := fnGroupTopUptoRow.holds Tryz.pinned (OpenSpec.upto fnGroupTopSpec)

end Rows
end Go.Proofs.YtchgdmmcjgmfcaaGreatDoor
