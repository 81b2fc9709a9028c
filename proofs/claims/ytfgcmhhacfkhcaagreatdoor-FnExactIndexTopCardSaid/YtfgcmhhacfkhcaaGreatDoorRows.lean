/-
  NARROWER THAN 'FOR EVERY INPUT', by the rows' own cells (each row's printed sentence says how): FnExactAlertOf: loops, maps, laid · FnAlertOf: maps, laid · FnShards: maps, laid · FnMatchSets: maps, laid · FnExactIndexTop: loops, maps, laid.
  DERIVED. THE GIVEN ROWS OF THIS SEAT. 5 by the template 'for every input the law returns true; each argument reads behind the call as it read before'; 0 by the template 'total and deterministic' (their statements: YtfgcmhhacfkhcaaGreatDoorTotals.lean).
  GIVEN WITH THE SEED: the statements are not yours to turn. If you find one false, say at which input.
  Laid BY PROGRAM, IN A SANDBOX (cutbox-rows.mjs): the forced cells as the released guide's own fill.sh prints them over the translation 002b65ad8abffc8b… (all of the seat's roots in one cut). By AI agents, Wed Nov 11 2026. No macro, syntax, notation, axiom, sorry.
-/
import Derived.Test.YtfgcmhhacfkhcaaGreatDoorChecked
import GoSem.Claim
import GoSem.ClaimJoined
import GoSem.ClaimMapViews
import Derived.JoinedTies
import Derived.KernelRfl
namespace Go.Proofs.YtfgcmhhacfkhcaaGreatDoor
/- THE CELL 'sum', in the pinned program and in every row, IS THE sha256 OF THE DUMP (.gsa) THAT YtfgcmhhacfkhcaaGreatDoorProg.lean LOADS. Nothing in Lean hashes anything: it is a label: what it is worth is what the hold of that sum in a sandbox is worth. -/
noncomputable def Tryz.pinned : Pinned := { name := "ytfgcmhhacfkhcaagreatdoor", sum := "002b65ad8abffc8b6733a87f4f773276659d2d6594a83a3e79d85968294a0999", checked := Tryz.checked }
namespace Rows
def none {H : Type} : Left H := { results := [], args := [] }

/- WHAT THE LISTED PACKAGE-LEVEL VARIABLES READ AS WHEN THE CALL BEGINS. Each datum BY PROGRAM (the guide's laid-datum.mjs) off the statement by which the dump's own 'gosem.cut.vars' lays the variable. In a bare row this is a premise. The card (YtfgcmhhacfkhcaaGreatDoorCards.lean) ties it to the program's text. -/
def laid_loop_example_fossick_impl_none {H : Type} : DataW H := .agg [.lit (.int .i64 0), .lit (.int .i64 1)]
def laid_loop_example_fossick_impl_shapes {H : Type} : DataW H := .map [(.int .i64 1, .agg [.lit (.bool false), .lit (.int .i64 0), .lit (.int .i64 0), .lit (.int .i64 0), .lit (.int .i64 0), .lit (.bool false), .lit (.int .i64 0), .lit (.int .i64 0)]), (.int .i64 2, .agg [.lit (.bool true), .lit (.int .i64 1), .lit (.int .i64 1), .lit (.int .i64 0), .lit (.int .i64 0), .lit (.bool false), .lit (.int .i64 0), .lit (.int .i64 0)]), (.int .i64 3, .agg [.lit (.bool true), .lit (.int .i64 2), .lit (.int .i64 4), .lit (.int .i64 0), .lit (.int .i64 5), .lit (.bool false), .lit (.int .i64 0), .lit (.int .i64 0)]), (.int .i64 4, .agg [.lit (.bool true), .lit (.int .i64 1), .lit (.int .i64 1), .lit (.int .i64 1), .lit (.int .i64 2), .lit (.bool false), .lit (.int .i64 0), .lit (.int .i64 0)]), (.int .i64 5, .agg [.lit (.bool true), .lit (.int .i64 1), .lit (.int .i64 1), .lit (.int .i64 0), .lit (.int .i64 0), .lit (.bool false), .lit (.int .i64 0), .lit (.int .i64 0)]), (.int .i64 6, .agg [.lit (.bool true), .lit (.int .i64 0), .lit (.int .i64 0), .lit (.int .i64 0), .lit (.int .i64 999999999), .lit (.bool true), .lit (.int .i64 0), .lit (.int .i64 0)]), (.int .i64 7, .agg [.lit (.bool false), .lit (.int .i64 0), .lit (.int .i64 0), .lit (.int .i64 0), .lit (.int .i64 0), .lit (.bool false), .lit (.int .i64 2), .lit (.int .i64 4)]), (.int .i64 8, .agg [.lit (.bool false), .lit (.int .i64 0), .lit (.int .i64 0), .lit (.int .i64 0), .lit (.int .i64 0), .lit (.bool false), .lit (.int .i64 2), .lit (.int .i64 4)]), (.int .i64 9, .agg [.lit (.bool false), .lit (.int .i64 0), .lit (.int .i64 0), .lit (.int .i64 0), .lit (.int .i64 0), .lit (.bool false), .lit (.int .i64 2), .lit (.int .i64 2)]), (.int .i64 10, .agg [.lit (.bool false), .lit (.int .i64 0), .lit (.int .i64 0), .lit (.int .i64 2), .lit (.int .i64 9), .lit (.bool false), .lit (.int .i64 1), .lit (.int .i64 1)])]

/-- 'laws.FnExactAlertOf': WHATEVER THE INPUT: true; the input reads as it did. -/
def fnExactAlertOfSpec : ChangeSpec := { name := "fnExactAlertOf", vars := ["loop.example/fossick/impl.shapes", "loop.example/fossick/impl.none"], fn := fun _ => fun
  | [d1, d2, d3, g1, g2] => { results := [.lit (.bool true)], args := [d1, d2, d3], vars := [g1, g2] }
  | _ => none }
def fnExactAlertOfRow : OpenClaim := { program := "ytfgcmhhacfkhcaagreatdoor", sum := "002b65ad8abffc8b6733a87f4f773276659d2d6594a83a3e79d85968294a0999", func := "loop.example/fossick/laws.FnExactAlertOf", spec := "fnExactAlertOf", inPlace := ["internal/abi.NoEscape", "internal/bytealg.MakeNoZero"], unfollowed := true, recurses := true, named := ["loop.example/fossick/impl.shapes", "loop.example/fossick/impl.none"], maps := true, loops := true, apart := false, laid := [("loop.example/fossick/impl.none", laid_loop_example_fossick_impl_none), ("loop.example/fossick/impl.shapes", laid_loop_example_fossick_impl_shapes)] }
def FnExactAlertOfSaid : Prop := fnExactAlertOfRow.holds Tryz.pinned (OpenSpec.ofChange fnExactAlertOfSpec)

/-- ITS FALSE NEIGHBOUR: 'it returns false'. Refute it at one input. -/
def fnExactAlertOfWrong : ChangeSpec := { name := "fnExactAlertOf", vars := ["loop.example/fossick/impl.shapes", "loop.example/fossick/impl.none"], fn := fun _ => fun
  | [d1, d2, d3, g1, g2] => { results := [.lit (.bool false)], args := [d1, d2, d3], vars := [g1, g2] }
  | _ => none }
def FnExactAlertOfWrongFalsely : Prop := fnExactAlertOfRow.holds Tryz.pinned (OpenSpec.ofChange fnExactAlertOfWrong)

/-- 'laws.FnAlertOf': WHATEVER THE INPUT: true; the input reads as it did. -/
def fnAlertOfSpec : ChangeSpec := { name := "fnAlertOf", vars := ["loop.example/fossick/impl.shapes", "loop.example/fossick/impl.none"], fn := fun _ => fun
  | [d, g1, g2] => { results := [.lit (.bool true)], args := [d], vars := [g1, g2] }
  | _ => none }
def fnAlertOfRow : OpenClaim := { program := "ytfgcmhhacfkhcaagreatdoor", sum := "002b65ad8abffc8b6733a87f4f773276659d2d6594a83a3e79d85968294a0999", func := "loop.example/fossick/laws.FnAlertOf", spec := "fnAlertOf", inPlace := ["internal/abi.NoEscape", "internal/bytealg.MakeNoZero"], unfollowed := true, recurses := true, named := ["loop.example/fossick/impl.shapes", "loop.example/fossick/impl.none"], maps := true, apart := false, laid := [("loop.example/fossick/impl.none", laid_loop_example_fossick_impl_none), ("loop.example/fossick/impl.shapes", laid_loop_example_fossick_impl_shapes)] }
def FnAlertOfSaid : Prop := fnAlertOfRow.holds Tryz.pinned (OpenSpec.ofChange fnAlertOfSpec)

/-- ITS FALSE NEIGHBOUR: 'it returns false'. Refute it at one input. -/
def fnAlertOfWrong : ChangeSpec := { name := "fnAlertOf", vars := ["loop.example/fossick/impl.shapes", "loop.example/fossick/impl.none"], fn := fun _ => fun
  | [d, g1, g2] => { results := [.lit (.bool false)], args := [d], vars := [g1, g2] }
  | _ => none }
def FnAlertOfWrongFalsely : Prop := fnAlertOfRow.holds Tryz.pinned (OpenSpec.ofChange fnAlertOfWrong)

/-- 'laws.FnShards': WHATEVER THE INPUT: true; the input reads as it did. -/
def fnShardsSpec : ChangeSpec := { name := "fnShards", vars := ["loop.example/fossick/impl.shapes", "loop.example/fossick/impl.none"], fn := fun _ => fun
  | [d, g1, g2] => { results := [.lit (.bool true)], args := [d], vars := [g1, g2] }
  | _ => none }
def fnShardsRow : OpenClaim := { program := "ytfgcmhhacfkhcaagreatdoor", sum := "002b65ad8abffc8b6733a87f4f773276659d2d6594a83a3e79d85968294a0999", func := "loop.example/fossick/laws.FnShards", spec := "fnShards", inPlace := ["internal/abi.NoEscape", "internal/bytealg.MakeNoZero"], unfollowed := true, recurses := true, named := ["loop.example/fossick/impl.shapes", "loop.example/fossick/impl.none"], maps := true, apart := false, laid := [("loop.example/fossick/impl.none", laid_loop_example_fossick_impl_none), ("loop.example/fossick/impl.shapes", laid_loop_example_fossick_impl_shapes)] }
def FnShardsSaid : Prop := fnShardsRow.holds Tryz.pinned (OpenSpec.ofChange fnShardsSpec)

/-- ITS FALSE NEIGHBOUR: 'it returns false'. Refute it at one input. -/
def fnShardsWrong : ChangeSpec := { name := "fnShards", vars := ["loop.example/fossick/impl.shapes", "loop.example/fossick/impl.none"], fn := fun _ => fun
  | [d, g1, g2] => { results := [.lit (.bool false)], args := [d], vars := [g1, g2] }
  | _ => none }
def FnShardsWrongFalsely : Prop := fnShardsRow.holds Tryz.pinned (OpenSpec.ofChange fnShardsWrong)

/-- 'laws.FnMatchSets': WHATEVER THE INPUT: true; the input reads as it did. -/
def fnMatchSetsSpec : ChangeSpec := { name := "fnMatchSets", vars := ["loop.example/fossick/impl.shapes", "loop.example/fossick/impl.none"], fn := fun _ => fun
  | [d1, d2, g1, g2] => { results := [.lit (.bool true)], args := [d1, d2], vars := [g1, g2] }
  | _ => none }
def fnMatchSetsRow : OpenClaim := { program := "ytfgcmhhacfkhcaagreatdoor", sum := "002b65ad8abffc8b6733a87f4f773276659d2d6594a83a3e79d85968294a0999", func := "loop.example/fossick/laws.FnMatchSets", spec := "fnMatchSets", inPlace := ["internal/abi.NoEscape", "internal/bytealg.MakeNoZero"], unfollowed := true, recurses := true, named := ["loop.example/fossick/impl.shapes", "loop.example/fossick/impl.none"], maps := true, apart := false, laid := [("loop.example/fossick/impl.none", laid_loop_example_fossick_impl_none), ("loop.example/fossick/impl.shapes", laid_loop_example_fossick_impl_shapes)] }
def FnMatchSetsSaid : Prop := fnMatchSetsRow.holds Tryz.pinned (OpenSpec.ofChange fnMatchSetsSpec)

/-- ITS FALSE NEIGHBOUR: 'it returns false'. Refute it at one input. -/
def fnMatchSetsWrong : ChangeSpec := { name := "fnMatchSets", vars := ["loop.example/fossick/impl.shapes", "loop.example/fossick/impl.none"], fn := fun _ => fun
  | [d1, d2, g1, g2] => { results := [.lit (.bool false)], args := [d1, d2], vars := [g1, g2] }
  | _ => none }
def FnMatchSetsWrongFalsely : Prop := fnMatchSetsRow.holds Tryz.pinned (OpenSpec.ofChange fnMatchSetsWrong)

/-- 'laws.FnExactIndexTop': WHATEVER THE INPUT: true; the input reads as it did. -/
def fnExactIndexTopSpec : ChangeSpec := { name := "fnExactIndexTop", vars := ["loop.example/fossick/impl.shapes", "loop.example/fossick/impl.none"], fn := fun _ => fun
  | [d1, d2, d3, g1, g2] => { results := [.lit (.bool true)], args := [d1, d2, d3], vars := [g1, g2] }
  | _ => none }
def fnExactIndexTopRow : OpenClaim := { program := "ytfgcmhhacfkhcaagreatdoor", sum := "002b65ad8abffc8b6733a87f4f773276659d2d6594a83a3e79d85968294a0999", func := "loop.example/fossick/laws.FnExactIndexTop", spec := "fnExactIndexTop", inPlace := ["internal/abi.NoEscape", "internal/bytealg.MakeNoZero"], unfollowed := true, recurses := true, named := ["loop.example/fossick/impl.shapes", "loop.example/fossick/impl.none"], maps := true, loops := true, apart := false, laid := [("loop.example/fossick/impl.none", laid_loop_example_fossick_impl_none), ("loop.example/fossick/impl.shapes", laid_loop_example_fossick_impl_shapes)] }
def FnExactIndexTopSaid : Prop := fnExactIndexTopRow.holds Tryz.pinned (OpenSpec.ofChange fnExactIndexTopSpec)

/-- ITS FALSE NEIGHBOUR: 'it returns false'. Refute it at one input. -/
def fnExactIndexTopWrong : ChangeSpec := { name := "fnExactIndexTop", vars := ["loop.example/fossick/impl.shapes", "loop.example/fossick/impl.none"], fn := fun _ => fun
  | [d1, d2, d3, g1, g2] => { results := [.lit (.bool false)], args := [d1, d2, d3], vars := [g1, g2] }
  | _ => none }
def FnExactIndexTopWrongFalsely : Prop := fnExactIndexTopRow.holds Tryz.pinned (OpenSpec.ofChange fnExactIndexTopWrong)

/- THE SECOND FORM. 'bulk': how many values and letters a reading holds, each counted each time it is reached (what is shared counts as often as it is met; a slice's spare places count too). A statement '..UptoSaid' is the law's where the arguments, and the package variables that the reading takes, are together of bulk at most 1048576: NARROWER than '..Said'. Prove '..Said' where nothing that the law and all that it calls make is longer than what came in: it says more and counts as full. Else prove '..UptoSaid'. A law counts once. -/
mutual
def uptoBulk {H : Type} : DataW H → Nat
  | .lit (.string bytes) => bytes.length + 1
  | .lit _ => 1
  | .nil => 1
  | .ptr d => uptoBulk d + 1
  | .slice elems spare => uptoBulkAll elems + uptoBulkAll spare + 1
  | .agg parts => uptoBulkAll parts + 1
  | .iface _ d => uptoBulk d + 1
  | .map entries => uptoBulkEntries entries + 1
  | .held _ => 1
def uptoBulkAll {H : Type} : List (DataW H) → Nat
  | [] => 0
  | d :: r => uptoBulk d + uptoBulkAll r
def uptoBulkEntries {H : Type} : List (Lit × DataW H) → Nat
  | [] => 0
  | x :: r => uptoBulkEntry x + uptoBulkEntries r
def uptoBulkEntry {H : Type} : Lit × DataW H → Nat
  | (.string bytes, d) => bytes.length + uptoBulk d + 1
  | (_, d) => uptoBulk d + 1
 end
def uptoSmall : (H : Type) → List (DataW H) → Bool := fun _ ds => decide (uptoBulkAll ds ≤ 1048576)
def OpenSpec.upto (s : _root_.Go.ChangeSpec) : _root_.Go.OpenSpec := { _root_.Go.OpenSpec.ofChange s with cond := some uptoSmall }

/-- 'laws.FnExactAlertOf', WHERE WHAT IT READS IS OF BULK AT MOST 1048576: true; the input reads as it did. -/
def fnExactAlertOfUptoRow : OpenClaim := { program := "ytfgcmhhacfkhcaagreatdoor", sum := "002b65ad8abffc8b6733a87f4f773276659d2d6594a83a3e79d85968294a0999", func := "loop.example/fossick/laws.FnExactAlertOf", spec := "fnExactAlertOf", inPlace := ["internal/abi.NoEscape", "internal/bytealg.MakeNoZero"], unfollowed := true, recurses := true, named := ["loop.example/fossick/impl.shapes", "loop.example/fossick/impl.none"], maps := true, loops := true, apart := false, laid := [("loop.example/fossick/impl.none", laid_loop_example_fossick_impl_none), ("loop.example/fossick/impl.shapes", laid_loop_example_fossick_impl_shapes)], narrowed := true }
def FnExactAlertOfUptoSaid : Prop := fnExactAlertOfUptoRow.holds Tryz.pinned (OpenSpec.upto fnExactAlertOfSpec)

/-- 'laws.FnAlertOf', WHERE WHAT IT READS IS OF BULK AT MOST 1048576: true; the input reads as it did. -/
def fnAlertOfUptoRow : OpenClaim := { program := "ytfgcmhhacfkhcaagreatdoor", sum := "002b65ad8abffc8b6733a87f4f773276659d2d6594a83a3e79d85968294a0999", func := "loop.example/fossick/laws.FnAlertOf", spec := "fnAlertOf", inPlace := ["internal/abi.NoEscape", "internal/bytealg.MakeNoZero"], unfollowed := true, recurses := true, named := ["loop.example/fossick/impl.shapes", "loop.example/fossick/impl.none"], maps := true, apart := false, laid := [("loop.example/fossick/impl.none", laid_loop_example_fossick_impl_none), ("loop.example/fossick/impl.shapes", laid_loop_example_fossick_impl_shapes)], narrowed := true }
def FnAlertOfUptoSaid : Prop := fnAlertOfUptoRow.holds Tryz.pinned (OpenSpec.upto fnAlertOfSpec)

/-- 'laws.FnShards', WHERE WHAT IT READS IS OF BULK AT MOST 1048576: true; the input reads as it did. -/
def fnShardsUptoRow : OpenClaim := { program := "ytfgcmhhacfkhcaagreatdoor", sum := "002b65ad8abffc8b6733a87f4f773276659d2d6594a83a3e79d85968294a0999", func := "loop.example/fossick/laws.FnShards", spec := "fnShards", inPlace := ["internal/abi.NoEscape", "internal/bytealg.MakeNoZero"], unfollowed := true, recurses := true, named := ["loop.example/fossick/impl.shapes", "loop.example/fossick/impl.none"], maps := true, apart := false, laid := [("loop.example/fossick/impl.none", laid_loop_example_fossick_impl_none), ("loop.example/fossick/impl.shapes", laid_loop_example_fossick_impl_shapes)], narrowed := true }
def FnShardsUptoSaid : Prop := fnShardsUptoRow.holds Tryz.pinned (OpenSpec.upto fnShardsSpec)

/-- 'laws.FnMatchSets', WHERE WHAT IT READS IS OF BULK AT MOST 1048576: true; the input reads as it did. -/
def fnMatchSetsUptoRow : OpenClaim := { program := "ytfgcmhhacfkhcaagreatdoor", sum := "002b65ad8abffc8b6733a87f4f773276659d2d6594a83a3e79d85968294a0999", func := "loop.example/fossick/laws.FnMatchSets", spec := "fnMatchSets", inPlace := ["internal/abi.NoEscape", "internal/bytealg.MakeNoZero"], unfollowed := true, recurses := true, named := ["loop.example/fossick/impl.shapes", "loop.example/fossick/impl.none"], maps := true, apart := false, laid := [("loop.example/fossick/impl.none", laid_loop_example_fossick_impl_none), ("loop.example/fossick/impl.shapes", laid_loop_example_fossick_impl_shapes)], narrowed := true }
def FnMatchSetsUptoSaid : Prop := fnMatchSetsUptoRow.holds Tryz.pinned (OpenSpec.upto fnMatchSetsSpec)

/-- 'laws.FnExactIndexTop', WHERE WHAT IT READS IS OF BULK AT MOST 1048576: true; the input reads as it did. -/
def fnExactIndexTopUptoRow : OpenClaim := { program := "ytfgcmhhacfkhcaagreatdoor", sum := "002b65ad8abffc8b6733a87f4f773276659d2d6594a83a3e79d85968294a0999", func := "loop.example/fossick/laws.FnExactIndexTop", spec := "fnExactIndexTop", inPlace := ["internal/abi.NoEscape", "internal/bytealg.MakeNoZero"], unfollowed := true, recurses := true, named := ["loop.example/fossick/impl.shapes", "loop.example/fossick/impl.none"], maps := true, loops := true, apart := false, laid := [("loop.example/fossick/impl.none", laid_loop_example_fossick_impl_none), ("loop.example/fossick/impl.shapes", laid_loop_example_fossick_impl_shapes)], narrowed := true }
def FnExactIndexTopUptoSaid : Prop := fnExactIndexTopUptoRow.holds Tryz.pinned (OpenSpec.upto fnExactIndexTopSpec)

end Rows
end Go.Proofs.YtfgcmhhacfkhcaaGreatDoor
