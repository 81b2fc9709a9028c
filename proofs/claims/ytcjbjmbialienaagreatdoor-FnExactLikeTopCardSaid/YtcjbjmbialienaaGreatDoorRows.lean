/-
  NARROWER THAN 'FOR EVERY INPUT', by the rows' own cells (each row's printed sentence says how): FnLikeTerms: laid · FnLikeTop: laid · FnExactLikeTerms: laid · FnExactLikeTop: laid.
  DERIVED. THE GIVEN ROWS OF THIS SEAT. 4 by the template 'for every input the law returns true; each argument reads behind the call as it read before'; 0 by the template 'total and deterministic' (their statements: YtcjbjmbialienaaGreatDoorTotals.lean).
  GIVEN WITH THE SEED: the statements are not yours to turn. If you find one false, say at which input.
  Laid BY PROGRAM, IN A SANDBOX (cutbox-rows.mjs): the forced cells as the released guide's own fill.sh prints them over the translation 86c495bfbd9a6887… (all of the seat's roots in one cut). By AI agents, Wed Nov 11 2026. No macro, syntax, notation, axiom, sorry.
-/
import Derived.Test.YtcjbjmbialienaaGreatDoorChecked
import GoSem.Claim
import GoSem.ClaimJoined
import GoSem.ClaimMapViews
import Derived.JoinedTies
import Derived.KernelRfl
namespace Go.Proofs.YtcjbjmbialienaaGreatDoor
/- THE CELL 'sum', in the pinned program and in every row, IS THE sha256 OF THE DUMP (.gsa) THAT YtcjbjmbialienaaGreatDoorProg.lean LOADS. Nothing in Lean hashes anything: it is a label: what it is worth is what the hold of that sum in a sandbox is worth. -/
noncomputable def Tryz.pinned : Pinned := { name := "ytcjbjmbialienaagreatdoor", sum := "86c495bfbd9a68878b7654a51039a3a770fc7115a94870ea0d7a049d58c2631c", checked := Tryz.checked }
namespace Rows
def none {H : Type} : Left H := { results := [], args := [] }

/- WHAT THE LISTED PACKAGE-LEVEL VARIABLES READ AS WHEN THE CALL BEGINS. Each datum BY PROGRAM (the guide's laid-datum.mjs) off the statement by which the dump's own 'gosem.cut.vars' lays the variable. In a bare row this is a premise. The card (YtcjbjmbialienaaGreatDoorCards.lean) ties it to the program's text. -/
def laid_loop_example_fossick_impl_none {H : Type} : DataW H := .agg [.lit (.int .i64 0), .lit (.int .i64 1)]

/-- 'laws.FnLikeTerms': WHATEVER THE INPUT: true; the input reads as it did. -/
def fnLikeTermsSpec : ChangeSpec := { name := "fnLikeTerms", vars := ["loop.example/fossick/impl.none"], fn := fun _ => fun
  | [d, g1] => { results := [.lit (.bool true)], args := [d], vars := [g1] }
  | _ => none }
def fnLikeTermsRow : OpenClaim := { program := "ytcjbjmbialienaagreatdoor", sum := "86c495bfbd9a68878b7654a51039a3a770fc7115a94870ea0d7a049d58c2631c", func := "loop.example/fossick/laws.FnLikeTerms", spec := "fnLikeTerms", unfollowed := true, recurses := true, named := ["loop.example/fossick/impl.none"], apart := false, laid := [("loop.example/fossick/impl.none", laid_loop_example_fossick_impl_none)] }
def FnLikeTermsSaid : Prop := fnLikeTermsRow.holds Tryz.pinned (OpenSpec.ofChange fnLikeTermsSpec)

/-- ITS FALSE NEIGHBOUR: 'it returns false'. Refute it at one input. -/
def fnLikeTermsWrong : ChangeSpec := { name := "fnLikeTerms", vars := ["loop.example/fossick/impl.none"], fn := fun _ => fun
  | [d, g1] => { results := [.lit (.bool false)], args := [d], vars := [g1] }
  | _ => none }
def FnLikeTermsWrongFalsely : Prop := fnLikeTermsRow.holds Tryz.pinned (OpenSpec.ofChange fnLikeTermsWrong)

/-- 'laws.FnLikeTop': WHATEVER THE INPUT: true; the input reads as it did. -/
def fnLikeTopSpec : ChangeSpec := { name := "fnLikeTop", vars := ["loop.example/fossick/impl.none"], fn := fun _ => fun
  | [d, g1] => { results := [.lit (.bool true)], args := [d], vars := [g1] }
  | _ => none }
def fnLikeTopRow : OpenClaim := { program := "ytcjbjmbialienaagreatdoor", sum := "86c495bfbd9a68878b7654a51039a3a770fc7115a94870ea0d7a049d58c2631c", func := "loop.example/fossick/laws.FnLikeTop", spec := "fnLikeTop", unfollowed := true, recurses := true, named := ["loop.example/fossick/impl.none"], apart := false, laid := [("loop.example/fossick/impl.none", laid_loop_example_fossick_impl_none)] }
def FnLikeTopSaid : Prop := fnLikeTopRow.holds Tryz.pinned (OpenSpec.ofChange fnLikeTopSpec)

/-- ITS FALSE NEIGHBOUR: 'it returns false'. Refute it at one input. -/
def fnLikeTopWrong : ChangeSpec := { name := "fnLikeTop", vars := ["loop.example/fossick/impl.none"], fn := fun _ => fun
  | [d, g1] => { results := [.lit (.bool false)], args := [d], vars := [g1] }
  | _ => none }
def FnLikeTopWrongFalsely : Prop := fnLikeTopRow.holds Tryz.pinned (OpenSpec.ofChange fnLikeTopWrong)

/-- 'laws.FnExactLikeTerms': WHATEVER THE INPUT: true; the input reads as it did. -/
def fnExactLikeTermsSpec : ChangeSpec := { name := "fnExactLikeTerms", vars := ["loop.example/fossick/impl.none"], fn := fun _ => fun
  | [d1, d2, d3, d4, d5, g1] => { results := [.lit (.bool true)], args := [d1, d2, d3, d4, d5], vars := [g1] }
  | _ => none }
def fnExactLikeTermsRow : OpenClaim := { program := "ytcjbjmbialienaagreatdoor", sum := "86c495bfbd9a68878b7654a51039a3a770fc7115a94870ea0d7a049d58c2631c", func := "loop.example/fossick/laws.FnExactLikeTerms", spec := "fnExactLikeTerms", unfollowed := true, recurses := true, named := ["loop.example/fossick/impl.none"], apart := false, laid := [("loop.example/fossick/impl.none", laid_loop_example_fossick_impl_none)] }
def FnExactLikeTermsSaid : Prop := fnExactLikeTermsRow.holds Tryz.pinned (OpenSpec.ofChange fnExactLikeTermsSpec)

/-- ITS FALSE NEIGHBOUR: 'it returns false'. Refute it at one input. -/
def fnExactLikeTermsWrong : ChangeSpec := { name := "fnExactLikeTerms", vars := ["loop.example/fossick/impl.none"], fn := fun _ => fun
  | [d1, d2, d3, d4, d5, g1] => { results := [.lit (.bool false)], args := [d1, d2, d3, d4, d5], vars := [g1] }
  | _ => none }
def FnExactLikeTermsWrongFalsely : Prop := fnExactLikeTermsRow.holds Tryz.pinned (OpenSpec.ofChange fnExactLikeTermsWrong)

/-- 'laws.FnExactLikeTop': WHATEVER THE INPUT: true; the input reads as it did. -/
def fnExactLikeTopSpec : ChangeSpec := { name := "fnExactLikeTop", vars := ["loop.example/fossick/impl.none"], fn := fun _ => fun
  | [d1, d2, d3, d4, d5, g1] => { results := [.lit (.bool true)], args := [d1, d2, d3, d4, d5], vars := [g1] }
  | _ => none }
def fnExactLikeTopRow : OpenClaim := { program := "ytcjbjmbialienaagreatdoor", sum := "86c495bfbd9a68878b7654a51039a3a770fc7115a94870ea0d7a049d58c2631c", func := "loop.example/fossick/laws.FnExactLikeTop", spec := "fnExactLikeTop", unfollowed := true, recurses := true, named := ["loop.example/fossick/impl.none"], apart := false, laid := [("loop.example/fossick/impl.none", laid_loop_example_fossick_impl_none)] }
def FnExactLikeTopSaid : Prop := fnExactLikeTopRow.holds Tryz.pinned (OpenSpec.ofChange fnExactLikeTopSpec)

/-- ITS FALSE NEIGHBOUR: 'it returns false'. Refute it at one input. -/
def fnExactLikeTopWrong : ChangeSpec := { name := "fnExactLikeTop", vars := ["loop.example/fossick/impl.none"], fn := fun _ => fun
  | [d1, d2, d3, d4, d5, g1] => { results := [.lit (.bool false)], args := [d1, d2, d3, d4, d5], vars := [g1] }
  | _ => none }
def FnExactLikeTopWrongFalsely : Prop := fnExactLikeTopRow.holds Tryz.pinned (OpenSpec.ofChange fnExactLikeTopWrong)

/- THE SECOND FORM. 'bulk': how many values and letters a reading holds, each counted each time it is reached (what is shared counts as often as it is met; a slice's spare places count too). A statement '..UptoSaid' is the law's where the arguments, and the package variables that the reading takes, are together of bulk at most 1048576: NARROWER than '..Said'. Prove '..Said' where nothing that the law and all that it calls make is longer than what came in: it says more and counts as full. Else prove '..UptoSaid'. A law counts once. -/
mutual
def uptoBulk {H : Type} : DataW H → Nat
  | .lit (.string bytes) => bytes.length + 1
  | .lit _ => 1
  | .nil => 1
  | .ptr d => uptoBulk d + 1
  | .slice elems spare => uptoBulkAll elems + uptoBulkAll spare + 1
  | .agg parts => uptoBulkAll parts + 1
  | .iface _ d => uptoBulk d + 1
  | .map entries => uptoBulkEntries entries + 1
  | .held _ => 1
def uptoBulkAll {H : Type} : List (DataW H) → Nat
  | [] => 0
  | d :: r => uptoBulk d + uptoBulkAll r
def uptoBulkEntries {H : Type} : List (Lit × DataW H) → Nat
  | [] => 0
  | x :: r => uptoBulkEntry x + uptoBulkEntries r
def uptoBulkEntry {H : Type} : Lit × DataW H → Nat
  | (.string bytes, d) => bytes.length + uptoBulk d + 1
  | (_, d) => uptoBulk d + 1
 end
def uptoSmall : (H : Type) → List (DataW H) → Bool := fun _ ds => decide (uptoBulkAll ds ≤ 1048576)
def OpenSpec.upto (s : _root_.Go.ChangeSpec) : _root_.Go.OpenSpec := { _root_.Go.OpenSpec.ofChange s with cond := some uptoSmall }

/-- 'laws.FnLikeTerms', WHERE WHAT IT READS IS OF BULK AT MOST 1048576: true; the input reads as it did. -/
def fnLikeTermsUptoRow : OpenClaim := { program := "ytcjbjmbialienaagreatdoor", sum := "86c495bfbd9a68878b7654a51039a3a770fc7115a94870ea0d7a049d58c2631c", func := "loop.example/fossick/laws.FnLikeTerms", spec := "fnLikeTerms", unfollowed := true, recurses := true, named := ["loop.example/fossick/impl.none"], apart := false, laid := [("loop.example/fossick/impl.none", laid_loop_example_fossick_impl_none)], narrowed := true }
def FnLikeTermsUptoSaid : Prop := fnLikeTermsUptoRow.holds Tryz.pinned (OpenSpec.upto fnLikeTermsSpec)

/-- 'laws.FnLikeTop', WHERE WHAT IT READS IS OF BULK AT MOST 1048576: true; the input reads as it did. -/
def fnLikeTopUptoRow : OpenClaim := { program := "ytcjbjmbialienaagreatdoor", sum := "86c495bfbd9a68878b7654a51039a3a770fc7115a94870ea0d7a049d58c2631c", func := "loop.example/fossick/laws.FnLikeTop", spec := "fnLikeTop", unfollowed := true, recurses := true, named := ["loop.example/fossick/impl.none"], apart := false, laid := [("loop.example/fossick/impl.none", laid_loop_example_fossick_impl_none)], narrowed := true }
def FnLikeTopUptoSaid : Prop := fnLikeTopUptoRow.holds Tryz.pinned (OpenSpec.upto fnLikeTopSpec)

/-- 'laws.FnExactLikeTerms', WHERE WHAT IT READS IS OF BULK AT MOST 1048576: true; the input reads as it did. -/
def fnExactLikeTermsUptoRow : OpenClaim := { program := "ytcjbjmbialienaagreatdoor", sum := "86c495bfbd9a68878b7654a51039a3a770fc7115a94870ea0d7a049d58c2631c", func := "loop.example/fossick/laws.FnExactLikeTerms", spec := "fnExactLikeTerms", unfollowed := true, recurses := true, named := ["loop.example/fossick/impl.none"], apart := false, laid := [("loop.example/fossick/impl.none", laid_loop_example_fossick_impl_none)], narrowed := true }
def FnExactLikeTermsUptoSaid : Prop := fnExactLikeTermsUptoRow.holds Tryz.pinned (OpenSpec.upto fnExactLikeTermsSpec)

/-- 'laws.FnExactLikeTop', WHERE WHAT IT READS IS OF BULK AT MOST 1048576: true; the input reads as it did. -/
def fnExactLikeTopUptoRow : OpenClaim := { program := "ytcjbjmbialienaagreatdoor", sum := "86c495bfbd9a68878b7654a51039a3a770fc7115a94870ea0d7a049d58c2631c", func := "loop.example/fossick/laws.FnExactLikeTop", spec := "fnExactLikeTop", unfollowed := true, recurses := true, named := ["loop.example/fossick/impl.none"], apart := false, laid := [("loop.example/fossick/impl.none", laid_loop_example_fossick_impl_none)], narrowed := true }
def FnExactLikeTopUptoSaid : Prop := fnExactLikeTopUptoRow.holds Tryz.pinned (OpenSpec.upto fnExactLikeTopSpec)

end Rows
end Go.Proofs.YtcjbjmbialienaaGreatDoor
