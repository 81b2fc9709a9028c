/-
  No cell of these rows narrows 'for every input' (looked for: loops, veiled, ifaces, maps, wideKeys, modest, calm, conditions, laid).
  DERIVED. THE GIVEN ROWS OF THIS SEAT. 7 by the template 'for every input the law returns true; each argument reads behind the call as it read before'; 0 by the template 'total and deterministic' (their statements: YthodbhjnfeahhaaTotals.lean).
  GIVEN WITH THE SEED: the statements are not yours to turn. If you find one false, say at which input.
  Laid BY PROGRAM, IN A SANDBOX (cutbox-rows.mjs): the forced cells as the released guide's own fill.sh prints them over the translation 7424d22537125584… (all of the seat's roots in one cut). By AI agents, Wed Nov 11 2026. No macro, syntax, notation, axiom, sorry.
-/
import Derived.Test.YthodbhjnfeahhaaChecked
import GoSem.Claim
import GoSem.ClaimJoined
import GoSem.ClaimMapViews
import Derived.JoinedTies
import Derived.KernelRfl
namespace Go.Proofs.Ythodbhjnfeahhaa
/- THE CELL 'sum', in the pinned program and in every row, IS THE sha256 OF THE DUMP (.gsa) THAT YthodbhjnfeahhaaProg.lean LOADS. Nothing in Lean hashes anything: it is a label: what it is worth is what the hold of that sum in a sandbox is worth. -/
noncomputable def Try.pinned : Pinned := { name := "ythodbhjnfeahhaa", sum := "7424d22537125584d6e6c4ef402f6ed84d46cc8f8ee519565bd241b2d173c236", checked := Try.checked }
namespace Rows
def none {H : Type} : Left H := { results := [], args := [] }

/-- 'laws.FnExactCacheNew': WHATEVER THE INPUT: true; the input reads as it did. -/
def fnExactCacheNewSpec : ChangeSpec := { name := "fnExactCacheNew", fn := fun _ => fun
  | [d] => { results := [.lit (.bool true)], args := [d] }
  | _ => none }
def fnExactCacheNewRow : OpenClaim := { program := "ythodbhjnfeahhaa", sum := "7424d22537125584d6e6c4ef402f6ed84d46cc8f8ee519565bd241b2d173c236", func := "loop.example/fossick/laws.FnExactCacheNew", spec := "fnExactCacheNew", apart := false }
def FnExactCacheNewSaid : Prop := fnExactCacheNewRow.holds Try.pinned (OpenSpec.ofChange fnExactCacheNewSpec)

/-- ITS FALSE NEIGHBOUR: 'it returns false'. Refute it at one input. -/
def fnExactCacheNewWrong : ChangeSpec := { name := "fnExactCacheNew", fn := fun _ => fun
  | [d] => { results := [.lit (.bool false)], args := [d] }
  | _ => none }
def FnExactCacheNewWrongFalsely : Prop := fnExactCacheNewRow.holds Try.pinned (OpenSpec.ofChange fnExactCacheNewWrong)

/-- 'laws.FnCacheNew': WHATEVER THE INPUT: true; the input reads as it did. -/
def fnCacheNewSpec : ChangeSpec := { name := "fnCacheNew", fn := fun _ => fun
  | [d] => { results := [.lit (.bool true)], args := [d] }
  | _ => none }
def fnCacheNewRow : OpenClaim := { program := "ythodbhjnfeahhaa", sum := "7424d22537125584d6e6c4ef402f6ed84d46cc8f8ee519565bd241b2d173c236", func := "loop.example/fossick/laws.FnCacheNew", spec := "fnCacheNew", unfollowed := true, recurses := true, apart := false }
def FnCacheNewSaid : Prop := fnCacheNewRow.holds Try.pinned (OpenSpec.ofChange fnCacheNewSpec)

/-- ITS FALSE NEIGHBOUR: 'it returns false'. Refute it at one input. -/
def fnCacheNewWrong : ChangeSpec := { name := "fnCacheNew", fn := fun _ => fun
  | [d] => { results := [.lit (.bool false)], args := [d] }
  | _ => none }
def FnCacheNewWrongFalsely : Prop := fnCacheNewRow.holds Try.pinned (OpenSpec.ofChange fnCacheNewWrong)

/-- 'laws.FnExactCacheOk': WHATEVER THE INPUT: true; the input reads as it did. -/
def fnExactCacheOkSpec : ChangeSpec := { name := "fnExactCacheOk", fn := fun _ => fun
  | [d] => { results := [.lit (.bool true)], args := [d] }
  | _ => none }
def fnExactCacheOkRow : OpenClaim := { program := "ythodbhjnfeahhaa", sum := "7424d22537125584d6e6c4ef402f6ed84d46cc8f8ee519565bd241b2d173c236", func := "loop.example/fossick/laws.FnExactCacheOk", spec := "fnExactCacheOk", unfollowed := true, recurses := true, apart := false }
def FnExactCacheOkSaid : Prop := fnExactCacheOkRow.holds Try.pinned (OpenSpec.ofChange fnExactCacheOkSpec)

/-- ITS FALSE NEIGHBOUR: 'it returns false'. Refute it at one input. -/
def fnExactCacheOkWrong : ChangeSpec := { name := "fnExactCacheOk", fn := fun _ => fun
  | [d] => { results := [.lit (.bool false)], args := [d] }
  | _ => none }
def FnExactCacheOkWrongFalsely : Prop := fnExactCacheOkRow.holds Try.pinned (OpenSpec.ofChange fnExactCacheOkWrong)

/-- 'laws.FnCacheGet': WHATEVER THE INPUT: true; the input reads as it did. -/
def fnCacheGetSpec : ChangeSpec := { name := "fnCacheGet", fn := fun _ => fun
  | [d] => { results := [.lit (.bool true)], args := [d] }
  | _ => none }
def fnCacheGetRow : OpenClaim := { program := "ythodbhjnfeahhaa", sum := "7424d22537125584d6e6c4ef402f6ed84d46cc8f8ee519565bd241b2d173c236", func := "loop.example/fossick/laws.FnCacheGet", spec := "fnCacheGet", unfollowed := true, recurses := true, apart := false }
def FnCacheGetSaid : Prop := fnCacheGetRow.holds Try.pinned (OpenSpec.ofChange fnCacheGetSpec)

/-- ITS FALSE NEIGHBOUR: 'it returns false'. Refute it at one input. -/
def fnCacheGetWrong : ChangeSpec := { name := "fnCacheGet", fn := fun _ => fun
  | [d] => { results := [.lit (.bool false)], args := [d] }
  | _ => none }
def FnCacheGetWrongFalsely : Prop := fnCacheGetRow.holds Try.pinned (OpenSpec.ofChange fnCacheGetWrong)

/-- 'laws.FnExactCacheGet': WHATEVER THE INPUT: true; the input reads as it did. -/
def fnExactCacheGetSpec : ChangeSpec := { name := "fnExactCacheGet", fn := fun _ => fun
  | [d1, d2, d3] => { results := [.lit (.bool true)], args := [d1, d2, d3] }
  | _ => none }
def fnExactCacheGetRow : OpenClaim := { program := "ythodbhjnfeahhaa", sum := "7424d22537125584d6e6c4ef402f6ed84d46cc8f8ee519565bd241b2d173c236", func := "loop.example/fossick/laws.FnExactCacheGet", spec := "fnExactCacheGet", unfollowed := true, recurses := true, apart := false }
def FnExactCacheGetSaid : Prop := fnExactCacheGetRow.holds Try.pinned (OpenSpec.ofChange fnExactCacheGetSpec)

/-- ITS FALSE NEIGHBOUR: 'it returns false'. Refute it at one input. -/
def fnExactCacheGetWrong : ChangeSpec := { name := "fnExactCacheGet", fn := fun _ => fun
  | [d1, d2, d3] => { results := [.lit (.bool false)], args := [d1, d2, d3] }
  | _ => none }
def FnExactCacheGetWrongFalsely : Prop := fnExactCacheGetRow.holds Try.pinned (OpenSpec.ofChange fnExactCacheGetWrong)

/-- 'laws.FnCachePut': WHATEVER THE INPUT: true; the input reads as it did. -/
def fnCachePutSpec : ChangeSpec := { name := "fnCachePut", fn := fun _ => fun
  | [d] => { results := [.lit (.bool true)], args := [d] }
  | _ => none }
def fnCachePutRow : OpenClaim := { program := "ythodbhjnfeahhaa", sum := "7424d22537125584d6e6c4ef402f6ed84d46cc8f8ee519565bd241b2d173c236", func := "loop.example/fossick/laws.FnCachePut", spec := "fnCachePut", unfollowed := true, recurses := true, apart := false }
def FnCachePutSaid : Prop := fnCachePutRow.holds Try.pinned (OpenSpec.ofChange fnCachePutSpec)

/-- ITS FALSE NEIGHBOUR: 'it returns false'. Refute it at one input. -/
def fnCachePutWrong : ChangeSpec := { name := "fnCachePut", fn := fun _ => fun
  | [d] => { results := [.lit (.bool false)], args := [d] }
  | _ => none }
def FnCachePutWrongFalsely : Prop := fnCachePutRow.holds Try.pinned (OpenSpec.ofChange fnCachePutWrong)

/-- 'laws.FnExactCachePut': WHATEVER THE INPUT: true; the input reads as it did. -/
def fnExactCachePutSpec : ChangeSpec := { name := "fnExactCachePut", fn := fun _ => fun
  | [d1, d2, d3, d4] => { results := [.lit (.bool true)], args := [d1, d2, d3, d4] }
  | _ => none }
def fnExactCachePutRow : OpenClaim := { program := "ythodbhjnfeahhaa", sum := "7424d22537125584d6e6c4ef402f6ed84d46cc8f8ee519565bd241b2d173c236", func := "loop.example/fossick/laws.FnExactCachePut", spec := "fnExactCachePut", unfollowed := true, recurses := true, apart := false }
def FnExactCachePutSaid : Prop := fnExactCachePutRow.holds Try.pinned (OpenSpec.ofChange fnExactCachePutSpec)

/-- ITS FALSE NEIGHBOUR: 'it returns false'. Refute it at one input. -/
def fnExactCachePutWrong : ChangeSpec := { name := "fnExactCachePut", fn := fun _ => fun
  | [d1, d2, d3, d4] => { results := [.lit (.bool false)], args := [d1, d2, d3, d4] }
  | _ => none }
def FnExactCachePutWrongFalsely : Prop := fnExactCachePutRow.holds Try.pinned (OpenSpec.ofChange fnExactCachePutWrong)

/- THE SECOND FORM. 'bulk': how many values and letters a reading holds, each counted each time it is reached (what is shared counts as often as it is met; a slice's spare places count too). A statement '..UptoSaid' is the law's where the arguments, and the package variables that the reading takes, are together of bulk at most 1048576: NARROWER than '..Said'. Prove '..Said' where nothing that the law and all that it calls make is longer than what came in: it says more and counts as full. Else prove '..UptoSaid'. A law counts once. -/
mutual
def uptoBulk {H : Type} : DataW H → Nat
  | .lit (.string bytes) => bytes.length + 1
  | .lit _ => 1
  | .nil => 1
  | .ptr d => uptoBulk d + 1
  | .slice elems spare => uptoBulkAll elems + uptoBulkAll spare + 1
  | .agg parts => uptoBulkAll parts + 1
  | .iface _ d => uptoBulk d + 1
  | .map entries => uptoBulkEntries entries + 1
  | .held _ => 1
def uptoBulkAll {H : Type} : List (DataW H) → Nat
  | [] => 0
  | d :: r => uptoBulk d + uptoBulkAll r
def uptoBulkEntries {H : Type} : List (Lit × DataW H) → Nat
  | [] => 0
  | x :: r => uptoBulkEntry x + uptoBulkEntries r
def uptoBulkEntry {H : Type} : Lit × DataW H → Nat
  | (.string bytes, d) => bytes.length + uptoBulk d + 1
  | (_, d) => uptoBulk d + 1
 end
def uptoSmall : (H : Type) → List (DataW H) → Bool := fun _ ds => decide (uptoBulkAll ds ≤ 1048576)
def OpenSpec.upto (s : _root_.Go.ChangeSpec) : _root_.Go.OpenSpec := { _root_.Go.OpenSpec.ofChange s with cond := some uptoSmall }

/-- 'laws.FnExactCacheNew', WHERE WHAT IT READS IS OF BULK AT MOST 1048576: true; the input reads as it did. -/
def fnExactCacheNewUptoRow : OpenClaim := { program := "ythodbhjnfeahhaa", sum := "7424d22537125584d6e6c4ef402f6ed84d46cc8f8ee519565bd241b2d173c236", func := "loop.example/fossick/laws.FnExactCacheNew", spec := "fnExactCacheNew", apart := false, narrowed := true }
def FnExactCacheNewUptoSaid : Prop := fnExactCacheNewUptoRow.holds Try.pinned (OpenSpec.upto fnExactCacheNewSpec)

/-- 'laws.FnCacheNew', WHERE WHAT IT READS IS OF BULK AT MOST 1048576: true; the input reads as it did. -/
def fnCacheNewUptoRow : OpenClaim := { program := "ythodbhjnfeahhaa", sum := "7424d22537125584d6e6c4ef402f6ed84d46cc8f8ee519565bd241b2d173c236", func := "loop.example/fossick/laws.FnCacheNew", spec := "fnCacheNew", unfollowed := true, recurses := true, apart := false, narrowed := true }
def FnCacheNewUptoSaid : Prop := fnCacheNewUptoRow.holds Try.pinned (OpenSpec.upto fnCacheNewSpec)

/-- 'laws.FnExactCacheOk', WHERE WHAT IT READS IS OF BULK AT MOST 1048576: true; the input reads as it did. -/
def fnExactCacheOkUptoRow : OpenClaim := { program := "ythodbhjnfeahhaa", sum := "7424d22537125584d6e6c4ef402f6ed84d46cc8f8ee519565bd241b2d173c236", func := "loop.example/fossick/laws.FnExactCacheOk", spec := "fnExactCacheOk", unfollowed := true, recurses := true, apart := false, narrowed := true }
def FnExactCacheOkUptoSaid : Prop := fnExactCacheOkUptoRow.holds Try.pinned (OpenSpec.upto fnExactCacheOkSpec)

/-- 'laws.FnCacheGet', WHERE WHAT IT READS IS OF BULK AT MOST 1048576: true; the input reads as it did. -/
def fnCacheGetUptoRow : OpenClaim := { program := "ythodbhjnfeahhaa", sum := "7424d22537125584d6e6c4ef402f6ed84d46cc8f8ee519565bd241b2d173c236", func := "loop.example/fossick/laws.FnCacheGet", spec := "fnCacheGet", unfollowed := true, recurses := true, apart := false, narrowed := true }
def FnCacheGetUptoSaid : Prop := fnCacheGetUptoRow.holds Try.pinned (OpenSpec.upto fnCacheGetSpec)

/-- 'laws.FnExactCacheGet', WHERE WHAT IT READS IS OF BULK AT MOST 1048576: true; the input reads as it did. -/
def fnExactCacheGetUptoRow : OpenClaim := { program := "ythodbhjnfeahhaa", sum := "7424d22537125584d6e6c4ef402f6ed84d46cc8f8ee519565bd241b2d173c236", func := "loop.example/fossick/laws.FnExactCacheGet", spec := "fnExactCacheGet", unfollowed := true, recurses := true, apart := false, narrowed := true }
def FnExactCacheGetUptoSaid : Prop := fnExactCacheGetUptoRow.holds Try.pinned (OpenSpec.upto fnExactCacheGetSpec)

/-- 'laws.FnCachePut', WHERE WHAT IT READS IS OF BULK AT MOST 1048576: true; the input reads as it did. -/
def fnCachePutUptoRow : OpenClaim := { program := "ythodbhjnfeahhaa", sum := "7424d22537125584d6e6c4ef402f6ed84d46cc8f8ee519565bd241b2d173c236", func := "loop.example/fossick/laws.FnCachePut", spec := "fnCachePut", unfollowed := true, recurses := true, apart := false, narrowed := true }
def FnCachePutUptoSaid : Prop := fnCachePutUptoRow.holds Try.pinned (OpenSpec.upto fnCachePutSpec)

/-- 'laws.FnExactCachePut', WHERE WHAT IT READS IS OF BULK AT MOST 1048576: true; the input reads as it did. -/
def fnExactCachePutUptoRow : OpenClaim := { program := "ythodbhjnfeahhaa", sum := "7424d22537125584d6e6c4ef402f6ed84d46cc8f8ee519565bd241b2d173c236", func := "loop.example/fossick/laws.FnExactCachePut", spec := "fnExactCachePut", unfollowed := true, recurses := true, apart := false, narrowed := true }
def FnExactCachePutUptoSaid : Prop := fnExactCachePutUptoRow.holds Try.pinned (OpenSpec.upto fnExactCachePutSpec)

end Rows
end Go.Proofs.Ythodbhjnfeahhaa
