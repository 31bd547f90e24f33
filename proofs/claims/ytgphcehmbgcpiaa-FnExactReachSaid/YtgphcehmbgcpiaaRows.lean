/-
  No cell of these rows narrows 'for every input' (looked for: loops, veiled, ifaces, maps, wideKeys, modest, calm, conditions, laid).
  DERIVED. THE GIVEN ROWS OF THIS SEAT. 8 by the template 'for every input the law returns true; each argument reads behind the call as it read before'; 0 by the template 'total and deterministic' (their statements: YtgphcehmbgcpiaaTotals.lean).
  GIVEN WITH THE SEED: the statements are not yours to turn. If you find one false, say at which input.
  Laid BY PROGRAM, IN A SANDBOX (cutbox-rows.mjs): the forced cells as the released guide's own fill.sh prints them over the translation d0e585116d8ed61b… (all of the seat's roots in one cut). By AI agents, Wed Nov 11 2026. No macro, syntax, notation, axiom, sorry.
-/
import Derived.Test.YtgphcehmbgcpiaaChecked
import GoSem.Claim
import GoSem.ClaimJoined
import GoSem.ClaimMapViews
import Derived.JoinedTies
import Derived.KernelRfl
namespace Go.Proofs.Ytgphcehmbgcpiaa
/- THE CELL 'sum', in the pinned program and in every row, IS THE sha256 OF THE DUMP (.gsa) THAT YtgphcehmbgcpiaaProg.lean LOADS. Nothing in Lean hashes anything: it is a label: what it is worth is what the hold of that sum in a sandbox is worth. -/
noncomputable def Try.pinned : Pinned := { name := "ytgphcehmbgcpiaa", sum := "d0e585116d8ed61b59e9f817845b378168897836c6187778fa1486fbbef87ea0", checked := Try.checked }
namespace Rows
def none {H : Type} : Left H := { results := [], args := [] }

/-- 'laws.FnExactSame': WHATEVER THE INPUT: true; the input reads as it did. -/
def fnExactSameSpec : ChangeSpec := { name := "fnExactSame", fn := fun _ => fun
  | [d1, d2] => { results := [.lit (.bool true)], args := [d1, d2] }
  | _ => none }
def fnExactSameRow : OpenClaim := { program := "ytgphcehmbgcpiaa", sum := "d0e585116d8ed61b59e9f817845b378168897836c6187778fa1486fbbef87ea0", func := "loop.example/g00470/laws.FnExactSame", spec := "fnExactSame", unfollowed := true, recurses := true, apart := false }
def FnExactSameSaid : Prop := fnExactSameRow.holds Try.pinned (OpenSpec.ofChange fnExactSameSpec)

/-- ITS FALSE NEIGHBOUR: 'it returns false'. Refute it at one input. -/
def fnExactSameWrong : ChangeSpec := { name := "fnExactSame", fn := fun _ => fun
  | [d1, d2] => { results := [.lit (.bool false)], args := [d1, d2] }
  | _ => none }
def FnExactSameWrongFalsely : Prop := fnExactSameRow.holds Try.pinned (OpenSpec.ofChange fnExactSameWrong)

/-- 'laws.FnExactNetOk': WHATEVER THE INPUT: true; the input reads as it did. -/
def fnExactNetOkSpec : ChangeSpec := { name := "fnExactNetOk", fn := fun _ => fun
  | [d] => { results := [.lit (.bool true)], args := [d] }
  | _ => none }
def fnExactNetOkRow : OpenClaim := { program := "ytgphcehmbgcpiaa", sum := "d0e585116d8ed61b59e9f817845b378168897836c6187778fa1486fbbef87ea0", func := "loop.example/g00470/laws.FnExactNetOk", spec := "fnExactNetOk", apart := false }
def FnExactNetOkSaid : Prop := fnExactNetOkRow.holds Try.pinned (OpenSpec.ofChange fnExactNetOkSpec)

/-- ITS FALSE NEIGHBOUR: 'it returns false'. Refute it at one input. -/
def fnExactNetOkWrong : ChangeSpec := { name := "fnExactNetOk", fn := fun _ => fun
  | [d] => { results := [.lit (.bool false)], args := [d] }
  | _ => none }
def FnExactNetOkWrongFalsely : Prop := fnExactNetOkRow.holds Try.pinned (OpenSpec.ofChange fnExactNetOkWrong)

/-- 'laws.FnExactPasses': WHATEVER THE INPUT: true; the input reads as it did. -/
def fnExactPassesSpec : ChangeSpec := { name := "fnExactPasses", fn := fun _ => fun
  | [d1, d2] => { results := [.lit (.bool true)], args := [d1, d2] }
  | _ => none }
def fnExactPassesRow : OpenClaim := { program := "ytgphcehmbgcpiaa", sum := "d0e585116d8ed61b59e9f817845b378168897836c6187778fa1486fbbef87ea0", func := "loop.example/g00470/laws.FnExactPasses", spec := "fnExactPasses", apart := false }
def FnExactPassesSaid : Prop := fnExactPassesRow.holds Try.pinned (OpenSpec.ofChange fnExactPassesSpec)

/-- ITS FALSE NEIGHBOUR: 'it returns false'. Refute it at one input. -/
def fnExactPassesWrong : ChangeSpec := { name := "fnExactPasses", fn := fun _ => fun
  | [d1, d2] => { results := [.lit (.bool false)], args := [d1, d2] }
  | _ => none }
def FnExactPassesWrongFalsely : Prop := fnExactPassesRow.holds Try.pinned (OpenSpec.ofChange fnExactPassesWrong)

/-- 'laws.FnExactSpans': WHATEVER THE INPUT: true; the input reads as it did. -/
def fnExactSpansSpec : ChangeSpec := { name := "fnExactSpans", fn := fun _ => fun
  | [d] => { results := [.lit (.bool true)], args := [d] }
  | _ => none }
def fnExactSpansRow : OpenClaim := { program := "ytgphcehmbgcpiaa", sum := "d0e585116d8ed61b59e9f817845b378168897836c6187778fa1486fbbef87ea0", func := "loop.example/g00470/laws.FnExactSpans", spec := "fnExactSpans", unfollowed := true, recurses := true, apart := false }
def FnExactSpansSaid : Prop := fnExactSpansRow.holds Try.pinned (OpenSpec.ofChange fnExactSpansSpec)

/-- ITS FALSE NEIGHBOUR: 'it returns false'. Refute it at one input. -/
def fnExactSpansWrong : ChangeSpec := { name := "fnExactSpans", fn := fun _ => fun
  | [d] => { results := [.lit (.bool false)], args := [d] }
  | _ => none }
def FnExactSpansWrongFalsely : Prop := fnExactSpansRow.holds Try.pinned (OpenSpec.ofChange fnExactSpansWrong)

/-- 'laws.FnExactRingless': WHATEVER THE INPUT: true; the input reads as it did. -/
def fnExactRinglessSpec : ChangeSpec := { name := "fnExactRingless", fn := fun _ => fun
  | [d] => { results := [.lit (.bool true)], args := [d] }
  | _ => none }
def fnExactRinglessRow : OpenClaim := { program := "ytgphcehmbgcpiaa", sum := "d0e585116d8ed61b59e9f817845b378168897836c6187778fa1486fbbef87ea0", func := "loop.example/g00470/laws.FnExactRingless", spec := "fnExactRingless", unfollowed := true, recurses := true, apart := false }
def FnExactRinglessSaid : Prop := fnExactRinglessRow.holds Try.pinned (OpenSpec.ofChange fnExactRinglessSpec)

/-- ITS FALSE NEIGHBOUR: 'it returns false'. Refute it at one input. -/
def fnExactRinglessWrong : ChangeSpec := { name := "fnExactRingless", fn := fun _ => fun
  | [d] => { results := [.lit (.bool false)], args := [d] }
  | _ => none }
def FnExactRinglessWrongFalsely : Prop := fnExactRinglessRow.holds Try.pinned (OpenSpec.ofChange fnExactRinglessWrong)

/-- 'laws.FnExactRoots': WHATEVER THE INPUT: true; the input reads as it did. -/
def fnExactRootsSpec : ChangeSpec := { name := "fnExactRoots", fn := fun _ => fun
  | [d] => { results := [.lit (.bool true)], args := [d] }
  | _ => none }
def fnExactRootsRow : OpenClaim := { program := "ytgphcehmbgcpiaa", sum := "d0e585116d8ed61b59e9f817845b378168897836c6187778fa1486fbbef87ea0", func := "loop.example/g00470/laws.FnExactRoots", spec := "fnExactRoots", apart := false }
def FnExactRootsSaid : Prop := fnExactRootsRow.holds Try.pinned (OpenSpec.ofChange fnExactRootsSpec)

/-- ITS FALSE NEIGHBOUR: 'it returns false'. Refute it at one input. -/
def fnExactRootsWrong : ChangeSpec := { name := "fnExactRoots", fn := fun _ => fun
  | [d] => { results := [.lit (.bool false)], args := [d] }
  | _ => none }
def FnExactRootsWrongFalsely : Prop := fnExactRootsRow.holds Try.pinned (OpenSpec.ofChange fnExactRootsWrong)

/-- 'laws.FnExactReach': WHATEVER THE INPUT: true; the input reads as it did. -/
def fnExactReachSpec : ChangeSpec := { name := "fnExactReach", fn := fun _ => fun
  | [d1, d2, d3] => { results := [.lit (.bool true)], args := [d1, d2, d3] }
  | _ => none }
def fnExactReachRow : OpenClaim := { program := "ytgphcehmbgcpiaa", sum := "d0e585116d8ed61b59e9f817845b378168897836c6187778fa1486fbbef87ea0", func := "loop.example/g00470/laws.FnExactReach", spec := "fnExactReach", unfollowed := true, recurses := true, apart := false }
def FnExactReachSaid : Prop := fnExactReachRow.holds Try.pinned (OpenSpec.ofChange fnExactReachSpec)

/-- ITS FALSE NEIGHBOUR: 'it returns false'. Refute it at one input. -/
def fnExactReachWrong : ChangeSpec := { name := "fnExactReach", fn := fun _ => fun
  | [d1, d2, d3] => { results := [.lit (.bool false)], args := [d1, d2, d3] }
  | _ => none }
def FnExactReachWrongFalsely : Prop := fnExactReachRow.holds Try.pinned (OpenSpec.ofChange fnExactReachWrong)

/-- 'laws.FnExactIsTree': WHATEVER THE INPUT: true; the input reads as it did. -/
def fnExactIsTreeSpec : ChangeSpec := { name := "fnExactIsTree", fn := fun _ => fun
  | [d] => { results := [.lit (.bool true)], args := [d] }
  | _ => none }
def fnExactIsTreeRow : OpenClaim := { program := "ytgphcehmbgcpiaa", sum := "d0e585116d8ed61b59e9f817845b378168897836c6187778fa1486fbbef87ea0", func := "loop.example/g00470/laws.FnExactIsTree", spec := "fnExactIsTree", unfollowed := true, recurses := true, apart := false }
def FnExactIsTreeSaid : Prop := fnExactIsTreeRow.holds Try.pinned (OpenSpec.ofChange fnExactIsTreeSpec)

/-- ITS FALSE NEIGHBOUR: 'it returns false'. Refute it at one input. -/
def fnExactIsTreeWrong : ChangeSpec := { name := "fnExactIsTree", fn := fun _ => fun
  | [d] => { results := [.lit (.bool false)], args := [d] }
  | _ => none }
def FnExactIsTreeWrongFalsely : Prop := fnExactIsTreeRow.holds Try.pinned (OpenSpec.ofChange fnExactIsTreeWrong)

/- THE SECOND FORM. 'bulk': how many values and letters a reading holds, each counted each time it is reached (what is shared counts as often as it is met; a slice's spare places count too). A statement '..UptoSaid' is the law's where the arguments, and the package variables that the reading takes, are together of bulk at most 1048576: NARROWER than '..Said'. Prove '..Said' where nothing that the law and all that it calls make is longer than what came in: it says more and counts as full. Else prove '..UptoSaid'. A law counts once. -/
mutual
def uptoBulk {H : Type} : DataW H → Nat
  | .lit (.string bytes) => bytes.length + 1
  | .lit _ => 1
  | .nil => 1
  | .ptr d => uptoBulk d + 1
  | .slice elems spare => uptoBulkAll elems + uptoBulkAll spare + 1
  | .agg parts => uptoBulkAll parts + 1
  | .iface _ d => uptoBulk d + 1
  | .map entries => uptoBulkEntries entries + 1
  | .held _ => 1
def uptoBulkAll {H : Type} : List (DataW H) → Nat
  | [] => 0
  | d :: r => uptoBulk d + uptoBulkAll r
def uptoBulkEntries {H : Type} : List (Lit × DataW H) → Nat
  | [] => 0
  | x :: r => uptoBulkEntry x + uptoBulkEntries r
def uptoBulkEntry {H : Type} : Lit × DataW H → Nat
  | (.string bytes, d) => bytes.length + uptoBulk d + 1
  | (_, d) => uptoBulk d + 1
 end
def uptoSmall : (H : Type) → List (DataW H) → Bool := fun _ ds => decide (uptoBulkAll ds ≤ 1048576)
def OpenSpec.upto (s : _root_.Go.ChangeSpec) : _root_.Go.OpenSpec := { _root_.Go.OpenSpec.ofChange s with cond := some uptoSmall }

/-- 'laws.FnExactSame', WHERE WHAT IT READS IS OF BULK AT MOST 1048576: true; the input reads as it did. -/
def fnExactSameUptoRow : OpenClaim := { program := "ytgphcehmbgcpiaa", sum := "d0e585116d8ed61b59e9f817845b378168897836c6187778fa1486fbbef87ea0", func := "loop.example/g00470/laws.FnExactSame", spec := "fnExactSame", unfollowed := true, recurses := true, apart := false, narrowed := true }
def FnExactSameUptoSaid : Prop := fnExactSameUptoRow.holds Try.pinned (OpenSpec.upto fnExactSameSpec)

/-- 'laws.FnExactNetOk', WHERE WHAT IT READS IS OF BULK AT MOST 1048576: true; the input reads as it did. -/
def fnExactNetOkUptoRow : OpenClaim := { program := "ytgphcehmbgcpiaa", sum := "d0e585116d8ed61b59e9f817845b378168897836c6187778fa1486fbbef87ea0", func := "loop.example/g00470/laws.FnExactNetOk", spec := "fnExactNetOk", apart := false, narrowed := true }
def FnExactNetOkUptoSaid : Prop := fnExactNetOkUptoRow.holds Try.pinned (OpenSpec.upto fnExactNetOkSpec)

/-- 'laws.FnExactPasses', WHERE WHAT IT READS IS OF BULK AT MOST 1048576: true; the input reads as it did. -/
def fnExactPassesUptoRow : OpenClaim := { program := "ytgphcehmbgcpiaa", sum := "d0e585116d8ed61b59e9f817845b378168897836c6187778fa1486fbbef87ea0", func := "loop.example/g00470/laws.FnExactPasses", spec := "fnExactPasses", apart := false, narrowed := true }
def FnExactPassesUptoSaid : Prop := fnExactPassesUptoRow.holds Try.pinned (OpenSpec.upto fnExactPassesSpec)

/-- 'laws.FnExactSpans', WHERE WHAT IT READS IS OF BULK AT MOST 1048576: true; the input reads as it did. -/
def fnExactSpansUptoRow : OpenClaim := { program := "ytgphcehmbgcpiaa", sum := "d0e585116d8ed61b59e9f817845b378168897836c6187778fa1486fbbef87ea0", func := "loop.example/g00470/laws.FnExactSpans", spec := "fnExactSpans", unfollowed := true, recurses := true, apart := false, narrowed := true }
def FnExactSpansUptoSaid : Prop := fnExactSpansUptoRow.holds Try.pinned (OpenSpec.upto fnExactSpansSpec)

/-- 'laws.FnExactRingless', WHERE WHAT IT READS IS OF BULK AT MOST 1048576: true; the input reads as it did. -/
def fnExactRinglessUptoRow : OpenClaim := { program := "ytgphcehmbgcpiaa", sum := "d0e585116d8ed61b59e9f817845b378168897836c6187778fa1486fbbef87ea0", func := "loop.example/g00470/laws.FnExactRingless", spec := "fnExactRingless", unfollowed := true, recurses := true, apart := false, narrowed := true }
def FnExactRinglessUptoSaid : Prop := fnExactRinglessUptoRow.holds Try.pinned (OpenSpec.upto fnExactRinglessSpec)

/-- 'laws.FnExactRoots', WHERE WHAT IT READS IS OF BULK AT MOST 1048576: true; the input reads as it did. -/
def fnExactRootsUptoRow : OpenClaim := { program := "ytgphcehmbgcpiaa", sum := "d0e585116d8ed61b59e9f817845b378168897836c6187778fa1486fbbef87ea0", func := "loop.example/g00470/laws.FnExactRoots", spec := "fnExactRoots", apart := false, narrowed := true }
def FnExactRootsUptoSaid : Prop := fnExactRootsUptoRow.holds Try.pinned (OpenSpec.upto fnExactRootsSpec)

/-- 'laws.FnExactReach', WHERE WHAT IT READS IS OF BULK AT MOST 1048576: true; the input reads as it did. -/
def fnExactReachUptoRow : OpenClaim := { program := "ytgphcehmbgcpiaa", sum := "d0e585116d8ed61b59e9f817845b378168897836c6187778fa1486fbbef87ea0", func := "loop.example/g00470/laws.FnExactReach", spec := "fnExactReach", unfollowed := true, recurses := true, apart := false, narrowed := true }
def FnExactReachUptoSaid : Prop := fnExactReachUptoRow.holds Try.pinned (OpenSpec.upto fnExactReachSpec)

/-- 'laws.FnExactIsTree', WHERE WHAT IT READS IS OF BULK AT MOST 1048576: true; the input reads as it did. -/
def fnExactIsTreeUptoRow : OpenClaim := { program := "ytgphcehmbgcpiaa", sum := "d0e585116d8ed61b59e9f817845b378168897836c6187778fa1486fbbef87ea0", func := "loop.example/g00470/laws.FnExactIsTree", spec := "fnExactIsTree", unfollowed := true, recurses := true, apart := false, narrowed := true }
def FnExactIsTreeUptoSaid : Prop := fnExactIsTreeUptoRow.holds Try.pinned (OpenSpec.upto fnExactIsTreeSpec)

end Rows
end Go.Proofs.Ytgphcehmbgcpiaa
