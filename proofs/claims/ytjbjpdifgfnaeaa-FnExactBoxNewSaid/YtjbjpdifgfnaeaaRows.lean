/-
  No cell of these rows narrows 'for every input' (looked for: loops, veiled, ifaces, maps, wideKeys, modest, calm, conditions, laid).
  DERIVED. THE GIVEN ROWS OF THIS SEAT. 8 by the template 'for every input the law returns true; each argument reads behind the call as it read before'; 0 by the template 'total and deterministic' (their statements: YtjbjpdifgfnaeaaTotals.lean).
  GIVEN WITH THE SEED: the statements are not yours to turn. If you find one false, say at which input.
  Laid BY PROGRAM, IN A SANDBOX (cutbox-rows.mjs): the forced cells as the released guide's own fill.sh prints them over the translation 11755e4d50f83cf5… (all of the seat's roots in one cut). By AI agents, Wed Nov 11 2026. No macro, syntax, notation, axiom, sorry.
-/
import Derived.Test.YtjbjpdifgfnaeaaChecked
import GoSem.Claim
import GoSem.ClaimJoined
import GoSem.ClaimMapViews
import Derived.JoinedTies
import Derived.KernelRfl
namespace Go.Proofs.Ytjbjpdifgfnaeaa
/- THE CELL 'sum', in the pinned program and in every row, IS THE sha256 OF THE DUMP (.gsa) THAT YtjbjpdifgfnaeaaProg.lean LOADS. Nothing in Lean hashes anything: it is a label: what it is worth is what the hold of that sum in a sandbox is worth. -/
noncomputable def Try.pinned : Pinned := { name := "ytjbjpdifgfnaeaa", sum := "11755e4d50f83cf5b220209cc01c3223fa730f638eeb183036ffc4cf86c2c5c1", checked := Try.checked }
namespace Rows
def none {H : Type} : Left H := { results := [], args := [] }

/-- 'laws.FnExactSpans': WHATEVER THE INPUT: true; the input reads as it did. -/
def fnExactSpansSpec : ChangeSpec := { name := "fnExactSpans", fn := fun _ => fun
  | [d] => { results := [.lit (.bool true)], args := [d] }
  | _ => none }
def fnExactSpansRow : OpenClaim := { program := "ytjbjpdifgfnaeaa", sum := "11755e4d50f83cf5b220209cc01c3223fa730f638eeb183036ffc4cf86c2c5c1", func := "loop.example/g00470/laws.FnExactSpans", spec := "fnExactSpans", unfollowed := true, recurses := true, apart := false }
def FnExactSpansSaid : Prop := fnExactSpansRow.holds Try.pinned (OpenSpec.ofChange fnExactSpansSpec)

/-- ITS FALSE NEIGHBOUR: 'it returns false'. Refute it at one input. -/
def fnExactSpansWrong : ChangeSpec := { name := "fnExactSpans", fn := fun _ => fun
  | [d] => { results := [.lit (.bool false)], args := [d] }
  | _ => none }
def FnExactSpansWrongFalsely : Prop := fnExactSpansRow.holds Try.pinned (OpenSpec.ofChange fnExactSpansWrong)

/-- 'laws.FnExactRingless': WHATEVER THE INPUT: true; the input reads as it did. -/
def fnExactRinglessSpec : ChangeSpec := { name := "fnExactRingless", fn := fun _ => fun
  | [d] => { results := [.lit (.bool true)], args := [d] }
  | _ => none }
def fnExactRinglessRow : OpenClaim := { program := "ytjbjpdifgfnaeaa", sum := "11755e4d50f83cf5b220209cc01c3223fa730f638eeb183036ffc4cf86c2c5c1", func := "loop.example/g00470/laws.FnExactRingless", spec := "fnExactRingless", unfollowed := true, recurses := true, apart := false }
def FnExactRinglessSaid : Prop := fnExactRinglessRow.holds Try.pinned (OpenSpec.ofChange fnExactRinglessSpec)

/-- ITS FALSE NEIGHBOUR: 'it returns false'. Refute it at one input. -/
def fnExactRinglessWrong : ChangeSpec := { name := "fnExactRingless", fn := fun _ => fun
  | [d] => { results := [.lit (.bool false)], args := [d] }
  | _ => none }
def FnExactRinglessWrongFalsely : Prop := fnExactRinglessRow.holds Try.pinned (OpenSpec.ofChange fnExactRinglessWrong)

/-- 'laws.FnExactIsTree': WHATEVER THE INPUT: true; the input reads as it did. -/
def fnExactIsTreeSpec : ChangeSpec := { name := "fnExactIsTree", fn := fun _ => fun
  | [d] => { results := [.lit (.bool true)], args := [d] }
  | _ => none }
def fnExactIsTreeRow : OpenClaim := { program := "ytjbjpdifgfnaeaa", sum := "11755e4d50f83cf5b220209cc01c3223fa730f638eeb183036ffc4cf86c2c5c1", func := "loop.example/g00470/laws.FnExactIsTree", spec := "fnExactIsTree", unfollowed := true, recurses := true, apart := false }
def FnExactIsTreeSaid : Prop := fnExactIsTreeRow.holds Try.pinned (OpenSpec.ofChange fnExactIsTreeSpec)

/-- ITS FALSE NEIGHBOUR: 'it returns false'. Refute it at one input. -/
def fnExactIsTreeWrong : ChangeSpec := { name := "fnExactIsTree", fn := fun _ => fun
  | [d] => { results := [.lit (.bool false)], args := [d] }
  | _ => none }
def FnExactIsTreeWrongFalsely : Prop := fnExactIsTreeRow.holds Try.pinned (OpenSpec.ofChange fnExactIsTreeWrong)

/-- 'laws.FnExactBoxNew': WHATEVER THE INPUT: true; the input reads as it did. -/
def fnExactBoxNewSpec : ChangeSpec := { name := "fnExactBoxNew", fn := fun _ => fun
  | [d1, d2] => { results := [.lit (.bool true)], args := [d1, d2] }
  | _ => none }
def fnExactBoxNewRow : OpenClaim := { program := "ytjbjpdifgfnaeaa", sum := "11755e4d50f83cf5b220209cc01c3223fa730f638eeb183036ffc4cf86c2c5c1", func := "loop.example/g00470/laws.FnExactBoxNew", spec := "fnExactBoxNew", apart := false }
def FnExactBoxNewSaid : Prop := fnExactBoxNewRow.holds Try.pinned (OpenSpec.ofChange fnExactBoxNewSpec)

/-- ITS FALSE NEIGHBOUR: 'it returns false'. Refute it at one input. -/
def fnExactBoxNewWrong : ChangeSpec := { name := "fnExactBoxNew", fn := fun _ => fun
  | [d1, d2] => { results := [.lit (.bool false)], args := [d1, d2] }
  | _ => none }
def FnExactBoxNewWrongFalsely : Prop := fnExactBoxNewRow.holds Try.pinned (OpenSpec.ofChange fnExactBoxNewWrong)

/-- 'laws.FnExactAccept': WHATEVER THE INPUT: true; the input reads as it did. -/
def fnExactAcceptSpec : ChangeSpec := { name := "fnExactAccept", fn := fun _ => fun
  | [d1, d2, d3] => { results := [.lit (.bool true)], args := [d1, d2, d3] }
  | _ => none }
def fnExactAcceptRow : OpenClaim := { program := "ytjbjpdifgfnaeaa", sum := "11755e4d50f83cf5b220209cc01c3223fa730f638eeb183036ffc4cf86c2c5c1", func := "loop.example/g00470/laws.FnExactAccept", spec := "fnExactAccept", apart := false }
def FnExactAcceptSaid : Prop := fnExactAcceptRow.holds Try.pinned (OpenSpec.ofChange fnExactAcceptSpec)

/-- ITS FALSE NEIGHBOUR: 'it returns false'. Refute it at one input. -/
def fnExactAcceptWrong : ChangeSpec := { name := "fnExactAccept", fn := fun _ => fun
  | [d1, d2, d3] => { results := [.lit (.bool false)], args := [d1, d2, d3] }
  | _ => none }
def FnExactAcceptWrongFalsely : Prop := fnExactAcceptRow.holds Try.pinned (OpenSpec.ofChange fnExactAcceptWrong)

/-- 'laws.FnExactJudgeLogs': WHATEVER THE INPUT: true; the input reads as it did. -/
def fnExactJudgeLogsSpec : ChangeSpec := { name := "fnExactJudgeLogs", fn := fun _ => fun
  | [d] => { results := [.lit (.bool true)], args := [d] }
  | _ => none }
def fnExactJudgeLogsRow : OpenClaim := { program := "ytjbjpdifgfnaeaa", sum := "11755e4d50f83cf5b220209cc01c3223fa730f638eeb183036ffc4cf86c2c5c1", func := "loop.example/g00470/laws.FnExactJudgeLogs", spec := "fnExactJudgeLogs", apart := false }
def FnExactJudgeLogsSaid : Prop := fnExactJudgeLogsRow.holds Try.pinned (OpenSpec.ofChange fnExactJudgeLogsSpec)

/-- ITS FALSE NEIGHBOUR: 'it returns false'. Refute it at one input. -/
def fnExactJudgeLogsWrong : ChangeSpec := { name := "fnExactJudgeLogs", fn := fun _ => fun
  | [d] => { results := [.lit (.bool false)], args := [d] }
  | _ => none }
def FnExactJudgeLogsWrongFalsely : Prop := fnExactJudgeLogsRow.holds Try.pinned (OpenSpec.ofChange fnExactJudgeLogsWrong)

/-- 'laws.FnExactSaying': WHATEVER THE INPUT: true; the input reads as it did. -/
def fnExactSayingSpec : ChangeSpec := { name := "fnExactSaying", fn := fun _ => fun
  | [d1, d2, d3, d4] => { results := [.lit (.bool true)], args := [d1, d2, d3, d4] }
  | _ => none }
def fnExactSayingRow : OpenClaim := { program := "ytjbjpdifgfnaeaa", sum := "11755e4d50f83cf5b220209cc01c3223fa730f638eeb183036ffc4cf86c2c5c1", func := "loop.example/g00470/laws.FnExactSaying", spec := "fnExactSaying", apart := false }
def FnExactSayingSaid : Prop := fnExactSayingRow.holds Try.pinned (OpenSpec.ofChange fnExactSayingSpec)

/-- ITS FALSE NEIGHBOUR: 'it returns false'. Refute it at one input. -/
def fnExactSayingWrong : ChangeSpec := { name := "fnExactSaying", fn := fun _ => fun
  | [d1, d2, d3, d4] => { results := [.lit (.bool false)], args := [d1, d2, d3, d4] }
  | _ => none }
def FnExactSayingWrongFalsely : Prop := fnExactSayingRow.holds Try.pinned (OpenSpec.ofChange fnExactSayingWrong)

/-- 'laws.FnExactBridgeOf': WHATEVER THE INPUT: true; the input reads as it did. -/
def fnExactBridgeOfSpec : ChangeSpec := { name := "fnExactBridgeOf", fn := fun _ => fun
  | [d1, d2, d3] => { results := [.lit (.bool true)], args := [d1, d2, d3] }
  | _ => none }
def fnExactBridgeOfRow : OpenClaim := { program := "ytjbjpdifgfnaeaa", sum := "11755e4d50f83cf5b220209cc01c3223fa730f638eeb183036ffc4cf86c2c5c1", func := "loop.example/g00470/laws.FnExactBridgeOf", spec := "fnExactBridgeOf", apart := false }
def FnExactBridgeOfSaid : Prop := fnExactBridgeOfRow.holds Try.pinned (OpenSpec.ofChange fnExactBridgeOfSpec)

/-- ITS FALSE NEIGHBOUR: 'it returns false'. Refute it at one input. -/
def fnExactBridgeOfWrong : ChangeSpec := { name := "fnExactBridgeOf", fn := fun _ => fun
  | [d1, d2, d3] => { results := [.lit (.bool false)], args := [d1, d2, d3] }
  | _ => none }
def FnExactBridgeOfWrongFalsely : Prop := fnExactBridgeOfRow.holds Try.pinned (OpenSpec.ofChange fnExactBridgeOfWrong)

/- THE SECOND FORM. 'bulk': how many values and letters a reading holds, each counted each time it is reached (what is shared counts as often as it is met; a slice's spare places count too). A statement '..UptoSaid' is the law's where the arguments, and the package variables that the reading takes, are together of bulk at most 1048576: NARROWER than '..Said'. Prove '..Said' where nothing that the law and all that it calls make is longer than what came in: it says more and counts as full. Else prove '..UptoSaid'. A law counts once. -/
mutual
def uptoBulk {H : Type} : DataW H → Nat
  | .lit (.string bytes) => bytes.length + 1
  | .lit _ => 1
  | .nil => 1
  | .ptr d => uptoBulk d + 1
  | .slice elems spare => uptoBulkAll elems + uptoBulkAll spare + 1
  | .agg parts => uptoBulkAll parts + 1
  | .iface _ d => uptoBulk d + 1
  | .map entries => uptoBulkEntries entries + 1
  | .held _ => 1
def uptoBulkAll {H : Type} : List (DataW H) → Nat
  | [] => 0
  | d :: r => uptoBulk d + uptoBulkAll r
def uptoBulkEntries {H : Type} : List (Lit × DataW H) → Nat
  | [] => 0
  | x :: r => uptoBulkEntry x + uptoBulkEntries r
def uptoBulkEntry {H : Type} : Lit × DataW H → Nat
  | (.string bytes, d) => bytes.length + uptoBulk d + 1
  | (_, d) => uptoBulk d + 1
 end
def uptoSmall : (H : Type) → List (DataW H) → Bool := fun _ ds => decide (uptoBulkAll ds ≤ 1048576)
def OpenSpec.upto (s : _root_.Go.ChangeSpec) : _root_.Go.OpenSpec := { _root_.Go.OpenSpec.ofChange s with cond := some uptoSmall }

/-- 'laws.FnExactSpans', WHERE WHAT IT READS IS OF BULK AT MOST 1048576: true; the input reads as it did. -/
def fnExactSpansUptoRow : OpenClaim := { program := "ytjbjpdifgfnaeaa", sum := "11755e4d50f83cf5b220209cc01c3223fa730f638eeb183036ffc4cf86c2c5c1", func := "loop.example/g00470/laws.FnExactSpans", spec := "fnExactSpans", unfollowed := true, recurses := true, apart := false, narrowed := true }
def FnExactSpansUptoSaid : Prop := fnExactSpansUptoRow.holds Try.pinned (OpenSpec.upto fnExactSpansSpec)

/-- 'laws.FnExactRingless', WHERE WHAT IT READS IS OF BULK AT MOST 1048576: true; the input reads as it did. -/
def fnExactRinglessUptoRow : OpenClaim := { program := "ytjbjpdifgfnaeaa", sum := "11755e4d50f83cf5b220209cc01c3223fa730f638eeb183036ffc4cf86c2c5c1", func := "loop.example/g00470/laws.FnExactRingless", spec := "fnExactRingless", unfollowed := true, recurses := true, apart := false, narrowed := true }
def FnExactRinglessUptoSaid : Prop := fnExactRinglessUptoRow.holds Try.pinned (OpenSpec.upto fnExactRinglessSpec)

/-- 'laws.FnExactIsTree', WHERE WHAT IT READS IS OF BULK AT MOST 1048576: true; the input reads as it did. -/
def fnExactIsTreeUptoRow : OpenClaim := { program := "ytjbjpdifgfnaeaa", sum := "11755e4d50f83cf5b220209cc01c3223fa730f638eeb183036ffc4cf86c2c5c1", func := "loop.example/g00470/laws.FnExactIsTree", spec := "fnExactIsTree", unfollowed := true, recurses := true, apart := false, narrowed := true }
def FnExactIsTreeUptoSaid : Prop := fnExactIsTreeUptoRow.holds Try.pinned (OpenSpec.upto fnExactIsTreeSpec)

/-- 'laws.FnExactBoxNew', WHERE WHAT IT READS IS OF BULK AT MOST 1048576: true; the input reads as it did. -/
def fnExactBoxNewUptoRow : OpenClaim := { program := "ytjbjpdifgfnaeaa", sum := "11755e4d50f83cf5b220209cc01c3223fa730f638eeb183036ffc4cf86c2c5c1", func := "loop.example/g00470/laws.FnExactBoxNew", spec := "fnExactBoxNew", apart := false, narrowed := true }
def FnExactBoxNewUptoSaid : Prop := fnExactBoxNewUptoRow.holds Try.pinned (OpenSpec.upto fnExactBoxNewSpec)

/-- 'laws.FnExactAccept', WHERE WHAT IT READS IS OF BULK AT MOST 1048576: true; the input reads as it did. -/
def fnExactAcceptUptoRow : OpenClaim := { program := "ytjbjpdifgfnaeaa", sum := "11755e4d50f83cf5b220209cc01c3223fa730f638eeb183036ffc4cf86c2c5c1", func := "loop.example/g00470/laws.FnExactAccept", spec := "fnExactAccept", apart := false, narrowed := true }
def FnExactAcceptUptoSaid : Prop := fnExactAcceptUptoRow.holds Try.pinned (OpenSpec.upto fnExactAcceptSpec)

/-- 'laws.FnExactJudgeLogs', WHERE WHAT IT READS IS OF BULK AT MOST 1048576: true; the input reads as it did. -/
def fnExactJudgeLogsUptoRow : OpenClaim := { program := "ytjbjpdifgfnaeaa", sum := "11755e4d50f83cf5b220209cc01c3223fa730f638eeb183036ffc4cf86c2c5c1", func := "loop.example/g00470/laws.FnExactJudgeLogs", spec := "fnExactJudgeLogs", apart := false, narrowed := true }
def FnExactJudgeLogsUptoSaid : Prop := fnExactJudgeLogsUptoRow.holds Try.pinned (OpenSpec.upto fnExactJudgeLogsSpec)

/-- 'laws.FnExactSaying', WHERE WHAT IT READS IS OF BULK AT MOST 1048576: true; the input reads as it did. -/
def fnExactSayingUptoRow : OpenClaim := { program := "ytjbjpdifgfnaeaa", sum := "11755e4d50f83cf5b220209cc01c3223fa730f638eeb183036ffc4cf86c2c5c1", func := "loop.example/g00470/laws.FnExactSaying", spec := "fnExactSaying", apart := false, narrowed := true }
def FnExactSayingUptoSaid : Prop := fnExactSayingUptoRow.holds Try.pinned (OpenSpec.upto fnExactSayingSpec)

/-- 'laws.FnExactBridgeOf', WHERE WHAT IT READS IS OF BULK AT MOST 1048576: true; the input reads as it did. -/
def fnExactBridgeOfUptoRow : OpenClaim := { program := "ytjbjpdifgfnaeaa", sum := "11755e4d50f83cf5b220209cc01c3223fa730f638eeb183036ffc4cf86c2c5c1", func := "loop.example/g00470/laws.FnExactBridgeOf", spec := "fnExactBridgeOf", apart := false, narrowed := true }
def FnExactBridgeOfUptoSaid : Prop := fnExactBridgeOfUptoRow.holds Try.pinned (OpenSpec.upto fnExactBridgeOfSpec)

end Rows
end Go.Proofs.Ytjbjpdifgfnaeaa
