/-
  No cell of these rows narrows 'for every input' (looked for: loops, veiled, ifaces, maps, wideKeys, modest, calm, conditions, laid).
  DERIVED. THE GIVEN ROWS OF THIS SEAT. 5 by the template 'for every input the law returns true; each argument reads behind the call as it read before'; 0 by the template 'total and deterministic' (their statements: YtfhaanknijlamaaGreatTotals.lean).
  GIVEN WITH THE SEED: the statements are not yours to turn. If you find one false, say at which input.
  Laid BY PROGRAM, IN A SANDBOX (cutbox-rows.mjs): the forced cells as the released guide's own fill.sh prints them over the translation 0167deef54804e14… (all of the seat's roots in one cut). By AI agents, Wed Nov 11 2026. No macro, syntax, notation, axiom, sorry.
-/
import Derived.Test.YtfhaanknijlamaaGreatChecked
import GoSem.Claim
import GoSem.ClaimJoined
import GoSem.ClaimMapViews
import Derived.JoinedTies
import Derived.KernelRfl
namespace Go.Proofs.YtfhaanknijlamaaGreat
/- THE CELL 'sum', in the pinned program and in every row, IS THE sha256 OF THE DUMP (.gsa) THAT YtfhaanknijlamaaGreatProg.lean LOADS. Nothing in Lean hashes anything: it is a label: what it is worth is what the hold of that sum in a sandbox is worth. -/
noncomputable def Tryz.pinned : Pinned := { name := "ytfhaanknijlamaagreat", sum := "0167deef54804e145debda00f313af593d229e44d13d9acff9d35ba87af1f308", checked := Tryz.checked }
namespace Rows
def none {H : Type} : Left H := { results := [], args := [] }

/-- 'laws.FnJudges': WHATEVER THE INPUT: true; the input reads as it did. -/
def fnJudgesSpec : ChangeSpec := { name := "fnJudges", fn := fun _ => fun
  | [d] => { results := [.lit (.bool true)], args := [d] }
  | _ => none }
def fnJudgesRow : OpenClaim := { program := "ytfhaanknijlamaagreat", sum := "0167deef54804e145debda00f313af593d229e44d13d9acff9d35ba87af1f308", func := "loop.example/g00470/laws.FnJudges", spec := "fnJudges", apart := false }
def FnJudgesSaid : Prop := fnJudgesRow.holds Tryz.pinned (OpenSpec.ofChange fnJudgesSpec)

/-- ITS FALSE NEIGHBOUR: 'it returns false'. Refute it at one input. -/
def fnJudgesWrong : ChangeSpec := { name := "fnJudges", fn := fun _ => fun
  | [d] => { results := [.lit (.bool false)], args := [d] }
  | _ => none }
def FnJudgesWrongFalsely : Prop := fnJudgesRow.holds Tryz.pinned (OpenSpec.ofChange fnJudgesWrong)

/-- 'laws.FnBoxes': WHATEVER THE INPUT: true; the input reads as it did. -/
def fnBoxesSpec : ChangeSpec := { name := "fnBoxes", fn := fun _ => fun
  | [d] => { results := [.lit (.bool true)], args := [d] }
  | _ => none }
def fnBoxesRow : OpenClaim := { program := "ytfhaanknijlamaagreat", sum := "0167deef54804e145debda00f313af593d229e44d13d9acff9d35ba87af1f308", func := "loop.example/g00470/laws.FnBoxes", spec := "fnBoxes", apart := false }
def FnBoxesSaid : Prop := fnBoxesRow.holds Tryz.pinned (OpenSpec.ofChange fnBoxesSpec)

/-- ITS FALSE NEIGHBOUR: 'it returns false'. Refute it at one input. -/
def fnBoxesWrong : ChangeSpec := { name := "fnBoxes", fn := fun _ => fun
  | [d] => { results := [.lit (.bool false)], args := [d] }
  | _ => none }
def FnBoxesWrongFalsely : Prop := fnBoxesRow.holds Tryz.pinned (OpenSpec.ofChange fnBoxesWrong)

/-- 'laws.FnDeposed': WHATEVER THE INPUT: true; the input reads as it did. -/
def fnDeposedSpec : ChangeSpec := { name := "fnDeposed", fn := fun _ => fun
  | [d] => { results := [.lit (.bool true)], args := [d] }
  | _ => none }
def fnDeposedRow : OpenClaim := { program := "ytfhaanknijlamaagreat", sum := "0167deef54804e145debda00f313af593d229e44d13d9acff9d35ba87af1f308", func := "loop.example/g00470/laws.FnDeposed", spec := "fnDeposed", apart := false }
def FnDeposedSaid : Prop := fnDeposedRow.holds Tryz.pinned (OpenSpec.ofChange fnDeposedSpec)

/-- ITS FALSE NEIGHBOUR: 'it returns false'. Refute it at one input. -/
def fnDeposedWrong : ChangeSpec := { name := "fnDeposed", fn := fun _ => fun
  | [d] => { results := [.lit (.bool false)], args := [d] }
  | _ => none }
def FnDeposedWrongFalsely : Prop := fnDeposedRow.holds Tryz.pinned (OpenSpec.ofChange fnDeposedWrong)

/-- 'laws.FnDeeds': WHATEVER THE INPUT: true; the input reads as it did. -/
def fnDeedsSpec : ChangeSpec := { name := "fnDeeds", fn := fun _ => fun
  | [d] => { results := [.lit (.bool true)], args := [d] }
  | _ => none }
def fnDeedsRow : OpenClaim := { program := "ytfhaanknijlamaagreat", sum := "0167deef54804e145debda00f313af593d229e44d13d9acff9d35ba87af1f308", func := "loop.example/g00470/laws.FnDeeds", spec := "fnDeeds", apart := false }
def FnDeedsSaid : Prop := fnDeedsRow.holds Tryz.pinned (OpenSpec.ofChange fnDeedsSpec)

/-- ITS FALSE NEIGHBOUR: 'it returns false'. Refute it at one input. -/
def fnDeedsWrong : ChangeSpec := { name := "fnDeeds", fn := fun _ => fun
  | [d] => { results := [.lit (.bool false)], args := [d] }
  | _ => none }
def FnDeedsWrongFalsely : Prop := fnDeedsRow.holds Tryz.pinned (OpenSpec.ofChange fnDeedsWrong)

/-- 'laws.FnRuns': WHATEVER THE INPUT: true; the input reads as it did. -/
def fnRunsSpec : ChangeSpec := { name := "fnRuns", fn := fun _ => fun
  | [d] => { results := [.lit (.bool true)], args := [d] }
  | _ => none }
def fnRunsRow : OpenClaim := { program := "ytfhaanknijlamaagreat", sum := "0167deef54804e145debda00f313af593d229e44d13d9acff9d35ba87af1f308", func := "loop.example/g00470/laws.FnRuns", spec := "fnRuns", apart := false }
def FnRunsSaid : Prop := fnRunsRow.holds Tryz.pinned (OpenSpec.ofChange fnRunsSpec)

/-- ITS FALSE NEIGHBOUR: 'it returns false'. Refute it at one input. -/
def fnRunsWrong : ChangeSpec := { name := "fnRuns", fn := fun _ => fun
  | [d] => { results := [.lit (.bool false)], args := [d] }
  | _ => none }
def FnRunsWrongFalsely : Prop := fnRunsRow.holds Tryz.pinned (OpenSpec.ofChange fnRunsWrong)

/- THE SECOND FORM. 'bulk': how many values and letters a reading holds, each counted each time it is reached (what is shared counts as often as it is met; a slice's spare places count too). A statement '..UptoSaid' is the law's where the arguments, and the package variables that the reading takes, are together of bulk at most 1048576: NARROWER than '..Said'. Prove '..Said' where nothing that the law and all that it calls make is longer than what came in: it says more and counts as full. Else prove '..UptoSaid'. A law counts once. -/
mutual
def uptoBulk {H : Type} : DataW H → Nat
  | .lit (.string bytes) => bytes.length + 1
  | .lit _ => 1
  | .nil => 1
  | .ptr d => uptoBulk d + 1
  | .slice elems spare => uptoBulkAll elems + uptoBulkAll spare + 1
  | .agg parts => uptoBulkAll parts + 1
  | .iface _ d => uptoBulk d + 1
  | .map entries => uptoBulkEntries entries + 1
  | .held _ => 1
def uptoBulkAll {H : Type} : List (DataW H) → Nat
  | [] => 0
  | d :: r => uptoBulk d + uptoBulkAll r
def uptoBulkEntries {H : Type} : List (Lit × DataW H) → Nat
  | [] => 0
  | x :: r => uptoBulkEntry x + uptoBulkEntries r
def uptoBulkEntry {H : Type} : Lit × DataW H → Nat
  | (.string bytes, d) => bytes.length + uptoBulk d + 1
  | (_, d) => uptoBulk d + 1
 end
def uptoSmall : (H : Type) → List (DataW H) → Bool := fun _ ds => decide (uptoBulkAll ds ≤ 1048576)
def OpenSpec.upto (s : _root_.Go.ChangeSpec) : _root_.Go.OpenSpec := { _root_.Go.OpenSpec.ofChange s with cond := some uptoSmall }

/-- 'laws.FnJudges', WHERE WHAT IT READS IS OF BULK AT MOST 1048576: true; the input reads as it did. -/
def fnJudgesUptoRow : OpenClaim := { program := "ytfhaanknijlamaagreat", sum := "0167deef54804e145debda00f313af593d229e44d13d9acff9d35ba87af1f308", func := "loop.example/g00470/laws.FnJudges", spec := "fnJudges", apart := false, narrowed := true }
def FnJudgesUptoSaid : Prop := fnJudgesUptoRow.holds Tryz.pinned (OpenSpec.upto fnJudgesSpec)

/-- 'laws.FnBoxes', WHERE WHAT IT READS IS OF BULK AT MOST 1048576: true; the input reads as it did. -/
def fnBoxesUptoRow : OpenClaim := { program := "ytfhaanknijlamaagreat", sum := "0167deef54804e145debda00f313af593d229e44d13d9acff9d35ba87af1f308", func := "loop.example/g00470/laws.FnBoxes", spec := "fnBoxes", apart := false, narrowed := true }
def FnBoxesUptoSaid : Prop := fnBoxesUptoRow.holds Tryz.pinned (OpenSpec.upto fnBoxesSpec)

/-- 'laws.FnDeposed', WHERE WHAT IT READS IS OF BULK AT MOST 1048576: true; the input reads as it did. -/
def fnDeposedUptoRow : OpenClaim := { program := "ytfhaanknijlamaagreat", sum := "0167deef54804e145debda00f313af593d229e44d13d9acff9d35ba87af1f308", func := "loop.example/g00470/laws.FnDeposed", spec := "fnDeposed", apart := false, narrowed := true }
def FnDeposedUptoSaid : Prop := fnDeposedUptoRow.holds Tryz.pinned (OpenSpec.upto fnDeposedSpec)

/-- 'laws.FnDeeds', WHERE WHAT IT READS IS OF BULK AT MOST 1048576: true; the input reads as it did. -/
def fnDeedsUptoRow : OpenClaim := { program := "ytfhaanknijlamaagreat", sum := "0167deef54804e145debda00f313af593d229e44d13d9acff9d35ba87af1f308", func := "loop.example/g00470/laws.FnDeeds", spec := "fnDeeds", apart := false, narrowed := true }
def FnDeedsUptoSaid : Prop := fnDeedsUptoRow.holds Tryz.pinned (OpenSpec.upto fnDeedsSpec)

/-- 'laws.FnRuns', WHERE WHAT IT READS IS OF BULK AT MOST 1048576: true; the input reads as it did. -/
def fnRunsUptoRow : OpenClaim := { program := "ytfhaanknijlamaagreat", sum := "0167deef54804e145debda00f313af593d229e44d13d9acff9d35ba87af1f308", func := "loop.example/g00470/laws.FnRuns", spec := "fnRuns", apart := false, narrowed := true }
def FnRunsUptoSaid : Prop := fnRunsUptoRow.holds Tryz.pinned (OpenSpec.upto fnRunsSpec)

end Rows
end Go.Proofs.YtfhaanknijlamaaGreat
