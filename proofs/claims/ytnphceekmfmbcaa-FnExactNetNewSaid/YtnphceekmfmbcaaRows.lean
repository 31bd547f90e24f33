/-
  No cell of these rows narrows 'for every input' (looked for: loops, veiled, ifaces, maps, wideKeys, modest, calm, conditions, laid).
  DERIVED. THE GIVEN ROWS OF THIS SEAT. 5 by the template 'for every input the law returns true; each argument reads behind the call as it read before'; 0 by the template 'total and deterministic' (their statements: YtnphceekmfmbcaaTotals.lean).
  GIVEN WITH THE SEED: the statements are not yours to turn. If you find one false, say at which input.
  Laid BY PROGRAM, IN A SANDBOX (cutbox-rows.mjs): the forced cells as the released guide's own fill.sh prints them over the translation 7e64c4655d1a5602… (all of the seat's roots in one cut). By AI agents, Wed Nov 11 2026. No macro, syntax, notation, axiom, sorry.
-/
import Derived.Test.YtnphceekmfmbcaaChecked
import GoSem.Claim
import GoSem.ClaimJoined
import GoSem.ClaimMapViews
import Derived.JoinedTies
import Derived.KernelRfl
namespace Go.Proofs.Ytnphceekmfmbcaa
/- THE CELL 'sum', in the pinned program and in every row, IS THE sha256 OF THE DUMP (.gsa) THAT YtnphceekmfmbcaaProg.lean LOADS. Nothing in Lean hashes anything: it is a label: what it is worth is what the hold of that sum in a sandbox is worth. -/
noncomputable def Try.pinned : Pinned := { name := "ytnphceekmfmbcaa", sum := "7e64c4655d1a56020c66ec5e0a9fc16e1a295c6c4b22c9f015888c8545423555", checked := Try.checked }
namespace Rows
def none {H : Type} : Left H := { results := [], args := [] }

/-- 'laws.FnExactNetNew': WHATEVER THE INPUT: true; the input reads as it did. -/
def fnExactNetNewSpec : ChangeSpec := { name := "fnExactNetNew", fn := fun _ => fun
  | [d1, d2] => { results := [.lit (.bool true)], args := [d1, d2] }
  | _ => none }
def fnExactNetNewRow : OpenClaim := { program := "ytnphceekmfmbcaa", sum := "7e64c4655d1a56020c66ec5e0a9fc16e1a295c6c4b22c9f015888c8545423555", func := "loop.example/g00470/laws.FnExactNetNew", spec := "fnExactNetNew", apart := false }
def FnExactNetNewSaid : Prop := fnExactNetNewRow.holds Try.pinned (OpenSpec.ofChange fnExactNetNewSpec)

/-- ITS FALSE NEIGHBOUR: 'it returns false'. Refute it at one input. -/
def fnExactNetNewWrong : ChangeSpec := { name := "fnExactNetNew", fn := fun _ => fun
  | [d1, d2] => { results := [.lit (.bool false)], args := [d1, d2] }
  | _ => none }
def FnExactNetNewWrongFalsely : Prop := fnExactNetNewRow.holds Try.pinned (OpenSpec.ofChange fnExactNetNewWrong)

/-- 'laws.FnExactJudgeSaid': WHATEVER THE INPUT: true; the input reads as it did. -/
def fnExactJudgeSaidSpec : ChangeSpec := { name := "fnExactJudgeSaid", fn := fun _ => fun
  | [d] => { results := [.lit (.bool true)], args := [d] }
  | _ => none }
def fnExactJudgeSaidRow : OpenClaim := { program := "ytnphceekmfmbcaa", sum := "7e64c4655d1a56020c66ec5e0a9fc16e1a295c6c4b22c9f015888c8545423555", func := "loop.example/g00470/laws.FnExactJudgeSaid", spec := "fnExactJudgeSaid", apart := false }
def FnExactJudgeSaidSaid : Prop := fnExactJudgeSaidRow.holds Try.pinned (OpenSpec.ofChange fnExactJudgeSaidSpec)

/-- ITS FALSE NEIGHBOUR: 'it returns false'. Refute it at one input. -/
def fnExactJudgeSaidWrong : ChangeSpec := { name := "fnExactJudgeSaid", fn := fun _ => fun
  | [d] => { results := [.lit (.bool false)], args := [d] }
  | _ => none }
def FnExactJudgeSaidWrongFalsely : Prop := fnExactJudgeSaidRow.holds Try.pinned (OpenSpec.ofChange fnExactJudgeSaidWrong)

/-- 'laws.FnExactRound': WHATEVER THE INPUT: true; the input reads as it did. -/
def fnExactRoundSpec : ChangeSpec := { name := "fnExactRound", fn := fun _ => fun
  | [d] => { results := [.lit (.bool true)], args := [d] }
  | _ => none }
def fnExactRoundRow : OpenClaim := { program := "ytnphceekmfmbcaa", sum := "7e64c4655d1a56020c66ec5e0a9fc16e1a295c6c4b22c9f015888c8545423555", func := "loop.example/g00470/laws.FnExactRound", spec := "fnExactRound", apart := false }
def FnExactRoundSaid : Prop := fnExactRoundRow.holds Try.pinned (OpenSpec.ofChange fnExactRoundSpec)

/-- ITS FALSE NEIGHBOUR: 'it returns false'. Refute it at one input. -/
def fnExactRoundWrong : ChangeSpec := { name := "fnExactRound", fn := fun _ => fun
  | [d] => { results := [.lit (.bool false)], args := [d] }
  | _ => none }
def FnExactRoundWrongFalsely : Prop := fnExactRoundRow.holds Try.pinned (OpenSpec.ofChange fnExactRoundWrong)

/-- 'laws.FnExactJudgeGates': WHATEVER THE INPUT: true; the input reads as it did. -/
def fnExactJudgeGatesSpec : ChangeSpec := { name := "fnExactJudgeGates", fn := fun _ => fun
  | [d] => { results := [.lit (.bool true)], args := [d] }
  | _ => none }
def fnExactJudgeGatesRow : OpenClaim := { program := "ytnphceekmfmbcaa", sum := "7e64c4655d1a56020c66ec5e0a9fc16e1a295c6c4b22c9f015888c8545423555", func := "loop.example/g00470/laws.FnExactJudgeGates", spec := "fnExactJudgeGates", apart := false }
def FnExactJudgeGatesSaid : Prop := fnExactJudgeGatesRow.holds Try.pinned (OpenSpec.ofChange fnExactJudgeGatesSpec)

/-- ITS FALSE NEIGHBOUR: 'it returns false'. Refute it at one input. -/
def fnExactJudgeGatesWrong : ChangeSpec := { name := "fnExactJudgeGates", fn := fun _ => fun
  | [d] => { results := [.lit (.bool false)], args := [d] }
  | _ => none }
def FnExactJudgeGatesWrongFalsely : Prop := fnExactJudgeGatesRow.holds Try.pinned (OpenSpec.ofChange fnExactJudgeGatesWrong)

/-- 'laws.FnExactSettle': WHATEVER THE INPUT: true; the input reads as it did. -/
def fnExactSettleSpec : ChangeSpec := { name := "fnExactSettle", fn := fun _ => fun
  | [d1, d2] => { results := [.lit (.bool true)], args := [d1, d2] }
  | _ => none }
def fnExactSettleRow : OpenClaim := { program := "ytnphceekmfmbcaa", sum := "7e64c4655d1a56020c66ec5e0a9fc16e1a295c6c4b22c9f015888c8545423555", func := "loop.example/g00470/laws.FnExactSettle", spec := "fnExactSettle", apart := false }
def FnExactSettleSaid : Prop := fnExactSettleRow.holds Try.pinned (OpenSpec.ofChange fnExactSettleSpec)

/-- ITS FALSE NEIGHBOUR: 'it returns false'. Refute it at one input. -/
def fnExactSettleWrong : ChangeSpec := { name := "fnExactSettle", fn := fun _ => fun
  | [d1, d2] => { results := [.lit (.bool false)], args := [d1, d2] }
  | _ => none }
def FnExactSettleWrongFalsely : Prop := fnExactSettleRow.holds Try.pinned (OpenSpec.ofChange fnExactSettleWrong)

/- THE SECOND FORM. 'bulk': how many values and letters a reading holds, each counted each time it is reached (what is shared counts as often as it is met; a slice's spare places count too). A statement '..UptoSaid' is the law's where the arguments, and the package variables that the reading takes, are together of bulk at most 1048576: NARROWER than '..Said'. Prove '..Said' where nothing that the law and all that it calls make is longer than what came in: it says more and counts as full. Else prove '..UptoSaid'. A law counts once. -/
mutual
def uptoBulk {H : Type} : DataW H → Nat
  | .lit (.string bytes) => bytes.length + 1
  | .lit _ => 1
  | .nil => 1
  | .ptr d => uptoBulk d + 1
  | .slice elems spare => uptoBulkAll elems + uptoBulkAll spare + 1
  | .agg parts => uptoBulkAll parts + 1
  | .iface _ d => uptoBulk d + 1
  | .map entries => uptoBulkEntries entries + 1
  | .held _ => 1
def uptoBulkAll {H : Type} : List (DataW H) → Nat
  | [] => 0
  | d :: r => uptoBulk d + uptoBulkAll r
def uptoBulkEntries {H : Type} : List (Lit × DataW H) → Nat
  | [] => 0
  | x :: r => uptoBulkEntry x + uptoBulkEntries r
def uptoBulkEntry {H : Type} : Lit × DataW H → Nat
  | (.string bytes, d) => bytes.length + uptoBulk d + 1
  | (_, d) => uptoBulk d + 1
 end
def uptoSmall : (H : Type) → List (DataW H) → Bool := fun _ ds => decide (uptoBulkAll ds ≤ 1048576)
def OpenSpec.upto (s : _root_.Go.ChangeSpec) : _root_.Go.OpenSpec := { _root_.Go.OpenSpec.ofChange s with cond := some uptoSmall }

/-- 'laws.FnExactNetNew', WHERE WHAT IT READS IS OF BULK AT MOST 1048576: true; the input reads as it did. -/
def fnExactNetNewUptoRow : OpenClaim := { program := "ytnphceekmfmbcaa", sum := "7e64c4655d1a56020c66ec5e0a9fc16e1a295c6c4b22c9f015888c8545423555", func := "loop.example/g00470/laws.FnExactNetNew", spec := "fnExactNetNew", apart := false, narrowed := true }
def FnExactNetNewUptoSaid : Prop := fnExactNetNewUptoRow.holds Try.pinned (OpenSpec.upto fnExactNetNewSpec)

/-- 'laws.FnExactJudgeSaid', WHERE WHAT IT READS IS OF BULK AT MOST 1048576: true; the input reads as it did. -/
def fnExactJudgeSaidUptoRow : OpenClaim := { program := "ytnphceekmfmbcaa", sum := "7e64c4655d1a56020c66ec5e0a9fc16e1a295c6c4b22c9f015888c8545423555", func := "loop.example/g00470/laws.FnExactJudgeSaid", spec := "fnExactJudgeSaid", apart := false, narrowed := true }
def FnExactJudgeSaidUptoSaid : Prop := fnExactJudgeSaidUptoRow.holds Try.pinned (OpenSpec.upto fnExactJudgeSaidSpec)

/-- 'laws.FnExactRound', WHERE WHAT IT READS IS OF BULK AT MOST 1048576: true; the input reads as it did. -/
def fnExactRoundUptoRow : OpenClaim := { program := "ytnphceekmfmbcaa", sum := "7e64c4655d1a56020c66ec5e0a9fc16e1a295c6c4b22c9f015888c8545423555", func := "loop.example/g00470/laws.FnExactRound", spec := "fnExactRound", apart := false, narrowed := true }
def FnExactRoundUptoSaid : Prop := fnExactRoundUptoRow.holds Try.pinned (OpenSpec.upto fnExactRoundSpec)

/-- 'laws.FnExactJudgeGates', WHERE WHAT IT READS IS OF BULK AT MOST 1048576: true; the input reads as it did. -/
def fnExactJudgeGatesUptoRow : OpenClaim := { program := "ytnphceekmfmbcaa", sum := "7e64c4655d1a56020c66ec5e0a9fc16e1a295c6c4b22c9f015888c8545423555", func := "loop.example/g00470/laws.FnExactJudgeGates", spec := "fnExactJudgeGates", apart := false, narrowed := true }
def FnExactJudgeGatesUptoSaid : Prop := fnExactJudgeGatesUptoRow.holds Try.pinned (OpenSpec.upto fnExactJudgeGatesSpec)

/-- 'laws.FnExactSettle', WHERE WHAT IT READS IS OF BULK AT MOST 1048576: true; the input reads as it did. -/
def fnExactSettleUptoRow : OpenClaim := { program := "ytnphceekmfmbcaa", sum := "7e64c4655d1a56020c66ec5e0a9fc16e1a295c6c4b22c9f015888c8545423555", func := "loop.example/g00470/laws.FnExactSettle", spec := "fnExactSettle", apart := false, narrowed := true }
def FnExactSettleUptoSaid : Prop := fnExactSettleUptoRow.holds Try.pinned (OpenSpec.upto fnExactSettleSpec)

end Rows
end Go.Proofs.Ytnphceekmfmbcaa
