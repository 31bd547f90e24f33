/-
  No cell of these rows narrows 'for every input' (looked for: loops, veiled, ifaces, maps, wideKeys, modest, calm, conditions, laid).
  DERIVED. THE GIVEN ROWS OF THIS SEAT. 5 by the template 'for every input the law returns true; each argument reads behind the call as it read before'; 0 by the template 'total and deterministic' (their statements: YteendofaefgmiaaTotals.lean).
  GIVEN WITH THE SEED: the statements are not yours to turn. If you find one false, say at which input.
  Laid BY PROGRAM, IN A SANDBOX (cutbox-rows.mjs): the forced cells as the released guide's own fill.sh prints them over the translation f50067010712034d… (all of the seat's roots in one cut). By AI agents, Wed Nov 11 2026. No macro, syntax, notation, axiom, sorry.
-/
import Derived.Test.YteendofaefgmiaaChecked
import GoSem.Claim
import GoSem.ClaimJoined
import GoSem.ClaimMapViews
import Derived.JoinedTies
import Derived.KernelRfl
namespace Go.Proofs.Yteendofaefgmiaa
/- THE CELL 'sum', in the pinned program and in every row, IS THE sha256 OF THE DUMP (.gsa) THAT YteendofaefgmiaaProg.lean LOADS. Nothing in Lean hashes anything: it is a label: what it is worth is what the hold of that sum in a sandbox is worth. -/
noncomputable def Try.pinned : Pinned := { name := "yteendofaefgmiaa", sum := "f50067010712034ddccbb5377e397ab7481e54fea065e55c2dc58ab8aa3a901d", checked := Try.checked }
namespace Rows
def none {H : Type} : Left H := { results := [], args := [] }

/-- 'laws.FnExactBoxOk': WHATEVER THE INPUT: true; the input reads as it did. -/
def fnExactBoxOkSpec : ChangeSpec := { name := "fnExactBoxOk", fn := fun _ => fun
  | [d] => { results := [.lit (.bool true)], args := [d] }
  | _ => none }
def fnExactBoxOkRow : OpenClaim := { program := "yteendofaefgmiaa", sum := "f50067010712034ddccbb5377e397ab7481e54fea065e55c2dc58ab8aa3a901d", func := "loop.example/g00470/laws.FnExactBoxOk", spec := "fnExactBoxOk", apart := false }
def FnExactBoxOkSaid : Prop := fnExactBoxOkRow.holds Try.pinned (OpenSpec.ofChange fnExactBoxOkSpec)

/-- ITS FALSE NEIGHBOUR: 'it returns false'. Refute it at one input. -/
def fnExactBoxOkWrong : ChangeSpec := { name := "fnExactBoxOk", fn := fun _ => fun
  | [d] => { results := [.lit (.bool false)], args := [d] }
  | _ => none }
def FnExactBoxOkWrongFalsely : Prop := fnExactBoxOkRow.holds Try.pinned (OpenSpec.ofChange fnExactBoxOkWrong)

/-- 'laws.FnExactHeir': WHATEVER THE INPUT: true; the input reads as it did. -/
def fnExactHeirSpec : ChangeSpec := { name := "fnExactHeir", fn := fun _ => fun
  | [d] => { results := [.lit (.bool true)], args := [d] }
  | _ => none }
def fnExactHeirRow : OpenClaim := { program := "yteendofaefgmiaa", sum := "f50067010712034ddccbb5377e397ab7481e54fea065e55c2dc58ab8aa3a901d", func := "loop.example/g00470/laws.FnExactHeir", spec := "fnExactHeir", apart := false }
def FnExactHeirSaid : Prop := fnExactHeirRow.holds Try.pinned (OpenSpec.ofChange fnExactHeirSpec)

/-- ITS FALSE NEIGHBOUR: 'it returns false'. Refute it at one input. -/
def fnExactHeirWrong : ChangeSpec := { name := "fnExactHeir", fn := fun _ => fun
  | [d] => { results := [.lit (.bool false)], args := [d] }
  | _ => none }
def FnExactHeirWrongFalsely : Prop := fnExactHeirRow.holds Try.pinned (OpenSpec.ofChange fnExactHeirWrong)

/-- 'laws.FnExactJudgeLogs': WHATEVER THE INPUT: true; the input reads as it did. -/
def fnExactJudgeLogsSpec : ChangeSpec := { name := "fnExactJudgeLogs", fn := fun _ => fun
  | [d] => { results := [.lit (.bool true)], args := [d] }
  | _ => none }
def fnExactJudgeLogsRow : OpenClaim := { program := "yteendofaefgmiaa", sum := "f50067010712034ddccbb5377e397ab7481e54fea065e55c2dc58ab8aa3a901d", func := "loop.example/g00470/laws.FnExactJudgeLogs", spec := "fnExactJudgeLogs", apart := false }
def FnExactJudgeLogsSaid : Prop := fnExactJudgeLogsRow.holds Try.pinned (OpenSpec.ofChange fnExactJudgeLogsSpec)

/-- ITS FALSE NEIGHBOUR: 'it returns false'. Refute it at one input. -/
def fnExactJudgeLogsWrong : ChangeSpec := { name := "fnExactJudgeLogs", fn := fun _ => fun
  | [d] => { results := [.lit (.bool false)], args := [d] }
  | _ => none }
def FnExactJudgeLogsWrongFalsely : Prop := fnExactJudgeLogsRow.holds Try.pinned (OpenSpec.ofChange fnExactJudgeLogsWrong)

/-- 'laws.FnExactBoxNew': WHATEVER THE INPUT: true; the input reads as it did. -/
def fnExactBoxNewSpec : ChangeSpec := { name := "fnExactBoxNew", fn := fun _ => fun
  | [d1, d2] => { results := [.lit (.bool true)], args := [d1, d2] }
  | _ => none }
def fnExactBoxNewRow : OpenClaim := { program := "yteendofaefgmiaa", sum := "f50067010712034ddccbb5377e397ab7481e54fea065e55c2dc58ab8aa3a901d", func := "loop.example/g00470/laws.FnExactBoxNew", spec := "fnExactBoxNew", apart := false }
def FnExactBoxNewSaid : Prop := fnExactBoxNewRow.holds Try.pinned (OpenSpec.ofChange fnExactBoxNewSpec)

/-- ITS FALSE NEIGHBOUR: 'it returns false'. Refute it at one input. -/
def fnExactBoxNewWrong : ChangeSpec := { name := "fnExactBoxNew", fn := fun _ => fun
  | [d1, d2] => { results := [.lit (.bool false)], args := [d1, d2] }
  | _ => none }
def FnExactBoxNewWrongFalsely : Prop := fnExactBoxNewRow.holds Try.pinned (OpenSpec.ofChange fnExactBoxNewWrong)

/-- 'laws.FnExactAccept': WHATEVER THE INPUT: true; the input reads as it did. -/
def fnExactAcceptSpec : ChangeSpec := { name := "fnExactAccept", fn := fun _ => fun
  | [d1, d2, d3] => { results := [.lit (.bool true)], args := [d1, d2, d3] }
  | _ => none }
def fnExactAcceptRow : OpenClaim := { program := "yteendofaefgmiaa", sum := "f50067010712034ddccbb5377e397ab7481e54fea065e55c2dc58ab8aa3a901d", func := "loop.example/g00470/laws.FnExactAccept", spec := "fnExactAccept", apart := false }
def FnExactAcceptSaid : Prop := fnExactAcceptRow.holds Try.pinned (OpenSpec.ofChange fnExactAcceptSpec)

/-- ITS FALSE NEIGHBOUR: 'it returns false'. Refute it at one input. -/
def fnExactAcceptWrong : ChangeSpec := { name := "fnExactAccept", fn := fun _ => fun
  | [d1, d2, d3] => { results := [.lit (.bool false)], args := [d1, d2, d3] }
  | _ => none }
def FnExactAcceptWrongFalsely : Prop := fnExactAcceptRow.holds Try.pinned (OpenSpec.ofChange fnExactAcceptWrong)

/- THE SECOND FORM. 'bulk': how many values and letters a reading holds, each counted each time it is reached (what is shared counts as often as it is met; a slice's spare places count too). A statement '..UptoSaid' is the law's where the arguments, and the package variables that the reading takes, are together of bulk at most 1048576: NARROWER than '..Said'. Prove '..Said' where nothing that the law and all that it calls make is longer than what came in: it says more and counts as full. Else prove '..UptoSaid'. A law counts once. -/
mutual
def uptoBulk {H : Type} : DataW H → Nat
  | .lit (.string bytes) => bytes.length + 1
  | .lit _ => 1
  | .nil => 1
  | .ptr d => uptoBulk d + 1
  | .slice elems spare => uptoBulkAll elems + uptoBulkAll spare + 1
  | .agg parts => uptoBulkAll parts + 1
  | .iface _ d => uptoBulk d + 1
  | .map entries => uptoBulkEntries entries + 1
  | .held _ => 1
def uptoBulkAll {H : Type} : List (DataW H) → Nat
  | [] => 0
  | d :: r => uptoBulk d + uptoBulkAll r
def uptoBulkEntries {H : Type} : List (Lit × DataW H) → Nat
  | [] => 0
  | x :: r => uptoBulkEntry x + uptoBulkEntries r
def uptoBulkEntry {H : Type} : Lit × DataW H → Nat
  | (.string bytes, d) => bytes.length + uptoBulk d + 1
  | (_, d) => uptoBulk d + 1
 end
def uptoSmall : (H : Type) → List (DataW H) → Bool := fun _ ds => decide (uptoBulkAll ds ≤ 1048576)
def OpenSpec.upto (s : _root_.Go.ChangeSpec) : _root_.Go.OpenSpec := { _root_.Go.OpenSpec.ofChange s with cond := some uptoSmall }

/-- 'laws.FnExactBoxOk', WHERE WHAT IT READS IS OF BULK AT MOST 1048576: true; the input reads as it did. -/
def fnExactBoxOkUptoRow : OpenClaim := { program := "yteendofaefgmiaa", sum := "f50067010712034ddccbb5377e397ab7481e54fea065e55c2dc58ab8aa3a901d", func := "loop.example/g00470/laws.FnExactBoxOk", spec := "fnExactBoxOk", apart := false, narrowed := true }
def FnExactBoxOkUptoSaid : Prop := fnExactBoxOkUptoRow.holds Try.pinned (OpenSpec.upto fnExactBoxOkSpec)

/-- 'laws.FnExactHeir', WHERE WHAT IT READS IS OF BULK AT MOST 1048576: true; the input reads as it did. -/
def fnExactHeirUptoRow : OpenClaim := { program := "yteendofaefgmiaa", sum := "f50067010712034ddccbb5377e397ab7481e54fea065e55c2dc58ab8aa3a901d", func := "loop.example/g00470/laws.FnExactHeir", spec := "fnExactHeir", apart := false, narrowed := true }
def FnExactHeirUptoSaid : Prop := fnExactHeirUptoRow.holds Try.pinned (OpenSpec.upto fnExactHeirSpec)

/-- 'laws.FnExactJudgeLogs', WHERE WHAT IT READS IS OF BULK AT MOST 1048576: true; the input reads as it did. -/
def fnExactJudgeLogsUptoRow : OpenClaim := { program := "yteendofaefgmiaa", sum := "f50067010712034ddccbb5377e397ab7481e54fea065e55c2dc58ab8aa3a901d", func := "loop.example/g00470/laws.FnExactJudgeLogs", spec := "fnExactJudgeLogs", apart := false, narrowed := true }
def FnExactJudgeLogsUptoSaid : Prop := fnExactJudgeLogsUptoRow.holds Try.pinned (OpenSpec.upto fnExactJudgeLogsSpec)

/-- 'laws.FnExactBoxNew', WHERE WHAT IT READS IS OF BULK AT MOST 1048576: true; the input reads as it did. -/
def fnExactBoxNewUptoRow : OpenClaim := { program := "yteendofaefgmiaa", sum := "f50067010712034ddccbb5377e397ab7481e54fea065e55c2dc58ab8aa3a901d", func := "loop.example/g00470/laws.FnExactBoxNew", spec := "fnExactBoxNew", apart := false, narrowed := true }
def FnExactBoxNewUptoSaid : Prop := fnExactBoxNewUptoRow.holds Try.pinned (OpenSpec.upto fnExactBoxNewSpec)

/-- 'laws.FnExactAccept', WHERE WHAT IT READS IS OF BULK AT MOST 1048576: true; the input reads as it did. -/
def fnExactAcceptUptoRow : OpenClaim := { program := "yteendofaefgmiaa", sum := "f50067010712034ddccbb5377e397ab7481e54fea065e55c2dc58ab8aa3a901d", func := "loop.example/g00470/laws.FnExactAccept", spec := "fnExactAccept", apart := false, narrowed := true }
def FnExactAcceptUptoSaid : Prop := fnExactAcceptUptoRow.holds Try.pinned (OpenSpec.upto fnExactAcceptSpec)

end Rows
end Go.Proofs.Yteendofaefgmiaa
