/-
  No cell of these rows narrows 'for every input' (looked for: loops, veiled, ifaces, maps, wideKeys, modest, calm, conditions, laid).
  DERIVED. THE GIVEN ROWS OF THIS SEAT. 8 by the template 'for every input the law returns true; each argument reads behind the call as it read before'; 0 by the template 'total and deterministic' (their statements: YtonkofgdncgolaaTotals.lean).
  GIVEN WITH THE SEED: the statements are not yours to turn. If you find one false, say at which input.
  Laid BY PROGRAM, IN A SANDBOX (cutbox-rows.mjs): the forced cells as the released guide's own fill.sh prints them over the translation 484be04c744126ac… (all of the seat's roots in one cut). By AI agents, Wed Nov 11 2026. No macro, syntax, notation, axiom, sorry.
-/
import Derived.Test.YtonkofgdncgolaaChecked
import GoSem.Claim
import GoSem.ClaimJoined
import GoSem.ClaimMapViews
import Derived.JoinedTies
import Derived.KernelRfl
namespace Go.Proofs.Ytonkofgdncgolaa
/- THE CELL 'sum', in the pinned program and in every row, IS THE sha256 OF THE DUMP (.gsa) THAT YtonkofgdncgolaaProg.lean LOADS. Nothing in Lean hashes anything: it is a label: what it is worth is what the hold of that sum in a sandbox is worth. -/
noncomputable def Try.pinned : Pinned := { name := "ytonkofgdncgolaa", sum := "484be04c744126ac523eab84b75341beda7cab903ea868852e1a3c9b5e48dccf", checked := Try.checked }
namespace Rows
def none {H : Type} : Left H := { results := [], args := [] }

/-- 'laws.FnExactRegOk': WHATEVER THE INPUT: true; the input reads as it did. -/
def fnExactRegOkSpec : ChangeSpec := { name := "fnExactRegOk", fn := fun _ => fun
  | [d] => { results := [.lit (.bool true)], args := [d] }
  | _ => none }
def fnExactRegOkRow : OpenClaim := { program := "ytonkofgdncgolaa", sum := "484be04c744126ac523eab84b75341beda7cab903ea868852e1a3c9b5e48dccf", func := "loop.example/g00470/laws.FnExactRegOk", spec := "fnExactRegOk", apart := false }
def FnExactRegOkSaid : Prop := fnExactRegOkRow.holds Try.pinned (OpenSpec.ofChange fnExactRegOkSpec)

/-- ITS FALSE NEIGHBOUR: 'it returns false'. Refute it at one input. -/
def fnExactRegOkWrong : ChangeSpec := { name := "fnExactRegOk", fn := fun _ => fun
  | [d] => { results := [.lit (.bool false)], args := [d] }
  | _ => none }
def FnExactRegOkWrongFalsely : Prop := fnExactRegOkRow.holds Try.pinned (OpenSpec.ofChange fnExactRegOkWrong)

/-- 'laws.FnExactGates': WHATEVER THE INPUT: true; the input reads as it did. -/
def fnExactGatesSpec : ChangeSpec := { name := "fnExactGates", fn := fun _ => fun
  | [d] => { results := [.lit (.bool true)], args := [d] }
  | _ => none }
def fnExactGatesRow : OpenClaim := { program := "ytonkofgdncgolaa", sum := "484be04c744126ac523eab84b75341beda7cab903ea868852e1a3c9b5e48dccf", func := "loop.example/g00470/laws.FnExactGates", spec := "fnExactGates", apart := false }
def FnExactGatesSaid : Prop := fnExactGatesRow.holds Try.pinned (OpenSpec.ofChange fnExactGatesSpec)

/-- ITS FALSE NEIGHBOUR: 'it returns false'. Refute it at one input. -/
def fnExactGatesWrong : ChangeSpec := { name := "fnExactGates", fn := fun _ => fun
  | [d] => { results := [.lit (.bool false)], args := [d] }
  | _ => none }
def FnExactGatesWrongFalsely : Prop := fnExactGatesRow.holds Try.pinned (OpenSpec.ofChange fnExactGatesWrong)

/-- 'laws.FnExactMinderOk': WHATEVER THE INPUT: true; the input reads as it did. -/
def fnExactMinderOkSpec : ChangeSpec := { name := "fnExactMinderOk", fn := fun _ => fun
  | [d] => { results := [.lit (.bool true)], args := [d] }
  | _ => none }
def fnExactMinderOkRow : OpenClaim := { program := "ytonkofgdncgolaa", sum := "484be04c744126ac523eab84b75341beda7cab903ea868852e1a3c9b5e48dccf", func := "loop.example/g00470/laws.FnExactMinderOk", spec := "fnExactMinderOk", apart := false }
def FnExactMinderOkSaid : Prop := fnExactMinderOkRow.holds Try.pinned (OpenSpec.ofChange fnExactMinderOkSpec)

/-- ITS FALSE NEIGHBOUR: 'it returns false'. Refute it at one input. -/
def fnExactMinderOkWrong : ChangeSpec := { name := "fnExactMinderOk", fn := fun _ => fun
  | [d] => { results := [.lit (.bool false)], args := [d] }
  | _ => none }
def FnExactMinderOkWrongFalsely : Prop := fnExactMinderOkRow.holds Try.pinned (OpenSpec.ofChange fnExactMinderOkWrong)

/-- 'laws.FnExactMinds': WHATEVER THE INPUT: true; the input reads as it did. -/
def fnExactMindsSpec : ChangeSpec := { name := "fnExactMinds", fn := fun _ => fun
  | [d1, d2, d3] => { results := [.lit (.bool true)], args := [d1, d2, d3] }
  | _ => none }
def fnExactMindsRow : OpenClaim := { program := "ytonkofgdncgolaa", sum := "484be04c744126ac523eab84b75341beda7cab903ea868852e1a3c9b5e48dccf", func := "loop.example/g00470/laws.FnExactMinds", spec := "fnExactMinds", apart := false }
def FnExactMindsSaid : Prop := fnExactMindsRow.holds Try.pinned (OpenSpec.ofChange fnExactMindsSpec)

/-- ITS FALSE NEIGHBOUR: 'it returns false'. Refute it at one input. -/
def fnExactMindsWrong : ChangeSpec := { name := "fnExactMinds", fn := fun _ => fun
  | [d1, d2, d3] => { results := [.lit (.bool false)], args := [d1, d2, d3] }
  | _ => none }
def FnExactMindsWrongFalsely : Prop := fnExactMindsRow.holds Try.pinned (OpenSpec.ofChange fnExactMindsWrong)

/-- 'laws.FnExactPairs': WHATEVER THE INPUT: true; the input reads as it did. -/
def fnExactPairsSpec : ChangeSpec := { name := "fnExactPairs", fn := fun _ => fun
  | [d1, d2, d3, d4] => { results := [.lit (.bool true)], args := [d1, d2, d3, d4] }
  | _ => none }
def fnExactPairsRow : OpenClaim := { program := "ytonkofgdncgolaa", sum := "484be04c744126ac523eab84b75341beda7cab903ea868852e1a3c9b5e48dccf", func := "loop.example/g00470/laws.FnExactPairs", spec := "fnExactPairs", apart := false }
def FnExactPairsSaid : Prop := fnExactPairsRow.holds Try.pinned (OpenSpec.ofChange fnExactPairsSpec)

/-- ITS FALSE NEIGHBOUR: 'it returns false'. Refute it at one input. -/
def fnExactPairsWrong : ChangeSpec := { name := "fnExactPairs", fn := fun _ => fun
  | [d1, d2, d3, d4] => { results := [.lit (.bool false)], args := [d1, d2, d3, d4] }
  | _ => none }
def FnExactPairsWrongFalsely : Prop := fnExactPairsRow.holds Try.pinned (OpenSpec.ofChange fnExactPairsWrong)

/-- 'laws.FnExactNote': WHATEVER THE INPUT: true; the input reads as it did. -/
def fnExactNoteSpec : ChangeSpec := { name := "fnExactNote", fn := fun _ => fun
  | [d1, d2] => { results := [.lit (.bool true)], args := [d1, d2] }
  | _ => none }
def fnExactNoteRow : OpenClaim := { program := "ytonkofgdncgolaa", sum := "484be04c744126ac523eab84b75341beda7cab903ea868852e1a3c9b5e48dccf", func := "loop.example/g00470/laws.FnExactNote", spec := "fnExactNote", apart := false }
def FnExactNoteSaid : Prop := fnExactNoteRow.holds Try.pinned (OpenSpec.ofChange fnExactNoteSpec)

/-- ITS FALSE NEIGHBOUR: 'it returns false'. Refute it at one input. -/
def fnExactNoteWrong : ChangeSpec := { name := "fnExactNote", fn := fun _ => fun
  | [d1, d2] => { results := [.lit (.bool false)], args := [d1, d2] }
  | _ => none }
def FnExactNoteWrongFalsely : Prop := fnExactNoteRow.holds Try.pinned (OpenSpec.ofChange fnExactNoteWrong)

/-- 'laws.FnExactTake': WHATEVER THE INPUT: true; the input reads as it did. -/
def fnExactTakeSpec : ChangeSpec := { name := "fnExactTake", fn := fun _ => fun
  | [d1, d2, d3] => { results := [.lit (.bool true)], args := [d1, d2, d3] }
  | _ => none }
def fnExactTakeRow : OpenClaim := { program := "ytonkofgdncgolaa", sum := "484be04c744126ac523eab84b75341beda7cab903ea868852e1a3c9b5e48dccf", func := "loop.example/g00470/laws.FnExactTake", spec := "fnExactTake", apart := false }
def FnExactTakeSaid : Prop := fnExactTakeRow.holds Try.pinned (OpenSpec.ofChange fnExactTakeSpec)

/-- ITS FALSE NEIGHBOUR: 'it returns false'. Refute it at one input. -/
def fnExactTakeWrong : ChangeSpec := { name := "fnExactTake", fn := fun _ => fun
  | [d1, d2, d3] => { results := [.lit (.bool false)], args := [d1, d2, d3] }
  | _ => none }
def FnExactTakeWrongFalsely : Prop := fnExactTakeRow.holds Try.pinned (OpenSpec.ofChange fnExactTakeWrong)

/-- 'laws.FnExactReleased': WHATEVER THE INPUT: true; the input reads as it did. -/
def fnExactReleasedSpec : ChangeSpec := { name := "fnExactReleased", fn := fun _ => fun
  | [d] => { results := [.lit (.bool true)], args := [d] }
  | _ => none }
def fnExactReleasedRow : OpenClaim := { program := "ytonkofgdncgolaa", sum := "484be04c744126ac523eab84b75341beda7cab903ea868852e1a3c9b5e48dccf", func := "loop.example/g00470/laws.FnExactReleased", spec := "fnExactReleased", apart := false }
def FnExactReleasedSaid : Prop := fnExactReleasedRow.holds Try.pinned (OpenSpec.ofChange fnExactReleasedSpec)

/-- ITS FALSE NEIGHBOUR: 'it returns false'. Refute it at one input. -/
def fnExactReleasedWrong : ChangeSpec := { name := "fnExactReleased", fn := fun _ => fun
  | [d] => { results := [.lit (.bool false)], args := [d] }
  | _ => none }
def FnExactReleasedWrongFalsely : Prop := fnExactReleasedRow.holds Try.pinned (OpenSpec.ofChange fnExactReleasedWrong)

/- THE SECOND FORM. 'bulk': how many values and letters a reading holds, each counted each time it is reached (what is shared counts as often as it is met; a slice's spare places count too). A statement '..UptoSaid' is the law's where the arguments, and the package variables that the reading takes, are together of bulk at most 1048576: NARROWER than '..Said'. Prove '..Said' where nothing that the law and all that it calls make is longer than what came in: it says more and counts as full. Else prove '..UptoSaid'. A law counts once. -/
mutual
def uptoBulk {H : Type} : DataW H → Nat
  | .lit (.string bytes) => bytes.length + 1
  | .lit _ => 1
  | .nil => 1
  | .ptr d => uptoBulk d + 1
  | .slice elems spare => uptoBulkAll elems + uptoBulkAll spare + 1
  | .agg parts => uptoBulkAll parts + 1
  | .iface _ d => uptoBulk d + 1
  | .map entries => uptoBulkEntries entries + 1
  | .held _ => 1
def uptoBulkAll {H : Type} : List (DataW H) → Nat
  | [] => 0
  | d :: r => uptoBulk d + uptoBulkAll r
def uptoBulkEntries {H : Type} : List (Lit × DataW H) → Nat
  | [] => 0
  | x :: r => uptoBulkEntry x + uptoBulkEntries r
def uptoBulkEntry {H : Type} : Lit × DataW H → Nat
  | (.string bytes, d) => bytes.length + uptoBulk d + 1
  | (_, d) => uptoBulk d + 1
 end
def uptoSmall : (H : Type) → List (DataW H) → Bool := fun _ ds => decide (uptoBulkAll ds ≤ 1048576)
def OpenSpec.upto (s : _root_.Go.ChangeSpec) : _root_.Go.OpenSpec := { _root_.Go.OpenSpec.ofChange s with cond := some uptoSmall }

/-- 'laws.FnExactRegOk', WHERE WHAT IT READS IS OF BULK AT MOST 1048576: true; the input reads as it did. -/
def fnExactRegOkUptoRow : OpenClaim := { program := "ytonkofgdncgolaa", sum := "484be04c744126ac523eab84b75341beda7cab903ea868852e1a3c9b5e48dccf", func := "loop.example/g00470/laws.FnExactRegOk", spec := "fnExactRegOk", apart := false, narrowed := true }
def FnExactRegOkUptoSaid : Prop := fnExactRegOkUptoRow.holds Try.pinned (OpenSpec.upto fnExactRegOkSpec)

/-- 'laws.FnExactGates', WHERE WHAT IT READS IS OF BULK AT MOST 1048576: true; the input reads as it did. -/
def fnExactGatesUptoRow : OpenClaim := { program := "ytonkofgdncgolaa", sum := "484be04c744126ac523eab84b75341beda7cab903ea868852e1a3c9b5e48dccf", func := "loop.example/g00470/laws.FnExactGates", spec := "fnExactGates", apart := false, narrowed := true }
def FnExactGatesUptoSaid : Prop := fnExactGatesUptoRow.holds Try.pinned (OpenSpec.upto fnExactGatesSpec)

/-- 'laws.FnExactMinderOk', WHERE WHAT IT READS IS OF BULK AT MOST 1048576: true; the input reads as it did. -/
def fnExactMinderOkUptoRow : OpenClaim := { program := "ytonkofgdncgolaa", sum := "484be04c744126ac523eab84b75341beda7cab903ea868852e1a3c9b5e48dccf", func := "loop.example/g00470/laws.FnExactMinderOk", spec := "fnExactMinderOk", apart := false, narrowed := true }
def FnExactMinderOkUptoSaid : Prop := fnExactMinderOkUptoRow.holds Try.pinned (OpenSpec.upto fnExactMinderOkSpec)

/-- 'laws.FnExactMinds', WHERE WHAT IT READS IS OF BULK AT MOST 1048576: true; the input reads as it did. -/
def fnExactMindsUptoRow : OpenClaim := { program := "ytonkofgdncgolaa", sum := "484be04c744126ac523eab84b75341beda7cab903ea868852e1a3c9b5e48dccf", func := "loop.example/g00470/laws.FnExactMinds", spec := "fnExactMinds", apart := false, narrowed := true }
def FnExactMindsUptoSaid : Prop := fnExactMindsUptoRow.holds Try.pinned (OpenSpec.upto fnExactMindsSpec)

/-- 'laws.FnExactPairs', WHERE WHAT IT READS IS OF BULK AT MOST 1048576: true; the input reads as it did. -/
def fnExactPairsUptoRow : OpenClaim := { program := "ytonkofgdncgolaa", sum := "484be04c744126ac523eab84b75341beda7cab903ea868852e1a3c9b5e48dccf", func := "loop.example/g00470/laws.FnExactPairs", spec := "fnExactPairs", apart := false, narrowed := true }
def FnExactPairsUptoSaid : Prop := fnExactPairsUptoRow.holds Try.pinned (OpenSpec.upto fnExactPairsSpec)

/-- 'laws.FnExactNote', WHERE WHAT IT READS IS OF BULK AT MOST 1048576: true; the input reads as it did. -/
def fnExactNoteUptoRow : OpenClaim := { program := "ytonkofgdncgolaa", sum := "484be04c744126ac523eab84b75341beda7cab903ea868852e1a3c9b5e48dccf", func := "loop.example/g00470/laws.FnExactNote", spec := "fnExactNote", apart := false, narrowed := true }
def FnExactNoteUptoSaid : Prop := fnExactNoteUptoRow.holds Try.pinned (OpenSpec.upto fnExactNoteSpec)

/-- 'laws.FnExactTake', WHERE WHAT IT READS IS OF BULK AT MOST 1048576: true; the input reads as it did. -/
def fnExactTakeUptoRow : OpenClaim := { program := "ytonkofgdncgolaa", sum := "484be04c744126ac523eab84b75341beda7cab903ea868852e1a3c9b5e48dccf", func := "loop.example/g00470/laws.FnExactTake", spec := "fnExactTake", apart := false, narrowed := true }
def FnExactTakeUptoSaid : Prop := fnExactTakeUptoRow.holds Try.pinned (OpenSpec.upto fnExactTakeSpec)

/-- 'laws.FnExactReleased', WHERE WHAT IT READS IS OF BULK AT MOST 1048576: true; the input reads as it did. -/
def fnExactReleasedUptoRow : OpenClaim := { program := "ytonkofgdncgolaa", sum := "484be04c744126ac523eab84b75341beda7cab903ea868852e1a3c9b5e48dccf", func := "loop.example/g00470/laws.FnExactReleased", spec := "fnExactReleased", apart := false, narrowed := true }
def FnExactReleasedUptoSaid : Prop := fnExactReleasedUptoRow.holds Try.pinned (OpenSpec.upto fnExactReleasedSpec)

end Rows
end Go.Proofs.Ytonkofgdncgolaa
