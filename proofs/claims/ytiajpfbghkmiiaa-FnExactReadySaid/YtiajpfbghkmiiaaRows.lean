/-
  No cell of these rows narrows 'for every input' (looked for: loops, veiled, ifaces, maps, wideKeys, modest, calm, conditions, laid).
  DERIVED. THE GIVEN ROWS OF THIS SEAT. 12 by the template 'for every input the law returns true; each argument reads behind the call as it read before'; 0 by the template 'total and deterministic' (their statements: YtiajpfbghkmiiaaTotals.lean).
  GIVEN WITH THE SEED: the statements are not yours to turn. If you find one false, say at which input.
  Laid BY PROGRAM, IN A SANDBOX (cutbox-rows.mjs): the forced cells as the released guide's own fill.sh prints them over the translation 1e3e8b1b69353d76… (all of the seat's roots in one cut). By AI agents, Wed Nov 11 2026. No macro, syntax, notation, axiom, sorry.
-/
import Derived.Test.YtiajpfbghkmiiaaChecked
import GoSem.Claim
import GoSem.ClaimJoined
import GoSem.ClaimMapViews
import Derived.JoinedTies
import Derived.KernelRfl
namespace Go.Proofs.Ytiajpfbghkmiiaa
/- THE CELL 'sum', in the pinned program and in every row, IS THE sha256 OF THE DUMP (.gsa) THAT YtiajpfbghkmiiaaProg.lean LOADS. Nothing in Lean hashes anything: it is a label: what it is worth is what the hold of that sum in a sandbox is worth. -/
noncomputable def Try.pinned : Pinned := { name := "ytiajpfbghkmiiaa", sum := "1e3e8b1b69353d764d7b9bebc33fc2a256f43faf9e4a4850ce8a622a8f176b5c", checked := Try.checked }
namespace Rows
def none {H : Type} : Left H := { results := [], args := [] }

/-- 'laws.FnExactReady': WHATEVER THE INPUT: true; the input reads as it did. -/
def fnExactReadySpec : ChangeSpec := { name := "fnExactReady", fn := fun _ => fun
  | [d1, d2] => { results := [.lit (.bool true)], args := [d1, d2] }
  | _ => none }
def fnExactReadyRow : OpenClaim := { program := "ytiajpfbghkmiiaa", sum := "1e3e8b1b69353d764d7b9bebc33fc2a256f43faf9e4a4850ce8a622a8f176b5c", func := "loop.example/g00470/laws.FnExactReady", spec := "fnExactReady", apart := false }
def FnExactReadySaid : Prop := fnExactReadyRow.holds Try.pinned (OpenSpec.ofChange fnExactReadySpec)

/-- ITS FALSE NEIGHBOUR: 'it returns false'. Refute it at one input. -/
def fnExactReadyWrong : ChangeSpec := { name := "fnExactReady", fn := fun _ => fun
  | [d1, d2] => { results := [.lit (.bool false)], args := [d1, d2] }
  | _ => none }
def FnExactReadyWrongFalsely : Prop := fnExactReadyRow.holds Try.pinned (OpenSpec.ofChange fnExactReadyWrong)

/-- 'laws.FnExactGates': WHATEVER THE INPUT: true; the input reads as it did. -/
def fnExactGatesSpec : ChangeSpec := { name := "fnExactGates", fn := fun _ => fun
  | [d] => { results := [.lit (.bool true)], args := [d] }
  | _ => none }
def fnExactGatesRow : OpenClaim := { program := "ytiajpfbghkmiiaa", sum := "1e3e8b1b69353d764d7b9bebc33fc2a256f43faf9e4a4850ce8a622a8f176b5c", func := "loop.example/g00470/laws.FnExactGates", spec := "fnExactGates", apart := false }
def FnExactGatesSaid : Prop := fnExactGatesRow.holds Try.pinned (OpenSpec.ofChange fnExactGatesSpec)

/-- ITS FALSE NEIGHBOUR: 'it returns false'. Refute it at one input. -/
def fnExactGatesWrong : ChangeSpec := { name := "fnExactGates", fn := fun _ => fun
  | [d] => { results := [.lit (.bool false)], args := [d] }
  | _ => none }
def FnExactGatesWrongFalsely : Prop := fnExactGatesRow.holds Try.pinned (OpenSpec.ofChange fnExactGatesWrong)

/-- 'laws.FnExactMinderOk': WHATEVER THE INPUT: true; the input reads as it did. -/
def fnExactMinderOkSpec : ChangeSpec := { name := "fnExactMinderOk", fn := fun _ => fun
  | [d] => { results := [.lit (.bool true)], args := [d] }
  | _ => none }
def fnExactMinderOkRow : OpenClaim := { program := "ytiajpfbghkmiiaa", sum := "1e3e8b1b69353d764d7b9bebc33fc2a256f43faf9e4a4850ce8a622a8f176b5c", func := "loop.example/g00470/laws.FnExactMinderOk", spec := "fnExactMinderOk", apart := false }
def FnExactMinderOkSaid : Prop := fnExactMinderOkRow.holds Try.pinned (OpenSpec.ofChange fnExactMinderOkSpec)

/-- ITS FALSE NEIGHBOUR: 'it returns false'. Refute it at one input. -/
def fnExactMinderOkWrong : ChangeSpec := { name := "fnExactMinderOk", fn := fun _ => fun
  | [d] => { results := [.lit (.bool false)], args := [d] }
  | _ => none }
def FnExactMinderOkWrongFalsely : Prop := fnExactMinderOkRow.holds Try.pinned (OpenSpec.ofChange fnExactMinderOkWrong)

/-- 'laws.FnExactMinds': WHATEVER THE INPUT: true; the input reads as it did. -/
def fnExactMindsSpec : ChangeSpec := { name := "fnExactMinds", fn := fun _ => fun
  | [d1, d2, d3] => { results := [.lit (.bool true)], args := [d1, d2, d3] }
  | _ => none }
def fnExactMindsRow : OpenClaim := { program := "ytiajpfbghkmiiaa", sum := "1e3e8b1b69353d764d7b9bebc33fc2a256f43faf9e4a4850ce8a622a8f176b5c", func := "loop.example/g00470/laws.FnExactMinds", spec := "fnExactMinds", apart := false }
def FnExactMindsSaid : Prop := fnExactMindsRow.holds Try.pinned (OpenSpec.ofChange fnExactMindsSpec)

/-- ITS FALSE NEIGHBOUR: 'it returns false'. Refute it at one input. -/
def fnExactMindsWrong : ChangeSpec := { name := "fnExactMinds", fn := fun _ => fun
  | [d1, d2, d3] => { results := [.lit (.bool false)], args := [d1, d2, d3] }
  | _ => none }
def FnExactMindsWrongFalsely : Prop := fnExactMindsRow.holds Try.pinned (OpenSpec.ofChange fnExactMindsWrong)

/-- 'laws.FnExactPairs': WHATEVER THE INPUT: true; the input reads as it did. -/
def fnExactPairsSpec : ChangeSpec := { name := "fnExactPairs", fn := fun _ => fun
  | [d1, d2, d3, d4] => { results := [.lit (.bool true)], args := [d1, d2, d3, d4] }
  | _ => none }
def fnExactPairsRow : OpenClaim := { program := "ytiajpfbghkmiiaa", sum := "1e3e8b1b69353d764d7b9bebc33fc2a256f43faf9e4a4850ce8a622a8f176b5c", func := "loop.example/g00470/laws.FnExactPairs", spec := "fnExactPairs", apart := false }
def FnExactPairsSaid : Prop := fnExactPairsRow.holds Try.pinned (OpenSpec.ofChange fnExactPairsSpec)

/-- ITS FALSE NEIGHBOUR: 'it returns false'. Refute it at one input. -/
def fnExactPairsWrong : ChangeSpec := { name := "fnExactPairs", fn := fun _ => fun
  | [d1, d2, d3, d4] => { results := [.lit (.bool false)], args := [d1, d2, d3, d4] }
  | _ => none }
def FnExactPairsWrongFalsely : Prop := fnExactPairsRow.holds Try.pinned (OpenSpec.ofChange fnExactPairsWrong)

/-- 'laws.FnExactNote': WHATEVER THE INPUT: true; the input reads as it did. -/
def fnExactNoteSpec : ChangeSpec := { name := "fnExactNote", fn := fun _ => fun
  | [d1, d2] => { results := [.lit (.bool true)], args := [d1, d2] }
  | _ => none }
def fnExactNoteRow : OpenClaim := { program := "ytiajpfbghkmiiaa", sum := "1e3e8b1b69353d764d7b9bebc33fc2a256f43faf9e4a4850ce8a622a8f176b5c", func := "loop.example/g00470/laws.FnExactNote", spec := "fnExactNote", apart := false }
def FnExactNoteSaid : Prop := fnExactNoteRow.holds Try.pinned (OpenSpec.ofChange fnExactNoteSpec)

/-- ITS FALSE NEIGHBOUR: 'it returns false'. Refute it at one input. -/
def fnExactNoteWrong : ChangeSpec := { name := "fnExactNote", fn := fun _ => fun
  | [d1, d2] => { results := [.lit (.bool false)], args := [d1, d2] }
  | _ => none }
def FnExactNoteWrongFalsely : Prop := fnExactNoteRow.holds Try.pinned (OpenSpec.ofChange fnExactNoteWrong)

/-- 'laws.FnExactReleased': WHATEVER THE INPUT: true; the input reads as it did. -/
def fnExactReleasedSpec : ChangeSpec := { name := "fnExactReleased", fn := fun _ => fun
  | [d] => { results := [.lit (.bool true)], args := [d] }
  | _ => none }
def fnExactReleasedRow : OpenClaim := { program := "ytiajpfbghkmiiaa", sum := "1e3e8b1b69353d764d7b9bebc33fc2a256f43faf9e4a4850ce8a622a8f176b5c", func := "loop.example/g00470/laws.FnExactReleased", spec := "fnExactReleased", apart := false }
def FnExactReleasedSaid : Prop := fnExactReleasedRow.holds Try.pinned (OpenSpec.ofChange fnExactReleasedSpec)

/-- ITS FALSE NEIGHBOUR: 'it returns false'. Refute it at one input. -/
def fnExactReleasedWrong : ChangeSpec := { name := "fnExactReleased", fn := fun _ => fun
  | [d] => { results := [.lit (.bool false)], args := [d] }
  | _ => none }
def FnExactReleasedWrongFalsely : Prop := fnExactReleasedRow.holds Try.pinned (OpenSpec.ofChange fnExactReleasedWrong)

/-- 'laws.FnExactSame': WHATEVER THE INPUT: true; the input reads as it did. -/
def fnExactSameSpec : ChangeSpec := { name := "fnExactSame", fn := fun _ => fun
  | [d1, d2] => { results := [.lit (.bool true)], args := [d1, d2] }
  | _ => none }
def fnExactSameRow : OpenClaim := { program := "ytiajpfbghkmiiaa", sum := "1e3e8b1b69353d764d7b9bebc33fc2a256f43faf9e4a4850ce8a622a8f176b5c", func := "loop.example/g00470/laws.FnExactSame", spec := "fnExactSame", unfollowed := true, recurses := true, apart := false }
def FnExactSameSaid : Prop := fnExactSameRow.holds Try.pinned (OpenSpec.ofChange fnExactSameSpec)

/-- ITS FALSE NEIGHBOUR: 'it returns false'. Refute it at one input. -/
def fnExactSameWrong : ChangeSpec := { name := "fnExactSame", fn := fun _ => fun
  | [d1, d2] => { results := [.lit (.bool false)], args := [d1, d2] }
  | _ => none }
def FnExactSameWrongFalsely : Prop := fnExactSameRow.holds Try.pinned (OpenSpec.ofChange fnExactSameWrong)

/-- 'laws.FnExactNetOk': WHATEVER THE INPUT: true; the input reads as it did. -/
def fnExactNetOkSpec : ChangeSpec := { name := "fnExactNetOk", fn := fun _ => fun
  | [d] => { results := [.lit (.bool true)], args := [d] }
  | _ => none }
def fnExactNetOkRow : OpenClaim := { program := "ytiajpfbghkmiiaa", sum := "1e3e8b1b69353d764d7b9bebc33fc2a256f43faf9e4a4850ce8a622a8f176b5c", func := "loop.example/g00470/laws.FnExactNetOk", spec := "fnExactNetOk", apart := false }
def FnExactNetOkSaid : Prop := fnExactNetOkRow.holds Try.pinned (OpenSpec.ofChange fnExactNetOkSpec)

/-- ITS FALSE NEIGHBOUR: 'it returns false'. Refute it at one input. -/
def fnExactNetOkWrong : ChangeSpec := { name := "fnExactNetOk", fn := fun _ => fun
  | [d] => { results := [.lit (.bool false)], args := [d] }
  | _ => none }
def FnExactNetOkWrongFalsely : Prop := fnExactNetOkRow.holds Try.pinned (OpenSpec.ofChange fnExactNetOkWrong)

/-- 'laws.FnExactPasses': WHATEVER THE INPUT: true; the input reads as it did. -/
def fnExactPassesSpec : ChangeSpec := { name := "fnExactPasses", fn := fun _ => fun
  | [d1, d2] => { results := [.lit (.bool true)], args := [d1, d2] }
  | _ => none }
def fnExactPassesRow : OpenClaim := { program := "ytiajpfbghkmiiaa", sum := "1e3e8b1b69353d764d7b9bebc33fc2a256f43faf9e4a4850ce8a622a8f176b5c", func := "loop.example/g00470/laws.FnExactPasses", spec := "fnExactPasses", apart := false }
def FnExactPassesSaid : Prop := fnExactPassesRow.holds Try.pinned (OpenSpec.ofChange fnExactPassesSpec)

/-- ITS FALSE NEIGHBOUR: 'it returns false'. Refute it at one input. -/
def fnExactPassesWrong : ChangeSpec := { name := "fnExactPasses", fn := fun _ => fun
  | [d1, d2] => { results := [.lit (.bool false)], args := [d1, d2] }
  | _ => none }
def FnExactPassesWrongFalsely : Prop := fnExactPassesRow.holds Try.pinned (OpenSpec.ofChange fnExactPassesWrong)

/-- 'laws.FnRegs': WHATEVER THE INPUT: true; the input reads as it did. -/
def fnRegsSpec : ChangeSpec := { name := "fnRegs", fn := fun _ => fun
  | [d] => { results := [.lit (.bool true)], args := [d] }
  | _ => none }
def fnRegsRow : OpenClaim := { program := "ytiajpfbghkmiiaa", sum := "1e3e8b1b69353d764d7b9bebc33fc2a256f43faf9e4a4850ce8a622a8f176b5c", func := "loop.example/g00470/laws.FnRegs", spec := "fnRegs", apart := false }
def FnRegsSaid : Prop := fnRegsRow.holds Try.pinned (OpenSpec.ofChange fnRegsSpec)

/-- ITS FALSE NEIGHBOUR: 'it returns false'. Refute it at one input. -/
def fnRegsWrong : ChangeSpec := { name := "fnRegs", fn := fun _ => fun
  | [d] => { results := [.lit (.bool false)], args := [d] }
  | _ => none }
def FnRegsWrongFalsely : Prop := fnRegsRow.holds Try.pinned (OpenSpec.ofChange fnRegsWrong)

/-- 'laws.FnMinders': WHATEVER THE INPUT: true; the input reads as it did. -/
def fnMindersSpec : ChangeSpec := { name := "fnMinders", fn := fun _ => fun
  | [d] => { results := [.lit (.bool true)], args := [d] }
  | _ => none }
def fnMindersRow : OpenClaim := { program := "ytiajpfbghkmiiaa", sum := "1e3e8b1b69353d764d7b9bebc33fc2a256f43faf9e4a4850ce8a622a8f176b5c", func := "loop.example/g00470/laws.FnMinders", spec := "fnMinders", apart := false }
def FnMindersSaid : Prop := fnMindersRow.holds Try.pinned (OpenSpec.ofChange fnMindersSpec)

/-- ITS FALSE NEIGHBOUR: 'it returns false'. Refute it at one input. -/
def fnMindersWrong : ChangeSpec := { name := "fnMinders", fn := fun _ => fun
  | [d] => { results := [.lit (.bool false)], args := [d] }
  | _ => none }
def FnMindersWrongFalsely : Prop := fnMindersRow.holds Try.pinned (OpenSpec.ofChange fnMindersWrong)

/- THE SECOND FORM. 'bulk': how many values and letters a reading holds, each counted each time it is reached (what is shared counts as often as it is met; a slice's spare places count too). A statement '..UptoSaid' is the law's where the arguments, and the package variables that the reading takes, are together of bulk at most 1048576: NARROWER than '..Said'. Prove '..Said' where nothing that the law and all that it calls make is longer than what came in: it says more and counts as full. Else prove '..UptoSaid'. A law counts once. -/
mutual
def uptoBulk {H : Type} : DataW H → Nat
  | .lit (.string bytes) => bytes.length + 1
  | .lit _ => 1
  | .nil => 1
  | .ptr d => uptoBulk d + 1
  | .slice elems spare => uptoBulkAll elems + uptoBulkAll spare + 1
  | .agg parts => uptoBulkAll parts + 1
  | .iface _ d => uptoBulk d + 1
  | .map entries => uptoBulkEntries entries + 1
  | .held _ => 1
def uptoBulkAll {H : Type} : List (DataW H) → Nat
  | [] => 0
  | d :: r => uptoBulk d + uptoBulkAll r
def uptoBulkEntries {H : Type} : List (Lit × DataW H) → Nat
  | [] => 0
  | x :: r => uptoBulkEntry x + uptoBulkEntries r
def uptoBulkEntry {H : Type} : Lit × DataW H → Nat
  | (.string bytes, d) => bytes.length + uptoBulk d + 1
  | (_, d) => uptoBulk d + 1
 end
def uptoSmall : (H : Type) → List (DataW H) → Bool := fun _ ds => decide (uptoBulkAll ds ≤ 1048576)
def OpenSpec.upto (s : _root_.Go.ChangeSpec) : _root_.Go.OpenSpec := { _root_.Go.OpenSpec.ofChange s with cond := some uptoSmall }

/-- 'laws.FnExactReady', WHERE WHAT IT READS IS OF BULK AT MOST 1048576: true; the input reads as it did. -/
def fnExactReadyUptoRow : OpenClaim := { program := "ytiajpfbghkmiiaa", sum := "1e3e8b1b69353d764d7b9bebc33fc2a256f43faf9e4a4850ce8a622a8f176b5c", func := "loop.example/g00470/laws.FnExactReady", spec := "fnExactReady", apart := false, narrowed := true }
def FnExactReadyUptoSaid : Prop := fnExactReadyUptoRow.holds Try.pinned (OpenSpec.upto fnExactReadySpec)

/-- 'laws.FnExactGates', WHERE WHAT IT READS IS OF BULK AT MOST 1048576: true; the input reads as it did. -/
def fnExactGatesUptoRow : OpenClaim := { program := "ytiajpfbghkmiiaa", sum := "1e3e8b1b69353d764d7b9bebc33fc2a256f43faf9e4a4850ce8a622a8f176b5c", func := "loop.example/g00470/laws.FnExactGates", spec := "fnExactGates", apart := false, narrowed := true }
def FnExactGatesUptoSaid : Prop := fnExactGatesUptoRow.holds Try.pinned (OpenSpec.upto fnExactGatesSpec)

/-- 'laws.FnExactMinderOk', WHERE WHAT IT READS IS OF BULK AT MOST 1048576: true; the input reads as it did. -/
def fnExactMinderOkUptoRow : OpenClaim := { program := "ytiajpfbghkmiiaa", sum := "1e3e8b1b69353d764d7b9bebc33fc2a256f43faf9e4a4850ce8a622a8f176b5c", func := "loop.example/g00470/laws.FnExactMinderOk", spec := "fnExactMinderOk", apart := false, narrowed := true }
def FnExactMinderOkUptoSaid : Prop := fnExactMinderOkUptoRow.holds Try.pinned (OpenSpec.upto fnExactMinderOkSpec)

/-- 'laws.FnExactMinds', WHERE WHAT IT READS IS OF BULK AT MOST 1048576: true; the input reads as it did. -/
def fnExactMindsUptoRow : OpenClaim := { program := "ytiajpfbghkmiiaa", sum := "1e3e8b1b69353d764d7b9bebc33fc2a256f43faf9e4a4850ce8a622a8f176b5c", func := "loop.example/g00470/laws.FnExactMinds", spec := "fnExactMinds", apart := false, narrowed := true }
def FnExactMindsUptoSaid : Prop := fnExactMindsUptoRow.holds Try.pinned (OpenSpec.upto fnExactMindsSpec)

/-- 'laws.FnExactPairs', WHERE WHAT IT READS IS OF BULK AT MOST 1048576: true; the input reads as it did. -/
def fnExactPairsUptoRow : OpenClaim := { program := "ytiajpfbghkmiiaa", sum := "1e3e8b1b69353d764d7b9bebc33fc2a256f43faf9e4a4850ce8a622a8f176b5c", func := "loop.example/g00470/laws.FnExactPairs", spec := "fnExactPairs", apart := false, narrowed := true }
def FnExactPairsUptoSaid : Prop := fnExactPairsUptoRow.holds Try.pinned (OpenSpec.upto fnExactPairsSpec)

/-- 'laws.FnExactNote', WHERE WHAT IT READS IS OF BULK AT MOST 1048576: true; the input reads as it did. -/
def fnExactNoteUptoRow : OpenClaim := { program := "ytiajpfbghkmiiaa", sum := "1e3e8b1b69353d764d7b9bebc33fc2a256f43faf9e4a4850ce8a622a8f176b5c", func := "loop.example/g00470/laws.FnExactNote", spec := "fnExactNote", apart := false, narrowed := true }
def FnExactNoteUptoSaid : Prop := fnExactNoteUptoRow.holds Try.pinned (OpenSpec.upto fnExactNoteSpec)

/-- 'laws.FnExactReleased', WHERE WHAT IT READS IS OF BULK AT MOST 1048576: true; the input reads as it did. -/
def fnExactReleasedUptoRow : OpenClaim := { program := "ytiajpfbghkmiiaa", sum := "1e3e8b1b69353d764d7b9bebc33fc2a256f43faf9e4a4850ce8a622a8f176b5c", func := "loop.example/g00470/laws.FnExactReleased", spec := "fnExactReleased", apart := false, narrowed := true }
def FnExactReleasedUptoSaid : Prop := fnExactReleasedUptoRow.holds Try.pinned (OpenSpec.upto fnExactReleasedSpec)

/-- 'laws.FnExactSame', WHERE WHAT IT READS IS OF BULK AT MOST 1048576: true; the input reads as it did. -/
def fnExactSameUptoRow : OpenClaim := { program := "ytiajpfbghkmiiaa", sum := "1e3e8b1b69353d764d7b9bebc33fc2a256f43faf9e4a4850ce8a622a8f176b5c", func := "loop.example/g00470/laws.FnExactSame", spec := "fnExactSame", unfollowed := true, recurses := true, apart := false, narrowed := true }
def FnExactSameUptoSaid : Prop := fnExactSameUptoRow.holds Try.pinned (OpenSpec.upto fnExactSameSpec)

/-- 'laws.FnExactNetOk', WHERE WHAT IT READS IS OF BULK AT MOST 1048576: true; the input reads as it did. -/
def fnExactNetOkUptoRow : OpenClaim := { program := "ytiajpfbghkmiiaa", sum := "1e3e8b1b69353d764d7b9bebc33fc2a256f43faf9e4a4850ce8a622a8f176b5c", func := "loop.example/g00470/laws.FnExactNetOk", spec := "fnExactNetOk", apart := false, narrowed := true }
def FnExactNetOkUptoSaid : Prop := fnExactNetOkUptoRow.holds Try.pinned (OpenSpec.upto fnExactNetOkSpec)

/-- 'laws.FnExactPasses', WHERE WHAT IT READS IS OF BULK AT MOST 1048576: true; the input reads as it did. -/
def fnExactPassesUptoRow : OpenClaim := { program := "ytiajpfbghkmiiaa", sum := "1e3e8b1b69353d764d7b9bebc33fc2a256f43faf9e4a4850ce8a622a8f176b5c", func := "loop.example/g00470/laws.FnExactPasses", spec := "fnExactPasses", apart := false, narrowed := true }
def FnExactPassesUptoSaid : Prop := fnExactPassesUptoRow.holds Try.pinned (OpenSpec.upto fnExactPassesSpec)

/-- 'laws.FnRegs', WHERE WHAT IT READS IS OF BULK AT MOST 1048576: true; the input reads as it did. -/
def fnRegsUptoRow : OpenClaim := { program := "ytiajpfbghkmiiaa", sum := "1e3e8b1b69353d764d7b9bebc33fc2a256f43faf9e4a4850ce8a622a8f176b5c", func := "loop.example/g00470/laws.FnRegs", spec := "fnRegs", apart := false, narrowed := true }
def FnRegsUptoSaid : Prop := fnRegsUptoRow.holds Try.pinned (OpenSpec.upto fnRegsSpec)

/-- 'laws.FnMinders', WHERE WHAT IT READS IS OF BULK AT MOST 1048576: true; the input reads as it did. -/
def fnMindersUptoRow : OpenClaim := { program := "ytiajpfbghkmiiaa", sum := "1e3e8b1b69353d764d7b9bebc33fc2a256f43faf9e4a4850ce8a622a8f176b5c", func := "loop.example/g00470/laws.FnMinders", spec := "fnMinders", apart := false, narrowed := true }
def FnMindersUptoSaid : Prop := fnMindersUptoRow.holds Try.pinned (OpenSpec.upto fnMindersSpec)

end Rows
end Go.Proofs.Ytiajpfbghkmiiaa
