/-
  No cell of these rows narrows 'for every input' (looked for: loops, veiled, ifaces, maps, wideKeys, modest, calm, conditions, laid).
  DERIVED. THE GIVEN ROWS OF THIS SEAT. 6 by the template 'for every input the law returns true; each argument reads behind the call as it read before'; 0 by the template 'total and deterministic' (their statements: YtfhaanknijlamaaTotals.lean).
  GIVEN WITH THE SEED: the statements are not yours to turn. If you find one false, say at which input.
  Laid BY PROGRAM, IN A SANDBOX (cutbox-rows.mjs): the forced cells as the released guide's own fill.sh prints them over the translation 57a041fdd2d68d51… (all of the seat's roots in one cut). By AI agents, Wed Nov 11 2026. No macro, syntax, notation, axiom, sorry.
-/
import Derived.Test.YtfhaanknijlamaaChecked
import GoSem.Claim
import GoSem.ClaimJoined
import GoSem.ClaimMapViews
import Derived.JoinedTies
import Derived.KernelRfl
namespace Go.Proofs.Ytfhaanknijlamaa
/- THE CELL 'sum', in the pinned program and in every row, IS THE sha256 OF THE DUMP (.gsa) THAT YtfhaanknijlamaaProg.lean LOADS. Nothing in Lean hashes anything: it is a label: what it is worth is what the hold of that sum in a sandbox is worth. -/
noncomputable def Try.pinned : Pinned := { name := "ytfhaanknijlamaa", sum := "57a041fdd2d68d516ca061428081eeb9f3c9769d23929a96c410d95f96a284e3", checked := Try.checked }
namespace Rows
def none {H : Type} : Left H := { results := [], args := [] }

/-- 'laws.FnBridges': WHATEVER THE INPUT: true; the input reads as it did. -/
def fnBridgesSpec : ChangeSpec := { name := "fnBridges", fn := fun _ => fun
  | [d] => { results := [.lit (.bool true)], args := [d] }
  | _ => none }
def fnBridgesRow : OpenClaim := { program := "ytfhaanknijlamaa", sum := "57a041fdd2d68d516ca061428081eeb9f3c9769d23929a96c410d95f96a284e3", func := "loop.example/g00470/laws.FnBridges", spec := "fnBridges", apart := false }
def FnBridgesSaid : Prop := fnBridgesRow.holds Try.pinned (OpenSpec.ofChange fnBridgesSpec)

/-- ITS FALSE NEIGHBOUR: 'it returns false'. Refute it at one input. -/
def fnBridgesWrong : ChangeSpec := { name := "fnBridges", fn := fun _ => fun
  | [d] => { results := [.lit (.bool false)], args := [d] }
  | _ => none }
def FnBridgesWrongFalsely : Prop := fnBridgesRow.holds Try.pinned (OpenSpec.ofChange fnBridgesWrong)

/-- 'laws.FnSameLog': WHATEVER THE INPUT: true; the input reads as it did. -/
def fnSameLogSpec : ChangeSpec := { name := "fnSameLog", fn := fun _ => fun
  | [d] => { results := [.lit (.bool true)], args := [d] }
  | _ => none }
def fnSameLogRow : OpenClaim := { program := "ytfhaanknijlamaa", sum := "57a041fdd2d68d516ca061428081eeb9f3c9769d23929a96c410d95f96a284e3", func := "loop.example/g00470/laws.FnSameLog", spec := "fnSameLog", apart := false }
def FnSameLogSaid : Prop := fnSameLogRow.holds Try.pinned (OpenSpec.ofChange fnSameLogSpec)

/-- ITS FALSE NEIGHBOUR: 'it returns false'. Refute it at one input. -/
def fnSameLogWrong : ChangeSpec := { name := "fnSameLog", fn := fun _ => fun
  | [d] => { results := [.lit (.bool false)], args := [d] }
  | _ => none }
def FnSameLogWrongFalsely : Prop := fnSameLogRow.holds Try.pinned (OpenSpec.ofChange fnSameLogWrong)

/-- 'laws.FnNets': WHATEVER THE INPUT: true; the input reads as it did. -/
def fnNetsSpec : ChangeSpec := { name := "fnNets", fn := fun _ => fun
  | [d] => { results := [.lit (.bool true)], args := [d] }
  | _ => none }
def fnNetsRow : OpenClaim := { program := "ytfhaanknijlamaa", sum := "57a041fdd2d68d516ca061428081eeb9f3c9769d23929a96c410d95f96a284e3", func := "loop.example/g00470/laws.FnNets", spec := "fnNets", unfollowed := true, recurses := true, apart := false }
def FnNetsSaid : Prop := fnNetsRow.holds Try.pinned (OpenSpec.ofChange fnNetsSpec)

/-- ITS FALSE NEIGHBOUR: 'it returns false'. Refute it at one input. -/
def fnNetsWrong : ChangeSpec := { name := "fnNets", fn := fun _ => fun
  | [d] => { results := [.lit (.bool false)], args := [d] }
  | _ => none }
def FnNetsWrongFalsely : Prop := fnNetsRow.holds Try.pinned (OpenSpec.ofChange fnNetsWrong)

/-- 'laws.FnReaches': WHATEVER THE INPUT: true; the input reads as it did. -/
def fnReachesSpec : ChangeSpec := { name := "fnReaches", fn := fun _ => fun
  | [d] => { results := [.lit (.bool true)], args := [d] }
  | _ => none }
def fnReachesRow : OpenClaim := { program := "ytfhaanknijlamaa", sum := "57a041fdd2d68d516ca061428081eeb9f3c9769d23929a96c410d95f96a284e3", func := "loop.example/g00470/laws.FnReaches", spec := "fnReaches", unfollowed := true, recurses := true, apart := false }
def FnReachesSaid : Prop := fnReachesRow.holds Try.pinned (OpenSpec.ofChange fnReachesSpec)

/-- ITS FALSE NEIGHBOUR: 'it returns false'. Refute it at one input. -/
def fnReachesWrong : ChangeSpec := { name := "fnReaches", fn := fun _ => fun
  | [d] => { results := [.lit (.bool false)], args := [d] }
  | _ => none }
def FnReachesWrongFalsely : Prop := fnReachesRow.holds Try.pinned (OpenSpec.ofChange fnReachesWrong)

/-- 'laws.FnMinders': WHATEVER THE INPUT: true; the input reads as it did. -/
def fnMindersSpec : ChangeSpec := { name := "fnMinders", fn := fun _ => fun
  | [d] => { results := [.lit (.bool true)], args := [d] }
  | _ => none }
def fnMindersRow : OpenClaim := { program := "ytfhaanknijlamaa", sum := "57a041fdd2d68d516ca061428081eeb9f3c9769d23929a96c410d95f96a284e3", func := "loop.example/g00470/laws.FnMinders", spec := "fnMinders", apart := false }
def FnMindersSaid : Prop := fnMindersRow.holds Try.pinned (OpenSpec.ofChange fnMindersSpec)

/-- ITS FALSE NEIGHBOUR: 'it returns false'. Refute it at one input. -/
def fnMindersWrong : ChangeSpec := { name := "fnMinders", fn := fun _ => fun
  | [d] => { results := [.lit (.bool false)], args := [d] }
  | _ => none }
def FnMindersWrongFalsely : Prop := fnMindersRow.holds Try.pinned (OpenSpec.ofChange fnMindersWrong)

/-- 'laws.FnRegs': WHATEVER THE INPUT: true; the input reads as it did. -/
def fnRegsSpec : ChangeSpec := { name := "fnRegs", fn := fun _ => fun
  | [d] => { results := [.lit (.bool true)], args := [d] }
  | _ => none }
def fnRegsRow : OpenClaim := { program := "ytfhaanknijlamaa", sum := "57a041fdd2d68d516ca061428081eeb9f3c9769d23929a96c410d95f96a284e3", func := "loop.example/g00470/laws.FnRegs", spec := "fnRegs", apart := false }
def FnRegsSaid : Prop := fnRegsRow.holds Try.pinned (OpenSpec.ofChange fnRegsSpec)

/-- ITS FALSE NEIGHBOUR: 'it returns false'. Refute it at one input. -/
def fnRegsWrong : ChangeSpec := { name := "fnRegs", fn := fun _ => fun
  | [d] => { results := [.lit (.bool false)], args := [d] }
  | _ => none }
def FnRegsWrongFalsely : Prop := fnRegsRow.holds Try.pinned (OpenSpec.ofChange fnRegsWrong)

/- THE SECOND FORM. 'bulk': how many values and letters a reading holds, each counted each time it is reached (what is shared counts as often as it is met; a slice's spare places count too). A statement '..UptoSaid' is the law's where the arguments, and the package variables that the reading takes, are together of bulk at most 1048576: NARROWER than '..Said'. Prove '..Said' where nothing that the law and all that it calls make is longer than what came in: it says more and counts as full. Else prove '..UptoSaid'. A law counts once. -/
mutual
def uptoBulk {H : Type} : DataW H → Nat
  | .lit (.string bytes) => bytes.length + 1
  | .lit _ => 1
  | .nil => 1
  | .ptr d => uptoBulk d + 1
  | .slice elems spare => uptoBulkAll elems + uptoBulkAll spare + 1
  | .agg parts => uptoBulkAll parts + 1
  | .iface _ d => uptoBulk d + 1
  | .map entries => uptoBulkEntries entries + 1
  | .held _ => 1
def uptoBulkAll {H : Type} : List (DataW H) → Nat
  | [] => 0
  | d :: r => uptoBulk d + uptoBulkAll r
def uptoBulkEntries {H : Type} : List (Lit × DataW H) → Nat
  | [] => 0
  | x :: r => uptoBulkEntry x + uptoBulkEntries r
def uptoBulkEntry {H : Type} : Lit × DataW H → Nat
  | (.string bytes, d) => bytes.length + uptoBulk d + 1
  | (_, d) => uptoBulk d + 1
 end
def uptoSmall : (H : Type) → List (DataW H) → Bool := fun _ ds => decide (uptoBulkAll ds ≤ 1048576)
def OpenSpec.upto (s : _root_.Go.ChangeSpec) : _root_.Go.OpenSpec := { _root_.Go.OpenSpec.ofChange s with cond := some uptoSmall }

/-- 'laws.FnBridges', WHERE WHAT IT READS IS OF BULK AT MOST 1048576: true; the input reads as it did. -/
def fnBridgesUptoRow : OpenClaim := { program := "ytfhaanknijlamaa", sum := "57a041fdd2d68d516ca061428081eeb9f3c9769d23929a96c410d95f96a284e3", func := "loop.example/g00470/laws.FnBridges", spec := "fnBridges", apart := false, narrowed := true }
def FnBridgesUptoSaid : Prop := fnBridgesUptoRow.holds Try.pinned (OpenSpec.upto fnBridgesSpec)

/-- 'laws.FnSameLog', WHERE WHAT IT READS IS OF BULK AT MOST 1048576: true; the input reads as it did. -/
def fnSameLogUptoRow : OpenClaim := { program := "ytfhaanknijlamaa", sum := "57a041fdd2d68d516ca061428081eeb9f3c9769d23929a96c410d95f96a284e3", func := "loop.example/g00470/laws.FnSameLog", spec := "fnSameLog", apart := false, narrowed := true }
def FnSameLogUptoSaid : Prop := fnSameLogUptoRow.holds Try.pinned (OpenSpec.upto fnSameLogSpec)

/-- 'laws.FnNets', WHERE WHAT IT READS IS OF BULK AT MOST 1048576: true; the input reads as it did. -/
def fnNetsUptoRow : OpenClaim := { program := "ytfhaanknijlamaa", sum := "57a041fdd2d68d516ca061428081eeb9f3c9769d23929a96c410d95f96a284e3", func := "loop.example/g00470/laws.FnNets", spec := "fnNets", unfollowed := true, recurses := true, apart := false, narrowed := true }
def FnNetsUptoSaid : Prop := fnNetsUptoRow.holds Try.pinned (OpenSpec.upto fnNetsSpec)

/-- 'laws.FnReaches', WHERE WHAT IT READS IS OF BULK AT MOST 1048576: true; the input reads as it did. -/
def fnReachesUptoRow : OpenClaim := { program := "ytfhaanknijlamaa", sum := "57a041fdd2d68d516ca061428081eeb9f3c9769d23929a96c410d95f96a284e3", func := "loop.example/g00470/laws.FnReaches", spec := "fnReaches", unfollowed := true, recurses := true, apart := false, narrowed := true }
def FnReachesUptoSaid : Prop := fnReachesUptoRow.holds Try.pinned (OpenSpec.upto fnReachesSpec)

/-- 'laws.FnMinders', WHERE WHAT IT READS IS OF BULK AT MOST 1048576: true; the input reads as it did. -/
def fnMindersUptoRow : OpenClaim := { program := "ytfhaanknijlamaa", sum := "57a041fdd2d68d516ca061428081eeb9f3c9769d23929a96c410d95f96a284e3", func := "loop.example/g00470/laws.FnMinders", spec := "fnMinders", apart := false, narrowed := true }
def FnMindersUptoSaid : Prop := fnMindersUptoRow.holds Try.pinned (OpenSpec.upto fnMindersSpec)

/-- 'laws.FnRegs', WHERE WHAT IT READS IS OF BULK AT MOST 1048576: true; the input reads as it did. -/
def fnRegsUptoRow : OpenClaim := { program := "ytfhaanknijlamaa", sum := "57a041fdd2d68d516ca061428081eeb9f3c9769d23929a96c410d95f96a284e3", func := "loop.example/g00470/laws.FnRegs", spec := "fnRegs", apart := false, narrowed := true }
def FnRegsUptoSaid : Prop := fnRegsUptoRow.holds Try.pinned (OpenSpec.upto fnRegsSpec)

end Rows
end Go.Proofs.Ytfhaanknijlamaa
