/-
  DERIVED. GIVEN WITH THE SEED: THE CARDS: each row of YtjgjjaidpceieabDoorRows.lean that lists a variable, with what it lists TIED to the program's text (the seventh form; the later family's looks); each row that meets fmt, with fmt's text TOLD by the authors' own Lean function (tested against real Go, not proved from fmt's source: count such statements apart). THE CARD IS WHAT COUNTS. Prove the row's statement (the work); the ties are given (YtjgjjaidpceieabDoorTie.lean); close each card by the builder's one call (the guide's Derived/Test/ToyasCard.lean, 'card_holds'). Laid BY PROGRAM, IN A SANDBOX (cutbox-door.mjs). By AI agents, Wed Nov 11 2026. No macro, syntax, notation, axiom, sorry.
-/
import Derived.Test.YtjgjjaidpceieabDoorRows
import GoSem.ClaimSeven
namespace Go.Proofs.YtjgjjaidpceieabDoor
namespace Rows

/-- THE TIED CARD OF 'laws.FnExactPortText'. -/
def fnExactPortTextCard : Claim7 := { stood := { row := fnExactPortTextRow, standIns := [], harness := (true, "7f5db8cf4e1dfcde0786b94490088336a942c7e170a612b6954df7cedce185fd"), looks := false }, kinds := [], alts := [], laidByText := true, laidKinds := [.data, .data, .data], laidTests := true, laidLooks := .later }
def FnExactPortTextCardSaid : Prop := Claim7.holds Tryd.pinned (.plain (OpenSpec.ofChange fnExactPortTextSpec)) fnExactPortTextCard

/-- THE TIED CARD OF 'laws.FnExactMinderText'. -/
def fnExactMinderTextCard : Claim7 := { stood := { row := fnExactMinderTextRow, standIns := [], harness := (true, "7f5db8cf4e1dfcde0786b94490088336a942c7e170a612b6954df7cedce185fd"), looks := false }, kinds := [], alts := [], laidByText := true, laidKinds := [.data, .data, .data], laidTests := true, laidLooks := .later }
def FnExactMinderTextCardSaid : Prop := Claim7.holds Tryd.pinned (.plain (OpenSpec.ofChange fnExactMinderTextSpec)) fnExactMinderTextCard

/-- THE TIED CARD OF 'laws.FnExactBridgeText'. -/
def fnExactBridgeTextCard : Claim7 := { stood := { row := fnExactBridgeTextRow, standIns := [], harness := (true, "7f5db8cf4e1dfcde0786b94490088336a942c7e170a612b6954df7cedce185fd"), looks := false }, kinds := [], alts := [], laidByText := true, laidKinds := [.data, .data, .data], laidTests := true, laidLooks := .later }
def FnExactBridgeTextCardSaid : Prop := Claim7.holds Tryd.pinned (.plain (OpenSpec.ofChange fnExactBridgeTextSpec)) fnExactBridgeTextCard

/-- THE TIED CARD OF 'laws.FnExactBoxText'. -/
def fnExactBoxTextCard : Claim7 := { stood := { row := fnExactBoxTextRow, standIns := [], harness := (true, "7f5db8cf4e1dfcde0786b94490088336a942c7e170a612b6954df7cedce185fd"), looks := false }, kinds := [], alts := [], laidByText := true, laidKinds := [.data, .data, .data], laidTests := true, laidLooks := .later }
def FnExactBoxTextCardSaid : Prop := Claim7.holds Tryd.pinned (.plain (OpenSpec.ofChange fnExactBoxTextSpec)) fnExactBoxTextCard

/-- THE SECOND FORM's CARD OF 'laws.FnExactPortText'. -/
def fnExactPortTextUptoCard : Claim7 := { stood := { row := fnExactPortTextUptoRow, standIns := [], harness := (true, "7f5db8cf4e1dfcde0786b94490088336a942c7e170a612b6954df7cedce185fd"), looks := false }, kinds := [], alts := [], laidByText := true, laidKinds := [.data, .data, .data], laidTests := true, laidLooks := .later }
def FnExactPortTextUptoCardSaid : Prop := Claim7.holds Tryd.pinned (.plain (OpenSpec.upto fnExactPortTextSpec)) fnExactPortTextUptoCard

/-- THE SECOND FORM's CARD OF 'laws.FnExactMinderText'. -/
def fnExactMinderTextUptoCard : Claim7 := { stood := { row := fnExactMinderTextUptoRow, standIns := [], harness := (true, "7f5db8cf4e1dfcde0786b94490088336a942c7e170a612b6954df7cedce185fd"), looks := false }, kinds := [], alts := [], laidByText := true, laidKinds := [.data, .data, .data], laidTests := true, laidLooks := .later }
def FnExactMinderTextUptoCardSaid : Prop := Claim7.holds Tryd.pinned (.plain (OpenSpec.upto fnExactMinderTextSpec)) fnExactMinderTextUptoCard

/-- THE SECOND FORM's CARD OF 'laws.FnExactBridgeText'. -/
def fnExactBridgeTextUptoCard : Claim7 := { stood := { row := fnExactBridgeTextUptoRow, standIns := [], harness := (true, "7f5db8cf4e1dfcde0786b94490088336a942c7e170a612b6954df7cedce185fd"), looks := false }, kinds := [], alts := [], laidByText := true, laidKinds := [.data, .data, .data], laidTests := true, laidLooks := .later }
def FnExactBridgeTextUptoCardSaid : Prop := Claim7.holds Tryd.pinned (.plain (OpenSpec.upto fnExactBridgeTextSpec)) fnExactBridgeTextUptoCard

/-- THE SECOND FORM's CARD OF 'laws.FnExactBoxText'. -/
def fnExactBoxTextUptoCard : Claim7 := { stood := { row := fnExactBoxTextUptoRow, standIns := [], harness := (true, "7f5db8cf4e1dfcde0786b94490088336a942c7e170a612b6954df7cedce185fd"), looks := false }, kinds := [], alts := [], laidByText := true, laidKinds := [.data, .data, .data], laidTests := true, laidLooks := .later }
def FnExactBoxTextUptoCardSaid : Prop := Claim7.holds Tryd.pinned (.plain (OpenSpec.upto fnExactBoxTextSpec)) fnExactBoxTextUptoCard
end Rows
end Go.Proofs.YtjgjjaidpceieabDoor
