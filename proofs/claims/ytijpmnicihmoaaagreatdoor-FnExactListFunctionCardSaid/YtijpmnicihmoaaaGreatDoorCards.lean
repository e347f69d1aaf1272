/-
  DERIVED. GIVEN WITH THE SEED: THE CARDS: each row of YtijpmnicihmoaaaGreatDoorRows.lean that lists a variable, with what it lists TIED to the program's text (the seventh form; the later family's looks); each row that meets fmt, with fmt's text TOLD by the authors' own Lean function (tested against real Go, not proved from fmt's source: count such statements apart). THE CARD IS WHAT COUNTS. Prove the row's statement (the work); the ties are given (YtijpmnicihmoaaaGreatDoorTie.lean); close each card by the builder's one call (the guide's Derived/Test/ToyasCard.lean, 'card_holds'). Laid BY PROGRAM, IN A SANDBOX (cutbox-door.mjs). By AI agents, Wed Nov 11 2026. No macro, syntax, notation, axiom, sorry.
-/
import Derived.Test.YtijpmnicihmoaaaGreatDoorRows
import GoSem.ClaimSeven
namespace Go.Proofs.YtijpmnicihmoaaaGreatDoor
namespace Rows

/-- THE TIED CARD OF 'laws.FnExactListFunction'. -/
def fnExactListFunctionCard : Claim7 := { stood := { row := fnExactListFunctionRow, standIns := [], harness := (true, "abea75ce72c4c3992f2c8e88e6b138bee4e65df931582da8ae0a1f03f61a49d7"), looks := false }, kinds := [], alts := [], laidByText := true, laidKinds := [.data, .data, .data], laidTests := true, laidLooks := .later }
def FnExactListFunctionCardSaid : Prop := Claim7.holds Tryz.pinned (.plain (OpenSpec.ofChange fnExactListFunctionSpec)) fnExactListFunctionCard

/-- THE TIED CARD OF 'laws.FnExactFrameLines'. -/
def fnExactFrameLinesCard : Claim7 := { stood := { row := fnExactFrameLinesRow, standIns := [], harness := (true, "abea75ce72c4c3992f2c8e88e6b138bee4e65df931582da8ae0a1f03f61a49d7"), looks := false }, kinds := [], alts := [], laidByText := true, laidKinds := [.data, .data, .data], laidTests := true, laidLooks := .later }
def FnExactFrameLinesCardSaid : Prop := Claim7.holds Tryz.pinned (.plain (OpenSpec.ofChange fnExactFrameLinesSpec)) fnExactFrameLinesCard

/-- THE SECOND FORM's CARD OF 'laws.FnExactListFunction'. -/
def fnExactListFunctionUptoCard : Claim7 := { stood := { row := fnExactListFunctionUptoRow, standIns := [], harness := (true, "abea75ce72c4c3992f2c8e88e6b138bee4e65df931582da8ae0a1f03f61a49d7"), looks := false }, kinds := [], alts := [], laidByText := true, laidKinds := [.data, .data, .data], laidTests := true, laidLooks := .later }
def FnExactListFunctionUptoCardSaid : Prop := Claim7.holds Tryz.pinned (.plain (OpenSpec.upto fnExactListFunctionSpec)) fnExactListFunctionUptoCard

/-- THE SECOND FORM's CARD OF 'laws.FnExactFrameLines'. -/
def fnExactFrameLinesUptoCard : Claim7 := { stood := { row := fnExactFrameLinesUptoRow, standIns := [], harness := (true, "abea75ce72c4c3992f2c8e88e6b138bee4e65df931582da8ae0a1f03f61a49d7"), looks := false }, kinds := [], alts := [], laidByText := true, laidKinds := [.data, .data, .data], laidTests := true, laidLooks := .later }
def FnExactFrameLinesUptoCardSaid : Prop := Claim7.holds Tryz.pinned (.plain (OpenSpec.upto fnExactFrameLinesSpec)) fnExactFrameLinesUptoCard
end Rows
end Go.Proofs.YtijpmnicihmoaaaGreatDoor
