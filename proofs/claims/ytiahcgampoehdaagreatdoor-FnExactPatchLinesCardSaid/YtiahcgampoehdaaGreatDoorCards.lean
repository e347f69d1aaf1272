/-
  DERIVED. GIVEN WITH THE SEED: THE CARDS: each row of YtiahcgampoehdaaGreatDoorRows.lean that lists a variable, with what it lists TIED to the program's text (the seventh form; the later family's looks); each row that meets fmt, with fmt's text TOLD by the authors' own Lean function (tested against real Go, not proved from fmt's source: count such statements apart). THE CARD IS WHAT COUNTS. Prove the row's statement (the work); the ties are given (YtiahcgampoehdaaGreatDoorTie.lean); close each card by the builder's one call (the guide's Derived/Test/ToyasCard.lean, 'card_holds'). Laid BY PROGRAM, IN A SANDBOX (cutbox-door.mjs). By AI agents, Wed Nov 11 2026. No macro, syntax, notation, axiom, sorry.
-/
import Derived.Test.YtiahcgampoehdaaGreatDoorRows
import GoSem.ClaimSeven
namespace Go.Proofs.YtiahcgampoehdaaGreatDoor
namespace Rows

/-- THE TIED CARD OF 'laws.FnExactTableLines'. -/
def fnExactTableLinesCard : Claim7 := { stood := { row := fnExactTableLinesRow, standIns := [], harness := (true, "cf8c08cc81b7be491ff5a04ac3520ab2c8dd9aa7ada18f628d1191257e00b5d5"), looks := false }, kinds := [], alts := [], laidByText := true, laidKinds := [.data, .data, .data], laidTests := true, laidLooks := .later }
def FnExactTableLinesCardSaid : Prop := Claim7.holds Tryz.pinned (.plain (OpenSpec.ofChange fnExactTableLinesSpec)) fnExactTableLinesCard

/-- THE TIED CARD OF 'laws.FnExactPatchLines'. -/
def fnExactPatchLinesCard : Claim7 := { stood := { row := fnExactPatchLinesRow, standIns := [], harness := (true, "cf8c08cc81b7be491ff5a04ac3520ab2c8dd9aa7ada18f628d1191257e00b5d5"), looks := false }, kinds := [], alts := [], laidByText := true, laidKinds := [.data, .data, .data], laidTests := true, laidLooks := .later }
def FnExactPatchLinesCardSaid : Prop := Claim7.holds Tryz.pinned (.plain (OpenSpec.ofChange fnExactPatchLinesSpec)) fnExactPatchLinesCard

/-- THE TIED CARD OF 'laws.FnExactFrameLines'. -/
def fnExactFrameLinesCard : Claim7 := { stood := { row := fnExactFrameLinesRow, standIns := [], harness := (true, "cf8c08cc81b7be491ff5a04ac3520ab2c8dd9aa7ada18f628d1191257e00b5d5"), looks := false }, kinds := [], alts := [], laidByText := true, laidKinds := [.data, .data, .data], laidTests := true, laidLooks := .later }
def FnExactFrameLinesCardSaid : Prop := Claim7.holds Tryz.pinned (.plain (OpenSpec.ofChange fnExactFrameLinesSpec)) fnExactFrameLinesCard

/-- THE SECOND FORM's CARD OF 'laws.FnExactTableLines'. -/
def fnExactTableLinesUptoCard : Claim7 := { stood := { row := fnExactTableLinesUptoRow, standIns := [], harness := (true, "cf8c08cc81b7be491ff5a04ac3520ab2c8dd9aa7ada18f628d1191257e00b5d5"), looks := false }, kinds := [], alts := [], laidByText := true, laidKinds := [.data, .data, .data], laidTests := true, laidLooks := .later }
def FnExactTableLinesUptoCardSaid : Prop := Claim7.holds Tryz.pinned (.plain (OpenSpec.upto fnExactTableLinesSpec)) fnExactTableLinesUptoCard

/-- THE SECOND FORM's CARD OF 'laws.FnExactPatchLines'. -/
def fnExactPatchLinesUptoCard : Claim7 := { stood := { row := fnExactPatchLinesUptoRow, standIns := [], harness := (true, "cf8c08cc81b7be491ff5a04ac3520ab2c8dd9aa7ada18f628d1191257e00b5d5"), looks := false }, kinds := [], alts := [], laidByText := true, laidKinds := [.data, .data, .data], laidTests := true, laidLooks := .later }
def FnExactPatchLinesUptoCardSaid : Prop := Claim7.holds Tryz.pinned (.plain (OpenSpec.upto fnExactPatchLinesSpec)) fnExactPatchLinesUptoCard

/-- THE SECOND FORM's CARD OF 'laws.FnExactFrameLines'. -/
def fnExactFrameLinesUptoCard : Claim7 := { stood := { row := fnExactFrameLinesUptoRow, standIns := [], harness := (true, "cf8c08cc81b7be491ff5a04ac3520ab2c8dd9aa7ada18f628d1191257e00b5d5"), looks := false }, kinds := [], alts := [], laidByText := true, laidKinds := [.data, .data, .data], laidTests := true, laidLooks := .later }
def FnExactFrameLinesUptoCardSaid : Prop := Claim7.holds Tryz.pinned (.plain (OpenSpec.upto fnExactFrameLinesSpec)) fnExactFrameLinesUptoCard
end Rows
end Go.Proofs.YtiahcgampoehdaaGreatDoor
