/-
  DERIVED. GIVEN WITH THE SEED: THE CARDS: each row of YtoikigjhiohopaaGreatDoorRows.lean that lists a variable, with what it lists TIED to the program's text (the seventh form; the later family's looks); each row that meets fmt, with fmt's text TOLD by the authors' own Lean function (tested against real Go, not proved from fmt's source: count such statements apart). THE CARD IS WHAT COUNTS. Prove the row's statement (the work); the ties are given (YtoikigjhiohopaaGreatDoorTie.lean); close each card by the builder's one call (the guide's Derived/Test/ToyasCard.lean, 'card_holds'). Laid BY PROGRAM, IN A SANDBOX (cutbox-door.mjs). By AI agents, Wed Nov 11 2026. No macro, syntax, notation, axiom, sorry.
-/
import Derived.Test.YtoikigjhiohopaaGreatDoorRows
import GoSem.ClaimSeven
namespace Go.Proofs.YtoikigjhiohopaaGreatDoor
namespace Rows

/-- THE TIED CARD OF 'laws.FnExactThreadText'. -/
def fnExactThreadTextCard : Claim7 := { stood := { row := fnExactThreadTextRow, standIns := [], harness := (true, "f717784f6dba17a1fbffb1571b0683e15818fd89ded85b9e8c54282be646e0df"), looks := true }, kinds := [], alts := [], laidByText := true, laidKinds := [.data, .data, .data], laidTests := true, laidLooks := .later }
def FnExactThreadTextCardSaid : Prop := Claim7.holds Tryz.pinned (.plain (OpenSpec.ofChange fnExactThreadTextSpec)) fnExactThreadTextCard

/-- THE TIED CARD OF 'laws.FnExactMachineLines'. -/
def fnExactMachineLinesCard : Claim7 := { stood := { row := fnExactMachineLinesRow, standIns := [], harness := (true, "f717784f6dba17a1fbffb1571b0683e15818fd89ded85b9e8c54282be646e0df"), looks := true }, kinds := [], alts := [], laidByText := true, laidKinds := [.data, .data, .data], laidTests := true, laidLooks := .later }
def FnExactMachineLinesCardSaid : Prop := Claim7.holds Tryz.pinned (.plain (OpenSpec.ofChange fnExactMachineLinesSpec)) fnExactMachineLinesCard

/-- THE TIED CARD OF 'laws.FnActs'. -/
def fnActsCard : Claim7 := { stood := { row := fnActsRow, standIns := [], harness := (true, "f717784f6dba17a1fbffb1571b0683e15818fd89ded85b9e8c54282be646e0df"), looks := true }, kinds := [], alts := [], laidByText := true, laidKinds := [.data, .data, .data, .data, .sentinel, .sentinel, .pinned], laidTests := true, laidLooks := .later }
def FnActsCardSaid : Prop := Claim7.holds Tryz.pinned (.plain (OpenSpec.ofChange fnActsSpec)) fnActsCard

/-- THE SECOND FORM's CARD OF 'laws.FnExactThreadText'. -/
def fnExactThreadTextUptoCard : Claim7 := { stood := { row := fnExactThreadTextUptoRow, standIns := [], harness := (true, "f717784f6dba17a1fbffb1571b0683e15818fd89ded85b9e8c54282be646e0df"), looks := true }, kinds := [], alts := [], laidByText := true, laidKinds := [.data, .data, .data], laidTests := true, laidLooks := .later }
def FnExactThreadTextUptoCardSaid : Prop := Claim7.holds Tryz.pinned (.plain (OpenSpec.upto fnExactThreadTextSpec)) fnExactThreadTextUptoCard

/-- THE SECOND FORM's CARD OF 'laws.FnExactMachineLines'. -/
def fnExactMachineLinesUptoCard : Claim7 := { stood := { row := fnExactMachineLinesUptoRow, standIns := [], harness := (true, "f717784f6dba17a1fbffb1571b0683e15818fd89ded85b9e8c54282be646e0df"), looks := true }, kinds := [], alts := [], laidByText := true, laidKinds := [.data, .data, .data], laidTests := true, laidLooks := .later }
def FnExactMachineLinesUptoCardSaid : Prop := Claim7.holds Tryz.pinned (.plain (OpenSpec.upto fnExactMachineLinesSpec)) fnExactMachineLinesUptoCard

/-- THE SECOND FORM's CARD OF 'laws.FnActs'. -/
def fnActsUptoCard : Claim7 := { stood := { row := fnActsUptoRow, standIns := [], harness := (true, "f717784f6dba17a1fbffb1571b0683e15818fd89ded85b9e8c54282be646e0df"), looks := true }, kinds := [], alts := [], laidByText := true, laidKinds := [.data, .data, .data, .data, .sentinel, .sentinel, .pinned], laidTests := true, laidLooks := .later }
def FnActsUptoCardSaid : Prop := Claim7.holds Tryz.pinned (.plain (OpenSpec.upto fnActsSpec)) fnActsUptoCard
end Rows
end Go.Proofs.YtoikigjhiohopaaGreatDoor
