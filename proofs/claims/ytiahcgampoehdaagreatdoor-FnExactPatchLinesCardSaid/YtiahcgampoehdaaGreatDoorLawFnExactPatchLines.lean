/- FnExactPatchLines: the card. -/
import Derived.Test.YtiahcgampoehdaaGreatDoorSxRb
import Derived.WalkKit
import Derived.ProofKit
import Derived.LaidMore
import Derived.SevenTiedAt
import Derived.Test.YtiahcgampoehdaaGreatDoorCards
import Derived.Test.YtiahcgampoehdaaGreatDoorTie
namespace Go.Proofs.YtiahcgampoehdaaGreatDoor
theorem cWf : Rows.fnExactPatchLinesRow.wfByText (OpenSpec.ofChange Rows.fnExactPatchLinesSpec) = true := by kernel_rfl
theorem cMain : Tryz.pinned.checked.prog.mainIs = some (true, ("cf8c08cc81b7be491ff5a04ac3520ab2c8dd9aa7ada18f628d1191257e00b5d5").toList) := by kernel_rfl
theorem cLooks : false = Tryz.pinned.checked.prog.looks [] := by kernel_rfl
theorem cNamed : Tryz.prog.funcNamed "loop.example/g00654/laws.FnExactPatchLines" = some 4 := by kernel_rfl
theorem cStand : ([35].all fun u => !Tryz.prog.wantsStandIn u) = true := by kernel_rfl
/-- Where no body of the program holds a go statement, no call starts a goroutine. -/
theorem goes_none {P : Program} {f : FuncId} (h : (P.funcs.toList.any Func.goes) = false) : P.goes f = false := by
  have hf : ∀ fn ∈ P.funcs.toList, Func.goes fn = false := by
    intro fn hfn
    rw [List.any_eq_false] at h
    simpa using h fn hfn
  unfold Program.goes
  have h1 : ((P.closure f).any fun g => (P.funcs[g]?).any Func.goes) = false := by
    rw [List.any_eq_false]
    intro g _
    cases hg : P.funcs[g]? with
    | none => simp
    | some fn => simp [hf fn (by have := Array.mem_of_getElem? hg; simpa using this)]
  have h2 : P.funcs.any Func.goes = false := by
    rw [← Array.any_toList]; exact h
  rw [h1, h2, Bool.and_false, Bool.or_false]
theorem goesBy_none {c : OpenClaim} {P : Program} {f : FuncId} (hs : c.start = .entering) (hf : P.funcNamed c.func = some f) (h : (P.funcs.toList.any Func.goes) = false) : c.goesBy P = false := by
  unfold OpenClaim.goesBy Program.goesAt Program.goesFrom
  rw [hs, hf]
  simp [goes_none h]
theorem noGo : (Tryz.pinned.checked.prog.funcs.toList.any Func.goes) = false := by kernel_rfl
theorem cNamed2 : Tryz.pinned.checked.prog.funcNamed Rows.fnExactPatchLinesRow.func = some 4 := by kernel_rfl
theorem cGoes : false = OpenClaim.goesBy Rows.fnExactPatchLinesRow Tryz.pinned.checked.prog := (goesBy_none rfl cNamed2 noGo).symm
/-- The row, under a short name, for the claim. -/
theorem fnExactPatchLines_holds : Rows.FnExactPatchLinesCardSaid :=
  Claim7.holds_tied_plain_at .later [] [.data, .data, .data] true (true, "cf8c08cc81b7be491ff5a04ac3520ab2c8dd9aa7ada18f628d1191257e00b5d5") false
    fnExactPatchLines.proved (fun _ h => by cases h) cWf (fun _ h => by cases h) fnExactPatchLines_row_tie rfl ⟨rfl, rfl⟩ cMain rfl
    (fun f fn hf hfn => by
      obtain rfl : f = 4 := Option.some.inj (cNamed.symm.trans hf) |>.symm
      obtain rfl : fn = Tryz.f4 := (Option.some.inj (Tryz.func4.symm.trans hfn)).symm
      exact ⟨cLooks, fun j t ht => by
        rw [Tryz.params4] at ht
        have hm : t ∈ [35] := by simpa using Array.mem_of_getElem? ht
        exact (show Tryz.prog.wantsStandIn t = false by simpa using List.all_eq_true.1 cStand t hm)⟩)
    cGoes
#print axioms fnExactPatchLines_holds
end Go.Proofs.YtiahcgampoehdaaGreatDoor
