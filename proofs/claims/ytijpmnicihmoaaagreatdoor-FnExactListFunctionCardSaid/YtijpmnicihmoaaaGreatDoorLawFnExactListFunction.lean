/- FnExactListFunction: the card. -/
import Derived.Test.YtijpmnicihmoaaaGreatDoorSxR
import Derived.WalkKit
import Derived.ProofKit
import Derived.LaidMore
import Derived.SevenTiedAt
import Derived.Test.YtijpmnicihmoaaaGreatDoorCards
import Derived.Test.YtijpmnicihmoaaaGreatDoorTie
namespace Go.Proofs.YtijpmnicihmoaaaGreatDoor
theorem cWf : Rows.fnExactListFunctionRow.wfByText (OpenSpec.ofChange Rows.fnExactListFunctionSpec) = true := by kernel_rfl
theorem cMain : Tryz.pinned.checked.prog.mainIs = some (true, ("abea75ce72c4c3992f2c8e88e6b138bee4e65df931582da8ae0a1f03f61a49d7").toList) := by kernel_rfl
theorem cLooks : false = Tryz.pinned.checked.prog.looks [] := by kernel_rfl
theorem cNamed : Tryz.prog.funcNamed "loop.example/g00654/laws.FnExactListFunction" = some 3 := by kernel_rfl
theorem cStand : ([35, 9].all fun u => !Tryz.prog.wantsStandIn u) = true := by kernel_rfl
/-- Where no body of the program holds a go statement, no call starts a goroutine. -/
theorem goes_none {P : Program} {f : FuncId} (h : (P.funcs.toList.any Func.goes) = false) : P.goes f = false := by
  have hf : ∀ fn ∈ P.funcs.toList, Func.goes fn = false := by
    intro fn hfn
    rw [List.any_eq_false] at h
    simpa using h fn hfn
  unfold Program.goes
  have h1 : ((P.closure f).any fun g => (P.funcs[g]?).any Func.goes) = false := by
    rw [List.any_eq_false]
    intro g _
    cases hg : P.funcs[g]? with
    | none => simp
    | some fn => simp [hf fn (by have := Array.mem_of_getElem? hg; simpa using this)]
  have h2 : P.funcs.any Func.goes = false := by
    rw [← Array.any_toList]; exact h
  rw [h1, h2, Bool.and_false, Bool.or_false]
theorem goesBy_none {c : OpenClaim} {P : Program} {f : FuncId} (hs : c.start = .entering) (hf : P.funcNamed c.func = some f) (h : (P.funcs.toList.any Func.goes) = false) : c.goesBy P = false := by
  unfold OpenClaim.goesBy Program.goesAt Program.goesFrom
  rw [hs, hf]
  simp [goes_none h]
theorem noGo : (Tryz.pinned.checked.prog.funcs.toList.any Func.goes) = false := by kernel_rfl
theorem cNamed2 : Tryz.pinned.checked.prog.funcNamed Rows.fnExactListFunctionRow.func = some 3 := by kernel_rfl
theorem cGoes : false = OpenClaim.goesBy Rows.fnExactListFunctionRow Tryz.pinned.checked.prog := (goesBy_none rfl cNamed2 noGo).symm
/-- The row, under a short name, for the claim. -/
theorem fnExactListFunction_holds : Rows.FnExactListFunctionCardSaid :=
  Claim7.holds_tied_plain_at .later [] [.data, .data, .data] true (true, "abea75ce72c4c3992f2c8e88e6b138bee4e65df931582da8ae0a1f03f61a49d7") false
    fnExactListFunction.proved (fun _ h => by cases h) cWf (fun _ h => by cases h) fnExactListFunction_row_tie rfl ⟨rfl, rfl⟩ cMain rfl
    (fun f fn hf hfn => by
      obtain rfl : f = 3 := Option.some.inj (cNamed.symm.trans hf) |>.symm
      obtain rfl : fn = Tryz.f3 := (Option.some.inj (Tryz.func3.symm.trans hfn)).symm
      exact ⟨cLooks, fun j t ht => by
        rw [Tryz.params3] at ht
        have hm : t ∈ [35, 9] := by simpa using Array.mem_of_getElem? ht
        exact (show Tryz.prog.wantsStandIn t = false by simpa using List.all_eq_true.1 cStand t hm)⟩)
    cGoes
#print axioms fnExactListFunction_holds
end Go.Proofs.YtijpmnicihmoaaaGreatDoor
