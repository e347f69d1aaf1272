/- The last object is drawn when no other one fits: a closed computation. -/
import Derived.Test.YtloggcnmmcjleaaSxF
import Derived.Test.YtloggcnmmcjleaaSxPa
namespace Go.Proofs.Ytloggcnmmcjleaa.S
open Go.Ps
set_option linter.unusedVariables false
theorem hot0 : ((spec_l18Hot.f 2000).bind fun o => (spec_ObjectOK.f 2000 o).bind fun b => some (b && o.2.2.2.2.1.all fun r => decide (-9223372036854775808 ≤ (r.1 : Int)) && decide ((r.1 : Int) ≤ 9223372036854775807))) = some true := by decide +kernel
theorem hot_ok : HotOK := by
  have h := hot0
  cases e1 : spec_l18Hot.f 2000 with
  | none => rw [e1] at h; cases h
  | some o =>
    rw [e1] at h
    cases e2 : spec_ObjectOK.f 2000 o with
    | none => simp only [Option.bind_some, e2] at h; cases h
    | some b =>
      simp only [Option.bind_some, e2, Option.some.injEq, Bool.and_eq_true] at h
      obtain ⟨rfl, h⟩ := h
      refine ⟨o, spec_l18Hot.le 2000 _ e1, spec_ObjectOK.le 2000 o _ e2, fun k hk => ?_⟩
      have := List.all_eq_true.1 h _ (List.getElem_mem hk)
      rw [Bool.and_eq_true, decide_eq_true_eq, decide_eq_true_eq] at this
      rw [rd_nat (τ := TRel) _ k hk]
      exact this
end Go.Proofs.Ytloggcnmmcjleaa.S
