/- The pure side of FnExactDemoObject: for each number, what the program's DemoObject computes is what the reference's computes. No condition. -/
import Derived.Test.YtpfplngeakmghaaRf
namespace Go.Proofs.Ytpfplngeakmghaa.R
open Go.Pr
theorem demo0 : laws_FnExactDemoObject_4.f 1000 0 = some true := by decide +kernel
theorem demo1 : laws_FnExactDemoObject_4.f 1000 1 = some true := by decide +kernel
theorem demo2 : laws_FnExactDemoObject_4.f 1000 2 = some true := by decide +kernel
theorem demo3 : laws_FnExactDemoObject_4.f 1000 3 = some true := by decide +kernel
theorem demo (a : Int) : laws_FnExactDemoObject_4 a = some true := by
  by_cases h0 : a = 0
  · subst h0; exact laws_FnExactDemoObject_4.le 1000 0 _ demo0
  by_cases h1 : a = 1
  · subst h1; exact laws_FnExactDemoObject_4.le 1000 1 _ demo1
  by_cases h2 : a = 2
  · subst h2; exact laws_FnExactDemoObject_4.le 1000 2 _ demo2
  by_cases h3 : a = 3
  · subst h3; exact laws_FnExactDemoObject_4.le 1000 3 _ demo3
  have hs : spec_DemoObject_12 a = some (⟨#[]⟩ : ByteArray) := by
    rw [spec_DemoObject_12_eq, spec_l01In_32_eq]
    by_cases hp : 0 ≤ a
    · have h4 : ¬ a ≤ 3 := by omega
      simp [hp, h4]
    · simp [hp]
  have hi : impl_DemoObject_13 a = some (⟨#[]⟩ : ByteArray) := by
    rw [impl_DemoObject_13_eq]
    simp [h0, h1, h2, h3]
  rw [laws_FnExactDemoObject_4_eq, hs, hi]
  simp only [Option.bind_some]
  have h : strEq (⟨#[]⟩ : ByteArray) ⟨#[]⟩ = true := by decide +kernel
  rw [h]
  rfl
end Go.Proofs.Ytpfplngeakmghaa.R
