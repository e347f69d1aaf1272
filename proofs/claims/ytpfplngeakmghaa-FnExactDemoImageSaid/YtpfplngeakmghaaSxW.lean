/- FnExactDemoImage: the whole call returns true, and nothing older turns. -/
import Derived.Test.YtpfplngeakmghaaSxP
import Derived.Test.YtpfplngeakmghaaSxG
namespace Go.Proofs.Ytpfplngeakmghaa.S
open Go.Ps Go.RowKit
theorem walk (W : World) : Calls Try.prog 5 #[] W fun e W' => e = .returned (.bool true) ∧ Below W.heap.size W W' := by
  have hsig : cfg.sig 5 = some ⟨[], [(.bool, false)], [.no]⟩ := by kernel_rfl
  have h : Meets cfg 5 [] (show cfg.Res 5 from true) := Den_meets cfg_ok prim_ok demoImage
  refine (h _ hsig (fun _ => False) W [] [] [] (fun _ h => h.elim) .nil ⟨by simp, fun k hk => by cases hk⟩ ⟨by simp, fun k hk => by cases hk⟩).mono ?_
  rintro e W' ⟨v, xs, us, ms, S', B', rfl, rfl, ht, hm, hk, _, _, _, hT⟩
  obtain ⟨u, v, y, ys, rfl, rfl, hl, _, h2, rfl, rfl⟩ := ht
  have hm' : ms = [] := hm
  subst hm'
  have := h2 rfl
  subst this
  have hT' : [y] ++ [] ++ [] = [Value.bool true] := hT.1
  simp only [List.append_nil, List.cons.injEq, and_true] at hT'
  subst hT'
  exact ⟨rfl, below_of_keptM hk⟩
end Go.Proofs.Ytpfplngeakmghaa.S
