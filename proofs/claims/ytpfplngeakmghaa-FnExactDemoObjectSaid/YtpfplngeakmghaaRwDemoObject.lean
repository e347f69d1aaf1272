/- FnExactDemoObject: the call. -/
import Derived.Test.YtpfplngeakmghaaRpDemoObject
import Derived.Test.YtpfplngeakmghaaRg
namespace Go.Proofs.Ytpfplngeakmghaa.R
open Go.Pr Go.RowKit
theorem walk (a : Int) (W : World) : Calls Try.prog 4 #[.int .i64 a] W fun e W' => e = .returned (.bool true) ∧ Below W.heap.size W W' := by
  have hsig : cfg.sig 4 = some ⟨[.val (some (.int .i64))], [(.bool, false)], .no⟩ := by kernel_rfl
  have h : Meets cfg 4 [.v (.int .i64 a)] (show cfg.Res 4 from true) := Den_meets cfg_ok prim_ok (demo a)
  refine (h _ hsig (fun _ => False) W [.int .i64 a] [] (fun _ h => h.elim) (.val (RepS.v rfl) rfl .nil)).mono ?_
  rintro e W' ⟨v, xs, us, ms, rfl, rfl, ht, hm, hT, hk, _⟩
  obtain ⟨u, v, y, ys, rfl, rfl, hl, _, h2, rfl, rfl⟩ := ht
  have hm' : ms = [] := hm
  subst hm'
  have := h2 rfl
  subst this
  have hT' : [y] ++ [] ++ [] = [Value.bool true] := hT
  simp only [List.append_nil, List.cons.injEq, and_true] at hT'
  subst hT'
  exact ⟨rfl, below_of_keptM hk⟩
end Go.Proofs.Ytpfplngeakmghaa.R
