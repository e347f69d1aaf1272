/- FnExactReadObject: the whole call returns true, and nothing older turns. -/
import Derived.Test.YtamgeifafllcgaaSxP
namespace Go.Proofs.Ytamgeifafllcgaa.S
open Go.Ps Go.RowKit
set_option linter.unusedVariables false
theorem prim_ok : PrimOK cfg := by
  intro f p hp
  simp only [cfg, prims, asc] at hp
  simp at hp
theorem walk (a0 : Ty.den .str) (w0 : wfT .str a0) (W : World) (v0 : Value) (r0 : RepT (InHeap W) W .str a0 [v0]) : Calls Try.prog 3 #[v0] W fun e W' => e = .returned (.bool true) ∧ Below W.heap.size W W' := by
  have hsig : cfg.sig 3 = some ⟨[.val .str], [(.bool, false)], [.no]⟩ := by kernel_rfl
  have h : Meets cfg 3 [.v (.str a0)] (show cfg.Res 3 from true) := Den_meets cfg_ok prim_ok (readObject_law a0)
  refine (h _ hsig (InHeap W) W [v0] [] [] (fun _ h => h) (.plain rfl (RepS.v r0) .nil) ⟨by simp, fun k hk => by cases hk⟩ ⟨by simp, fun k hk => by cases hk⟩).mono ?_
  rintro e W' ⟨v, xs, us, ms, S', B', rfl, rfl, ht, hm, hk, _, _, _, hT⟩
  obtain ⟨u, v, y, ys, rfl, rfl, hl, _, h2, rfl, rfl⟩ := ht
  have hm' : ms = [] := hm
  subst hm'
  have := h2 rfl
  subst this
  have hT' : [y] ++ [] ++ [] = [Value.bool true] := hT.1
  simp only [List.append_nil, List.cons.injEq, and_true] at hT'
  subst hT'
  exact ⟨rfl, below_of_keptM hk⟩
end Go.Proofs.Ytamgeifafllcgaa.S
