import Derived.Test.YtaplgfojdekgkaaGreatSxPa
import Derived.Test.YtaplgfojdekgkaaGreatSxG
namespace Go.Proofs.YtaplgfojdekgkaaGreat.S
open Go.Ps Go.RowKit
theorem walk (s : Sys) (hw : wfT TSys s) (W : World) (us : List Value) (hu : RepT (InHeap W) W TSys s us) : Calls Tryz.prog 3 #[.agg us.toArray] W fun e W' => e = .returned (.bool true) ∧ Below W.heap.size W W' := by
  have hsig : cfg.sig 3 = some ⟨[.val TSys], [(.bool, false)], [.no]⟩ := by kernel_rfl
  have h : Meets cfg 3 [.agg (inj TSys s)] (show cfg.Res 3 from true) := Den_meets cfg_ok prim_ok (room_law s hw)
  refine (h _ hsig (InHeap W) W [.agg us.toArray] [] [] (fun _ h => h) (.plain rfl ⟨us, rfl, inj_rep TSys s us hu⟩ .nil) ⟨by simp, fun k hk => by cases hk⟩ ⟨by simp, fun k hk => by cases hk⟩).mono ?_
  rintro e W' ⟨v, xs, us, ms, S', B', rfl, rfl, ht, hm, hk, _, _, _, hT⟩
  obtain ⟨u, v, y, ys, rfl, rfl, hl, _, h2, rfl, rfl⟩ := ht
  have hm' : ms = [] := hm
  subst hm'
  have := h2 rfl
  subst this
  have hT' : [y] ++ [] ++ [] = [Value.bool true] := hT.1
  simp only [List.append_nil, List.cons.injEq, and_true] at hT'
  subst hT'
  exact ⟨rfl, below_of_keptM hk⟩
end Go.Proofs.YtaplgfojdekgkaaGreat.S
