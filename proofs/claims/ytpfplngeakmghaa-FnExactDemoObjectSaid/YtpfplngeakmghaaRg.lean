/- slices.Grow of nil: a row of its own, empty. -/
import Derived.Test.YtpfplngeakmghaaRta
import Derived.Below
import Derived.Deep.Draws
import Derived.Deep.AppendLies
import Derived.Maps.AppendAt
import Derived.OwnWalk
import Derived.Laws.BytesArg
import Derived.Laws.MakeOwn
import Derived.Laws.OwnMore
import Derived.Deep.OwnRows
import Derived.Tactics
import Derived.Lib.ConvBytes
import Derived.Laws.Slices
import Derived.WalkKit
import Derived.KernelRfl
import Derived.RowKit3
import Derived.Deep.LoopGhost
import Derived.Deep.QuietTactic
import Derived.BigQuiet
import Derived.WideLaws
import Derived.Deep.DeepCutAuto
import Derived.Deep.CutBlock
import Derived.Deep.RegionHeld3
import Derived.Laws.Rows
import Derived.Lib.AppendStr
import Derived.ArgAppend
import Derived.Laws.IdiomCopy
import Derived.OrdersHeld
import Derived.Laws.BitsLemmas
import Derived.RowKit
namespace Go.Proofs.Ytpfplngeakmghaa.R
open Go.Pr Go.RowKit
structure Aside0 (p : Prop) : Prop where
  out : p
set_option linter.unusedVariables false
theorem grown (z : Array Value) (hz : z.size = 5) (w : World) (e n t : Nat) (hn : n ≤ 1000000) :
    (w.alloc (Obj.cells (Builtin.zeroCells z n ++ Builtin.zeroCells z ((Question.appendCap n 0 e).cut t - n)) e)).drew.ownsRow w.heap.size e 5 (.slice (some ⟨w.heap.size, 0, none⟩) 0 ((Question.appendCap n 0 e).cut t)) 0 [] := by
  have hc1 : n ≤ (Question.appendCap n 0 e).cut t := Nat.le_add_right _ _
  have hc2 : (Question.appendCap n 0 e).cut t ≤ maxLen := by
    show n + t % (2 ^ 63 - n) ≤ maxLen
    have := Nat.mod_lt t (show 0 < 2 ^ 63 - n by omega)
    simp only [maxLen]; omega
  generalize (Question.appendCap n 0 e).cut t = c at *
  refine ⟨by simp, .inr ⟨w.heap.size, c, _, rfl, Nat.le_refl _, heap_alloc_new w _, Nat.zero_le _, hc2, ?_, by simp⟩⟩
  simp [Builtin.zeroCells, hz]
  rw [← Nat.add_mul, Nat.add_sub_cancel' (by omega)]
set_option maxHeartbeats 8000000 in
set_option maxRecDepth 100000 in
theorem grow_calls (a0 : Int) (c1' : 0 ≤ a0) (c2 : a0 < 1000000) (w : World) :
    Calls Try.prog 124 #[.slice none 0 0, .int .i64 a0] w fun e w' => ∃ v : Value, e = .returned v ∧ w'.ownsRow w.heap.size 67 5 v 0 [] ∧ Below w.heap.size w w' := by
  have c1 : ¬ a0 < 0 := by omega
  have c1b : decide (a0 < 0) = false := decide_eq_false c1
  by_cases c3 : 0 < a0
  · have c3b : decide (0 < a0) = true := decide_eq_true c3
    have hN : Builtin.nextslicecap a0.toNat 0 = a0.toNat := by unfold Builtin.nextslicecap; rw [if_pos (by omega)]
    have H40 := Aside0.mk (show Try.t67.bytes = 40 from rfl)
    have HN := Aside0.mk hN
    clear hN
    have hC : ¬ (a0.toNat * 5 = 0) := by omega
    go_enter Try.func124, Try.ntmps124
    go_wp2
    iterate 3 (exfalso; simp only [H40.out, HN.out] at *; omega)
    go_ret
    exact ⟨_, rfl, grown _ rfl _ _ _ _ (by omega), ((Below.refl _ _).alloc (Nat.le_refl _) _).drew⟩
  have c3b : decide (0 < a0) = false := decide_eq_false c3
  go_enter Try.func124, Try.ntmps124
  go_wp2
  go_ret
  exact ⟨_, rfl, World.ownsRow_nil _ _ _ _, Below.refl _ _⟩
theorem keptM_of_below {w w' : World} {M : Nat → Nat → Prop} (h : Below w.heap.size w w') : KeptM w w' M where
  os := h.os
  tape := h.tape
  output := h.output
  size := h.size
  block b hlt _ := h.block b hlt
  cells b hlt o _ := ⟨World.cell?_of_block (a := ⟨b, o, none⟩) (h.block b hlt), trivial⟩
  frozen b hlt o := World.frozen?_of_block (a := ⟨b, o, none⟩) (h.block b hlt)
  there b hlt o := by rw [World.cell?_of_block (a := ⟨b, o, none⟩) (h.block b hlt)]
theorem below_of_keptM {w w' : World} (h : KeptM w w' (InL [])) : Below w.heap.size w w' :=
  ⟨h.os, h.tape, h.output, h.size, fun k hk => h.block k hk fun o ⟨l, hl, _⟩ => by simp at hl⟩

theorem prim_ok : PrimOK cfg := by
  intro f p hp args r hr
  simp only [cfg, prims, asc] at hp
  rcases cond_some hp with ⟨hf, hp⟩ | ⟨_, hp⟩
  · have hf := Nat.eq_of_beq_eq_true hf
    subst hf
    cases hp
    dsimp only at hr
    split at hr
    · rename_i n
      cases hc : decide (0 ≤ n) && decide (n < 1000000) with
      | false => rw [hc] at hr; simp at hr
      | true =>
        simp only [Bool.and_eq_true, decide_eq_true_eq] at hc
        have hr' : r = ([] : List _) := by
          rw [show (decide (0 ≤ n) && decide (n < 1000000)) = true by simp [hc]] at hr
          have h2 : (some ([] : List (Ty.den _)) : Option (cfg.Res 124)) = some r := hr
          exact (Option.some.inj h2).symm
        subst hr'
        intro sg hsg S w vals L hS hA
        have hsg' : sg = ⟨[.val none, .val (some (.int .i64))], [(cfg.resTy 124, false)], .own 67⟩ := by
          have : cfg.sig 124 = some ⟨[.val none, .val (some (.int .i64))], [(cfg.resTy 124, false)], .own 67⟩ := by kernel_rfl
          rw [this] at hsg; exact (Option.some.inj hsg).symm
        subst hsg'
        cases hA with
        | val h1 _ t =>
          cases t with
          | val h2 _ t =>
            cases t
            have e1 := RepS.of_v h1 (by simp)
            have e2 := RepS.of_v h2 (by simp)
            simp only [RepC, List.cons.injEq, and_true] at e1 e2
            subst e1
            subst e2
            refine (grow_calls n hc.1 hc.2 w).mono ?_
            rintro e w' ⟨v, rfl, ho, hb⟩
            have hsl : ∀ k, blockOf v = some k → w.heap.size ≤ k ∧ k < w'.heap.size := by
              rcases ho.2 with ⟨rfl, _⟩ | ⟨g, cap, cur, rfl, hg, hh, _⟩
              · intro k hk; simp [blockOf] at hk
              · intro k hk
                simp only [blockOf, Option.some.injEq] at hk
                subst hk
                exact ⟨hg, (Array.getElem?_eq_some_iff.1 hh).1⟩
            have ho0 : w'.ownsRow 0 67 5 v 0 [] := ⟨ho.1, ho.2.imp (fun x => x) fun ⟨g, cap, cur, a1, _, a3⟩ => ⟨g, cap, cur, a1, Nat.zero_le _, a3⟩⟩
            refine ⟨v, [v], [v], [], rfl, rfl, ⟨[v], [], v, [], rfl, rfl, rfl, fun h => by simp at h, fun _ => rfl, rfl, rfl⟩, rfl, ?_, keptM_of_below hb, S, _, fun _ x => x, fun _ => .inl, ⟨v, rfl, ⟨by decide, [], rfl, ho0⟩, rfl, fun k hk => ⟨fun hSk => ?_, (hsl k hk).1, (hsl k hk).2, by simp⟩⟩⟩
            · exact own_list (e := .pair (.int .i64) (.pair (.int .i64) (.pair (.int .i64) (.pair (.int .i64) (.int .i64))))) (xs := []) (vs := []) rfl ho0 fun k hk => .inr (hsl k hk)
            · have := hS k hSk; have := (hsl k hk).1; omega
      
    · simp at hr
  · cases hp
end Go.Proofs.Ytpfplngeakmghaa.R
