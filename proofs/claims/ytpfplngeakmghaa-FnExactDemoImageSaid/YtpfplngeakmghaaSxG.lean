/- What the library's functions of this program come to: slices.Grow of nil; strings.Repeat. -/
import Derived.Test.YtpfplngeakmghaaSxIa
import Derived.Test.YtpfplngeakmghaaShelf
import Derived.Below
import Derived.Deep.Draws
import Derived.Deep.AppendLies
import Derived.Maps.AppendAt
import Derived.OwnWalk
import Derived.Laws.BytesArg
import Derived.Laws.MakeOwn
import Derived.Laws.OwnMore
import Derived.Deep.OwnRows
import Derived.Tactics
import Derived.Lib.ConvBytes
import Derived.Laws.Slices
import Derived.WalkKit
import Derived.KernelRfl
import Derived.RowKit3
import Derived.Deep.LoopGhost
import Derived.Deep.QuietTactic
import Derived.BigQuiet
import Derived.WideLaws
import Derived.Deep.DeepCutAuto
import Derived.Deep.CutBlock
import Derived.Deep.RegionHeld3
import Derived.Laws.Rows
import Derived.Lib.AppendStr
import Derived.ArgAppend
import Derived.Laws.IdiomCopy
import Derived.OrdersHeld
import Derived.Laws.BitsLemmas
import Derived.RowKit
namespace Go.Proofs.Ytpfplngeakmghaa.S
open Go.Ps Go.RowKit
structure Aside0 (p : Prop) : Prop where
  out : p
set_option linter.unusedVariables false
theorem grown (z : Array Value) (hz : z.size = 5) (w : World) (e n t : Nat) (hn : n ≤ 1000000) :
    (w.alloc (Obj.cells (Builtin.zeroCells z n ++ Builtin.zeroCells z ((Question.appendCap n 0 e).cut t - n)) e)).drew.ownsRow w.heap.size e 5 (.slice (some ⟨w.heap.size, 0, none⟩) 0 ((Question.appendCap n 0 e).cut t)) 0 [] := by
  have hc1 : n ≤ (Question.appendCap n 0 e).cut t := Nat.le_add_right _ _
  have hc2 : (Question.appendCap n 0 e).cut t ≤ maxLen := by
    show n + t % (2 ^ 63 - n) ≤ maxLen
    have := Nat.mod_lt t (show 0 < 2 ^ 63 - n by omega)
    simp only [maxLen]; omega
  generalize (Question.appendCap n 0 e).cut t = c at *
  refine ⟨by simp, .inr ⟨w.heap.size, c, _, rfl, Nat.le_refl _, heap_alloc_new w _, Nat.zero_le _, hc2, ?_, by simp⟩⟩
  simp [Builtin.zeroCells, hz]
  rw [← Nat.add_mul, Nat.add_sub_cancel' (by omega)]
set_option maxHeartbeats 8000000 in
set_option maxRecDepth 100000 in
theorem grow_calls (a0 : Int) (c1' : 0 ≤ a0) (c2 : a0 < 1000000) (w : World) :
    Calls Try.prog 124 #[.slice none 0 0, .int .i64 a0] w fun e w' => ∃ v : Value, e = .returned v ∧ w'.ownsRow w.heap.size 67 5 v 0 [] ∧ Below w.heap.size w w' := by
  have c1 : ¬ a0 < 0 := by omega
  have c1b : decide (a0 < 0) = false := decide_eq_false c1
  by_cases c3 : 0 < a0
  · have c3b : decide (0 < a0) = true := decide_eq_true c3
    have hN : Builtin.nextslicecap a0.toNat 0 = a0.toNat := by unfold Builtin.nextslicecap; rw [if_pos (by omega)]
    have H40 := Aside0.mk (show Try.t67.bytes = 40 from rfl)
    have HN := Aside0.mk hN
    clear hN
    have hC : ¬ (a0.toNat * 5 = 0) := by omega
    go_enter Try.func124, Try.ntmps124
    go_wp2
    iterate 3 (exfalso; simp only [H40.out, HN.out] at *; omega)
    go_ret
    exact ⟨_, rfl, grown _ rfl _ _ _ _ (by omega), ((Below.refl _ _).alloc (Nat.le_refl _) _).drew⟩
  have c3b : decide (0 < a0) = false := decide_eq_false c3
  go_enter Try.func124, Try.ntmps124
  go_wp2
  go_ret
  exact ⟨_, rfl, World.ownsRow_nil _ _ _ _, Below.refl _ _⟩
theorem prim_ok : PrimOK cfg := by
  intro f p hp
  simp only [cfg, prims, asc] at hp
  rcases cond_some hp with ⟨hf, hp⟩ | ⟨_, hp⟩
  · have hf := Nat.eq_of_beq_eq_true hf
    subst hf
    cases hp
    exact primRepeat_ok (C := cfg) (by kernel_rfl) (fun s c w h1 h2 => Try.strings_Repeat s c w h1 h2)
  rcases cond_some hp with ⟨hf, hp⟩ | ⟨_, hp⟩
  · have hf := Nat.eq_of_beq_eq_true hf
    subst hf
    cases hp
    exact primGrow_ok (C := cfg) (T := 67) (by decide) (by kernel_rfl) (fun n w h1 h2 => grow_calls n h1 h2 w)
  simp at hp
end Go.Proofs.Ytpfplngeakmghaa.S
