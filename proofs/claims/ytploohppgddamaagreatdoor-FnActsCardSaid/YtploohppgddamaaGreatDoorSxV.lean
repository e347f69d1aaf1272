/- The walks of the words of a text. -/
import Derived.Test.YtploohppgddamaaGreatDoorProg
import Derived.Test.YtploohppgddamaaGreatDoorShelf
import Derived.Test.YtploohppgddamaaGreatDoorPsZd
import Derived.Below
import Derived.Deep.Draws
import Derived.OwnWalk
import Derived.Lib.Walk
import Derived.WalkKit
import Derived.BigCall
import Derived.BigGuard
import Derived.Lib.AppendIntMem
import Derived.Lib.SmallJoins
import Derived.WalkSmall
import Derived.Lib.SliceRun
namespace Go.Proofs.YtploohppgddamaaGreatDoor.S
open Go.RowKit Go.Lib Go.Sort
set_option linter.unusedVariables false
theorem blank_gives (x : ByteArray) (W : World) : FnGives Tryz.prog 33 #[] #[.string x] (.bool (Go.Ps.strEq x ⟨#[]⟩)) W := by
  show Calls Tryz.prog 33 #[.string x] W _
  go_enter Tryz.func33, Tryz.ntmps33
  go_wp2
  all_goals (go_ret; exact ⟨by unfold Go.Ps.strEq; simp_all, 0, rfl⟩)
set_option maxHeartbeats 400000 in
set_option maxRecDepth 100000 in
theorem words_walk (s : ByteArray) (n r b : Nat) (w w1 : World) (Q : World → Prop)
    (hS : Calls Tryz.prog 32 #[.string s, .string ⟨#[32]⟩] w fun e w' => e = .returned (.slice (some ⟨b, 0, none⟩) n n) ∧ w' = w1)
    (hD : Calls Tryz.prog 31 #[.slice (some ⟨b, 0, none⟩) n n, .func (.func 33) #[] #[]] w1 fun e w' => e = .returned (.slice (some ⟨b, 0, none⟩) r n) ∧ Q w') :
    Calls Tryz.prog 15 #[.string s] w fun e w' => e = .returned (.slice (some ⟨b, 0, none⟩) r n) ∧ Q w' := by
  go_enter Tryz.func15, Tryz.ntmps15
  go_wp2_with (first | (go_at_call 32; refine hS.mono ?_; rintro e w' ⟨rfl, rfl⟩) | (go_at_call 31; refine hD.mono ?_; rintro e w' ⟨rfl, hq⟩))
  go_ret
  exact ⟨rfl, hq⟩
theorem words_w (s : ByteArray) (hs : s.size ≤ 1048576) (m : Int) (w : World) (hm : w.cell? ⟨2, 0, none⟩ = some (.int .i64 m)) :
    Calls Tryz.prog 15 #[.string s] w fun e w' => ∃ b cap, e = .returned (.slice (some ⟨b, 0, none⟩) (Go.Ps.wordsV s).length cap) ∧ (Go.Ps.wordsV s).length ≤ cap ∧ w.heap.size ≤ b ∧ b < w'.heap.size ∧ w'.rangeAt b 0 ((Go.Ps.wordsV s).map Value.string) ∧ Below w.heap.size w w' := by
  obtain ⟨L, hL⟩ : ∃ L, Lib.splitB Go.Ps.blankB 0 (Lib.countB s Go.Ps.blankB) s = L := ⟨_, rfl⟩
  have hlen : L.length = Lib.countB s Go.Ps.blankB + 1 := by rw [← hL]; exact Lib.splitB_all _ (by decide) 0 _ s rfl
  have hle := Lib.countB_le Go.Ps.blankB (by decide) s.size s (Nat.le_refl _)
  have hV : Go.Ps.wordsV s = L.filter fun x => !Go.Ps.strEq x ⟨#[]⟩ := by unfold Go.Ps.wordsV; rw [hL]
  have hS := Tryz.strings_Split s Go.Ps.blankB m w (by omega) hm (by decide)
  rw [hL, ← hlen] at hS
  have eg : ∀ args w, (callFunc 33 args).run Tryz.prog w = .ok (.enter 33 args) w := enters_of Tryz.func33 (by kernel_rfl) rfl
  have hH : Holds Value.string (w.alloc (.cells (L.map Value.string).toArray 9)) w.heap.size 0 L.toArray := by
    intro j hj
    have hj' : j < L.length := by simpa using hj
    refine ⟨?_, World.frozen?_alloc_new w _ _ _⟩
    rw [World.cell?_alloc_new, Nat.zero_add, getElem!_pos L.toArray j hj]
    simp [hj']
  have hD := Tryz.slices_DeleteFunc Value.string (fun _ => rfl) (fun x => Go.Ps.strEq x ⟨#[]⟩) 33 #[] eg (⟨#[]⟩ : ByteArray) Tryz.zeroValue9 w.heap.size 0 L.length L.toArray (w.alloc (.cells (L.map Value.string).toArray 9)) (fun W x _ => blank_gives x W) (fun n os dk x _ => blank_gives x _) hH (by simp; omega) (by simp)
  simp only [List.size_toArray] at hD
  obtain ⟨w1, hw1⟩ : ∃ w1, w.alloc (.cells (L.map Value.string).toArray 9) = w1 := ⟨_, rfl⟩
  rw [hV]
  have hR : (L.filter fun x => !Go.Ps.strEq x ⟨#[]⟩).length ≤ L.length := List.length_filter_le _ _
  generalize (L.filter fun x => !Go.Ps.strEq x ⟨#[]⟩) = R at hD hR ⊢
  rw [hw1] at hS hD hH
  change Calls Tryz.prog 32 #[.string s, .string ⟨#[32]⟩] w _ at hS
  have hW := words_walk s L.length R.length w.heap.size w w1 _ hS hD
  refine hW.mono ?_
  rintro e w' ⟨rfl, q, rfl⟩
  have hz : (R ++ List.replicate (L.length - R.length) (⟨#[]⟩ : ByteArray)).toArray.size = L.toArray.size := by simp; omega
  refine ⟨w.heap.size, L.length, rfl, hR, Nat.le_refl _, ?_, ?_, ?_⟩
  · rw [size_putRow]
    show w.heap.size < w1.heap.size
    rw [← hw1]; simp
  · intro j v hj
    have hj1 : j < R.length := by
      have := (List.getElem?_eq_some_iff.1 hj).1
      simpa using this
    have hc := cell?_putRow Value.string (Sort.ahead w1 q) w.heap.size 0 L.toArray _ (holds_ahead _ _ q _ _ _ hH) hz j (by simp; omega)
    rw [hc]
    rw [getElem!_pos _ j (by simp; omega)]
    simp [hj1, List.getElem_append_left hj1] at hj ⊢
    exact hj
  · have e1 : w1.os = w.os ∧ w1.tape = w.tape ∧ w1.output = w.output := by rw [← hw1]; exact ⟨rfl, rfl, rfl⟩
    refine ⟨e1.1, e1.2.1, e1.2.2, ?_, fun k hk => ?_⟩
    · rw [size_putRow]
      show w.heap.size ≤ w1.heap.size
      rw [← hw1]; simp
    · simp only [putRow, mapBlock, Array.getElem?_modify]
      rw [if_neg (by omega)]
      show w1.heap[k]? = _
      rw [← hw1]
      show (w.heap.push _)[k]? = _
      rw [Array.getElem?_push, if_neg (by omega)]
theorem join_w (xs : List ByteArray) (sep : ByteArray) (p : Option Addr) (cap : Nat) (w : World) (h1 : xs.length ≤ 1048576) (h2 : (Go.Ps.joinV xs sep).size ≤ 140737488355328) (h3 : xs.length ≤ cap) (h : xs = [] ∨ ∃ b o, p = some ⟨b, o, none⟩ ∧ b < w.heap.size ∧ w.rangeAt b o (xs.map Value.string)) :
    Calls Tryz.prog 30 #[.slice p xs.length cap, .string sep] w fun e w' => e = .returned (.string (Go.Ps.joinV xs sep)) ∧ Below w.heap.size w w' := by
  rcases h with rfl | ⟨b, o, rfl, hb, hr⟩
  · refine (Tryz.strings_Join_none p cap sep w).mono ?_
    rintro e w' ⟨rfl, rfl⟩
    refine ⟨?_, Below.refl _ _⟩
    unfold Go.Ps.joinV Lib.join
    simp
  · exact Tryz.strings_Join b o cap xs sep w (fun j x hj => hr j _ (by rw [List.getElem?_map, hj]; rfl)) hb (by omega) h3 (by have e : (Go.Ps.joinV xs sep).size = (Lib.join (xs.map (·.data.toList)) sep.data.toList).length := rfl; omega)
end Go.Proofs.YtploohppgddamaaGreatDoor.S
