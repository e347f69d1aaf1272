/- strconv's contract at this program; what the world holds: the table of powers of ten. -/
import Derived.Test.YtploohppgddamaaGreatDoorSxIa
import Derived.Test.YtploohppgddamaaGreatDoorShelf
import Derived.Test.YtploohppgddamaaGreatDoorSxV
import Derived.Shelf.Strconv.Itoa3
import Derived.Lib.AppendIntMem
import Derived.Below
import Derived.Deep.Draws
import Derived.OwnWalk
import Derived.Lib.Walk
import Derived.WalkKit
import Derived.BigCall
import Derived.BigGuard
import Derived.Lib.SmallJoins
import Derived.WalkSmall
namespace Go.Proofs.YtploohppgddamaaGreatDoor.S
open Go.Ps Go.RowKit
theorem g_tab : Tryz.prog.globalNamed "internal/strconv.uint64pow10" = some 5 := by kernel_rfl
noncomputable abbrev inv : Inv := (tabInv Tryz.prog "internal/strconv.uint64pow10" 5 .u64 Lib.pow10Tab g_tab).and ((cellInv 0 (fun v => v = .nilIface ∨ ∃ te pe, v = .iface te pe)).and (cellInv 2 (fun v => ∃ m, v = .int .i64 m)))
theorem inv_tab {S : Nat → Prop} {w : World} (h : inv.at_ S w) : Lib.TabIs Tryz.prog w "internal/strconv.uint64pow10" .u64 Lib.pow10Tab := h.1.2
theorem inv_syn {S : Nat → Prop} {w : World} (h : inv.at_ S w) : ∃ v, w.cell? ⟨0, 0, none⟩ = some v ∧ (v = .nilIface ∨ ∃ te pe, v = .iface te pe) := h.2.1.2
theorem inv_max {S : Nat → Prop} {w : World} (h : inv.at_ S w) : ∃ m, w.cell? ⟨2, 0, none⟩ = some (.int .i64 m) := by
  obtain ⟨v, h1, m, h2⟩ := h.2.2.2
  exact ⟨m, by rw [h1, h2]⟩
set_option maxHeartbeats 8000000 in
set_option maxRecDepth 100000 in
theorem within_w (n a b : Int) (w : World) : Calls Tryz.prog 23 #[.int .i64 n, .int .i64 a, .int .i64 b] w fun e w' => e = .returned (.bool (decide (a ≤ n) && decide (n ≤ b))) ∧ w' = w := by
  go_enter Tryz.func23, Tryz.ntmps23
  go_wp2
  all_goals
    go_ret
    refine ⟨?_, rfl⟩
    simp_all <;> omega
set_option maxHeartbeats 8000000 in
set_option maxRecDepth 100000 in
theorem intText_w (n : Int) (h0 : -9223372036854775808 ≤ n) (h1 : n ≤ 9223372036854775807) (w : World) (htab : Lib.TabIs Tryz.prog w "internal/strconv.uint64pow10" .u64 Lib.pow10Tab) : Calls Tryz.prog 39 #[.int .i64 n] w fun e w' => e = .returned (.string ⟨(Lib.itoa n).toArray⟩) ∧ Below w.heap.size w w' := by
  go_enter Tryz.func39, Tryz.ntmps39
  go_wp2_with (go_at_call 56; refine (Tryz.strconv_Itoa n h0 h1 _ htab).mono ?_; rintro e w' ⟨rfl, k, os, rfl⟩)
  go_ret
  exact ⟨rfl, Lib.below_grow _ _ (Nat.le_refl _) _ _⟩
set_option maxHeartbeats 8000000 in
set_option maxRecDepth 100000 in
theorem readInt_far (s d : ByteArray) (hd : (⟨(Lib.trimPrefix s.data.toList [45]).toArray⟩ : ByteArray) = d) (h : (decide (1 ≤ (d.size : Int)) && decide ((d.size : Int) ≤ 18)) = false) (w : World) : Calls Tryz.prog 29 #[.string s] w fun e w' => e = .returned (.tuple #[.int .i64 0, .bool false]) ∧ w' = w := by
  have hT := Tryz.strings_TrimPrefix s ⟨#[45]⟩
  simp only [hd] at hT
  have hW : ∀ w, Calls Tryz.prog 23 #[.int .i64 (d.size : Int), .int .i64 1, .int .i64 18] w fun e w' => e = .returned (.bool false) ∧ w' = w := fun w => h ▸ within_w _ _ _ w
  go_enter Tryz.func29, Tryz.ntmps29
  go_wp2_with (first | (go_at_call 47; refine (hT _).mono ?_; rintro e w' ⟨rfl, rfl⟩) | (go_at_call 23; refine (hW _).mono ?_; rintro e w' ⟨rfl, rfl⟩))
  go_ret2
  exact ⟨rfl, rfl⟩
set_option maxHeartbeats 8000000 in
set_option maxRecDepth 100000 in
theorem readInt_ok (s d : ByteArray) (hd : (⟨(Lib.trimPrefix s.data.toList [45]).toArray⟩ : ByteArray) = d) (h : (decide (1 ≤ (d.size : Int)) && decide ((d.size : Int) ≤ 18)) = true) (hs : s.size ≤ 1048576) (v : Int) (hv : Lib.atoiAll s.data.toList = .ok v) (w : World) (htab : Lib.TabIs Tryz.prog w "internal/strconv.uint64pow10" .u64 Lib.pow10Tab) (hg : 5 < w.heap.size) :
    Calls Tryz.prog 29 #[.string s] w fun e w' => e = .returned (.tuple #[.int .i64 v, .bool (Go.Ps.strEq (Go.Ps.itoaB v) s)]) ∧ Below w.heap.size w w' := by
  obtain ⟨v0, v1⟩ := Lib.atoiAll_bounds hv
  have hT := Tryz.strings_TrimPrefix s ⟨#[45]⟩
  simp only [hd] at hT
  have hW : ∀ w, Calls Tryz.prog 23 #[.int .i64 (d.size : Int), .int .i64 1, .int .i64 18] w fun e w' => e = .returned (.bool true) ∧ w' = w := fun w => h ▸ within_w _ _ _ w
  have hA : Calls Tryz.prog 48 #[.string s] w fun e w' => e = .returned (.tuple #[.int .i64 v, .nilIface]) ∧ Below w.heap.size w w' := (Tryz.strconv_Atoi_ok s (by omega) v hv w).mono fun e w' ⟨he, hw⟩ => ⟨he, by
    rcases hw with rfl | ⟨t, rfl⟩
    · exact Below.refl _ _
    · exact Lib.bytesWorld_below _ _ _⟩
  have hI : ∀ w', Below w.heap.size w w' → Calls Tryz.prog 39 #[.int .i64 v] w' fun e w2 => e = .returned (.string ⟨(Lib.itoa v).toArray⟩) ∧ Below w'.heap.size w' w2 := fun w' hb => intText_w v (by omega) (by omega) w' (by
    unfold Lib.TabIs World.var? at htab ⊢
    simp only [show Tryz.prog.globalNamed "internal/strconv.uint64pow10" = some 5 by kernel_rfl, Option.bind_some] at htab ⊢
    rw [hb.block 5 hg]; exact htab)
  clear htab
  go_enter Tryz.func29, Tryz.ntmps29
  go_wp2_with (first | (go_at_call 47; refine (hT _).mono ?_; rintro e w' ⟨rfl, rfl⟩) | (go_at_call 23; refine (hW _).mono ?_; rintro e w' ⟨rfl, rfl⟩) | (go_at_call 48; refine hA.mono ?_; rintro e w1 ⟨rfl, hb1⟩) | (go_at_call 39; refine (hI _ hb1).mono ?_; rintro e w2 ⟨rfl, hb2⟩))
  go_ret2
  refine ⟨?_, hb1.trans (hb2.mono hb1.size)⟩
  show Ending.returned (.tuple #[.int .i64 v, .bool (Lib.itoa v == s.toList)]) = _
  have e : (Go.Ps.itoaB v).toList = Lib.itoa v := by unfold Go.Ps.itoaB; simp
  unfold Go.Ps.strEq
  rw [e]
set_option maxHeartbeats 8000000 in
set_option maxRecDepth 100000 in
theorem readInt_syn (s d : ByteArray) (hd : (⟨(Lib.trimPrefix s.data.toList [45]).toArray⟩ : ByteArray) = d) (h : (decide (1 ≤ (d.size : Int)) && decide ((d.size : Int) ≤ 18)) = true) (hs : s.size ≤ 1048576) (hv : Lib.atoiAll s.data.toList = .«syntax») (ev : Value) (w : World) (he : w.cell? ⟨0, 0, none⟩ = some ev) (hev : ev = .nilIface ∨ ∃ te pe, ev = .iface te pe) :
    Calls Tryz.prog 29 #[.string s] w fun e w' => e = .returned (.tuple #[.int .i64 0, .bool false]) ∧ Below w.heap.size w w' := by
  have hT := Tryz.strings_TrimPrefix s ⟨#[45]⟩
  simp only [hd] at hT
  have hW : ∀ w, Calls Tryz.prog 23 #[.int .i64 (d.size : Int), .int .i64 1, .int .i64 18] w fun e w' => e = .returned (.bool true) ∧ w' = w := fun w => h ▸ within_w _ _ _ w
  have hA : Calls Tryz.prog 48 #[.string s] w fun e w' => ∃ N, e = .returned (.tuple #[.int .i64 0, .iface 83 (.pointer (some ⟨N, 0, none⟩))]) ∧ Below w.heap.size w w' := (Tryz.strconv_Atoi_syntax s (by omega) hv ev w he hev).mono fun e w' ⟨N, he, _, _, hw⟩ => ⟨N, he, hw⟩
  clear he
  go_enter Tryz.func29, Tryz.ntmps29
  go_wp2_with (first | (go_at_call 47; refine (hT _).mono ?_; rintro e w' ⟨rfl, rfl⟩) | (go_at_call 23; refine (hW _).mono ?_; rintro e w' ⟨rfl, rfl⟩) | (go_at_call 48; refine hA.mono ?_; rintro e w1 ⟨N, rfl, hb1⟩))
  go_ret2
  exact ⟨rfl, hb1⟩
theorem readInt_w (S : Nat → Prop) (s : ByteArray) (w : World) (h : Go.Ps.readOK s = true) (hI : inv.at_ S w) : Calls Tryz.prog 29 #[.string s] w fun e w' => e = .returned (.tuple #[.int .i64 (Go.Ps.readV s).1, .bool (Go.Ps.readV s).2]) ∧ Below w.heap.size w w' := by
  unfold Go.Ps.readOK at h
  unfold Go.Ps.readV
  have hg : 5 < w.heap.size := by
    have h2 := inv_tab hI
    unfold Lib.TabIs World.var? at h2
    simp only [g_tab, Option.bind_some] at h2
    cases hh : w.heap[5]? with
    | none => rw [hh] at h2; cases h2
    | some b => exact (Array.getElem?_eq_some_iff.1 hh).1
  cases hr : Go.Ps.readIn s with
  | false =>
    refine (readInt_far s _ rfl hr w).mono ?_
    rintro e w' ⟨rfl, rfl⟩
    exact ⟨rfl, Below.refl _ _⟩
  | true =>
    rw [hr] at h
    simp only [cond_true] at h ⊢
    have hs : s.size ≤ 1048576 := by
      have h1 := hr
      unfold Go.Ps.readIn Go.Ps.readTrim at h1
      rw [Bool.and_eq_true, decide_eq_true_eq, decide_eq_true_eq] at h1
      have h2 : ((⟨(Lib.trimPrefix s.data.toList [45]).toArray⟩ : ByteArray).size) = (Lib.trimPrefix s.data.toList [45]).length := rfl
      have h3 : s.size = s.data.toList.length := Lib.size_eq s
      rw [h2] at h1
      have h4 : s.data.toList.length ≤ (Lib.trimPrefix s.data.toList [45]).length + 1 := by
        unfold Lib.trimPrefix
        split
        · rw [List.length_drop]; simp only [List.length_cons, List.length_nil]; omega
        · omega
      omega
    cases he : Go.Ps.readEnd s with
    | ok v => exact readInt_ok s _ rfl hr hs v he w (inv_tab hI) hg
    | «syntax» =>
      obtain ⟨ev, hc, hev⟩ := inv_syn hI
      exact readInt_syn s _ rfl hr hs he ev w hc hev
    | range => rw [he] at h; cases h
theorem prim_ok : PrimOKI inv cfg := by
  intro f p hp args r hr
  have hp0 := hp
  simp only [cfg, prims, asc] at hp
  rcases cond_some hp with ⟨hf, hp⟩ | ⟨_, hp⟩
  · have hf := Nat.eq_of_beq_eq_true hf
    subst hf
    cases hp
    exact primWords_ok (C := cfg) (I := inv) (by kernel_rfl) (fun S s w h hI => by obtain ⟨m, hm⟩ := inv_max hI; exact words_w s h m w hm) _ _ hr
  rcases cond_some hp with ⟨hf, hp⟩ | ⟨_, hp⟩
  · have hf := Nat.eq_of_beq_eq_true hf
    subst hf
    cases hp
    exact primReadInt_ok (C := cfg) (I := inv) (by kernel_rfl) readInt_w _ _ hr
  rcases cond_some hp with ⟨hf, hp⟩ | ⟨_, hp⟩
  · have hf := Nat.eq_of_beq_eq_true hf
    subst hf
    cases hp
    exact primJoin_ok (C := cfg) (I := inv) (by kernel_rfl) (fun xs sep p cap w h1 h2 h3 h => join_w xs sep p cap w h1 h2 h3 h) _ _ hr
  rcases cond_some hp with ⟨hf, hp⟩ | ⟨_, hp⟩
  · have hf := Nat.eq_of_beq_eq_true hf
    subst hf
    cases hp
    exact primItoa_ok (C := cfg) (I := inv) (by kernel_rfl) (fun S n w h1 h2 hI => (Tryz.internal_strconv_FormatInt_10 n h1 h2 w (inv_tab hI)).mono fun e w' ⟨he, k, os, hw⟩ => ⟨he, hw ▸ Lib.below_grow _ _ (Nat.le_refl _) _ _⟩) _ _ hr
  simp at hp
end Go.Proofs.YtploohppgddamaaGreatDoor.S
