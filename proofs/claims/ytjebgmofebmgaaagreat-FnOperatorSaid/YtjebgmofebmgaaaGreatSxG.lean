/- What the library's functions of this program come to: slices.Clone, slices.Insert at the end, strings.Repeat. -/
import Derived.Test.YtjebgmofebmgaaaGreatSxIa
import Derived.Test.YtjebgmofebmgaaaGreatPsZg
import Derived.Test.YtjebgmofebmgaaaGreatPsZh
import Derived.Test.YtjebgmofebmgaaaGreatShelf
import Derived.Below
import Derived.Deep.RegionLaw
import Derived.Deep.Draws
import Derived.Deep.AppendLies
import Derived.Maps.AppendAt
import Derived.OwnWalk
import Derived.Laws.MakeOwn
import Derived.Laws.OwnMore
import Derived.Deep.OwnRows
import Derived.Tactics
import Derived.Laws.Slices
import Derived.WalkKit
import Derived.KernelRfl
import Derived.RowKit3
import Derived.Deep.LoopGhost
import Derived.Deep.QuietTactic
import Derived.BigQuiet
import Derived.WideLaws
import Derived.Deep.DeepCutAuto
import Derived.Deep.CutBlock
import Derived.Deep.RegionHeld3
import Derived.Laws.Rows
import Derived.ArgAppend
import Derived.Laws.IdiomCopy
import Derived.OrdersHeld
import Derived.RowKit
import Derived.Shelf.RegionOpenPlain
import Derived.Lib.Walk
import Derived.Lib.SliceRun
namespace Go.Proofs.YtjebgmofebmgaaaGreat.S
open Go.Ps Go.RowKit Go.Lib Go.Shelf Go.Proofs
set_option linter.unusedVariables false
structure AsideC (p : Prop) : Prop where
  out : p
theorem L25 : SlLaysE0.n41 Tryz.prog (rn 25 23 81) := ⟨by kernel_rfl, ⟨Tryz.f25.name, by decide, Tryz.func25.trans (congrArg some (by kernel_rfl))⟩, Tryz.underlying4, Tryz.isAgg4, Tryz.sizeOf4, Tryz.zeroValue4, Tryz.underlying23, Tryz.isAgg23, Tryz.sizeOf23, Tryz.zeroValue23⟩
theorem L104 : SlLaysE0.n41 Tryz.prog (rn 104 29 50) := ⟨by kernel_rfl, ⟨Tryz.f104.name, by decide, Tryz.func104.trans (congrArg some (by kernel_rfl))⟩, Tryz.underlying4, Tryz.isAgg4, Tryz.sizeOf4, Tryz.zeroValue4, Tryz.underlying29, Tryz.isAgg29, Tryz.sizeOf29, Tryz.zeroValue29⟩
theorem L76 : SlLaysE0.n41 Tryz.prog (rn 76 48 3) := ⟨by kernel_rfl, ⟨Tryz.f76.name, by decide, Tryz.func76.trans (congrArg some (by kernel_rfl))⟩, Tryz.underlying4, Tryz.isAgg4, Tryz.sizeOf4, Tryz.zeroValue4, Tryz.underlying48, Tryz.isAgg48, Tryz.sizeOf48, Tryz.zeroValue48⟩
theorem L53 : SlLaysE0.n41 Tryz.prog (rn 53 30 111) := ⟨by kernel_rfl, ⟨Tryz.f53.name, by decide, Tryz.func53.trans (congrArg some (by kernel_rfl))⟩, Tryz.underlying4, Tryz.isAgg4, Tryz.sizeOf4, Tryz.zeroValue4, Tryz.underlying30, Tryz.isAgg30, Tryz.sizeOf30, Tryz.zeroValue30⟩
theorem L54 : SlLaysE0.n41 Tryz.prog (rn 54 31 114) := ⟨by kernel_rfl, ⟨Tryz.f54.name, by decide, Tryz.func54.trans (congrArg some (by kernel_rfl))⟩, Tryz.underlying4, Tryz.isAgg4, Tryz.sizeOf4, Tryz.zeroValue4, Tryz.underlying31, Tryz.isAgg31, Tryz.sizeOf31, Tryz.zeroValue31⟩
theorem L75 : SlLaysE0.n41 Tryz.prog (rn 75 144 150) := ⟨by kernel_rfl, ⟨Tryz.f75.name, by decide, Tryz.func75.trans (congrArg some (by kernel_rfl))⟩, Tryz.underlying4, Tryz.isAgg4, Tryz.sizeOf4, Tryz.zeroValue4, Tryz.underlying144, Tryz.isAgg144, Tryz.sizeOf144, Tryz.zeroValue144⟩
theorem L77 : SlLaysE0.n41 Tryz.prog (rn 77 60 9) := ⟨by kernel_rfl, ⟨Tryz.f77.name, by decide, Tryz.func77.trans (congrArg some (by kernel_rfl))⟩, Tryz.underlying4, Tryz.isAgg4, Tryz.sizeOf4, Tryz.zeroValue4, Tryz.underlying60, Tryz.isAgg60, Tryz.sizeOf60, Tryz.zeroValue60⟩
theorem L103 : SlLaysE0.n41 Tryz.prog (rn 103 26 175) := ⟨by kernel_rfl, ⟨Tryz.f103.name, by decide, Tryz.func103.trans (congrArg some (by kernel_rfl))⟩, Tryz.underlying4, Tryz.isAgg4, Tryz.sizeOf4, Tryz.zeroValue4, Tryz.underlying26, Tryz.isAgg26, Tryz.sizeOf26, Tryz.zeroValue26⟩
theorem L129 : SlLaysE0.n41 Tryz.prog (rn 129 136 205) := ⟨by kernel_rfl, ⟨Tryz.f129.name, by decide, Tryz.func129.trans (congrArg some (by kernel_rfl))⟩, Tryz.underlying4, Tryz.isAgg4, Tryz.sizeOf4, Tryz.zeroValue4, Tryz.underlying136, Tryz.isAgg136, Tryz.sizeOf136, Tryz.zeroValue136⟩
theorem L130 : SlLaysE0.n41 Tryz.prog (rn 130 137 208) := ⟨by kernel_rfl, ⟨Tryz.f130.name, by decide, Tryz.func130.trans (congrArg some (by kernel_rfl))⟩, Tryz.underlying4, Tryz.isAgg4, Tryz.sizeOf4, Tryz.zeroValue4, Tryz.underlying137, Tryz.isAgg137, Tryz.sizeOf137, Tryz.zeroValue137⟩
theorem L131 : SlLaysE0.n41 Tryz.prog (rn 131 138 211) := ⟨by kernel_rfl, ⟨Tryz.f131.name, by decide, Tryz.func131.trans (congrArg some (by kernel_rfl))⟩, Tryz.underlying4, Tryz.isAgg4, Tryz.sizeOf4, Tryz.zeroValue4, Tryz.underlying138, Tryz.isAgg138, Tryz.sizeOf138, Tryz.zeroValue138⟩
theorem L132 : SlLaysE0.n41 Tryz.prog (rn 132 139 214) := ⟨by kernel_rfl, ⟨Tryz.f132.name, by decide, Tryz.func132.trans (congrArg some (by kernel_rfl))⟩, Tryz.underlying4, Tryz.isAgg4, Tryz.sizeOf4, Tryz.zeroValue4, Tryz.underlying139, Tryz.isAgg139, Tryz.sizeOf139, Tryz.zeroValue139⟩
theorem own_form {w : World} {B T z n : Nat} {v : Value} {us : List Value} (h : w.ownsRow B T z v n us) : ∃ q cp, v = .slice q n cp := by
  rcases h.2 with ⟨rfl, rfl⟩ | ⟨g, cap, cur, rfl, _⟩
  · exact ⟨_, _, rfl⟩
  · exact ⟨_, _, rfl⟩
structure AsideO (p : Prop) : Prop where
  out : p
set_option maxHeartbeats 8000000 in
set_option maxRecDepth 100000 in
theorem own_w (hT : ∀ (p : Option Addr) (m c : Nat) (news : List Value) (w : World), SliceOf w p m c news 36 → m ≤ maxLen → m * 304 ≤ 140737488355328 → Calls Tryz.prog 104 #[.slice p m c] w fun x w' => ∃ v : Value, x = .returned v ∧ w'.ownsRow w.heap.size 50 36 v m news ∧ Below w.heap.size w w')
    (hI : ∀ (p : Option Addr) (m c : Nat) (news : List Value) (w : World), SliceOf w p m c news 1 → m ≤ maxLen → m * 8 ≤ 140737488355328 → Calls Tryz.prog 76 #[.slice p m c] w fun x w' => ∃ v : Value, x = .returned v ∧ w'.ownsRow w.heap.size 3 1 v m news ∧ Below w.heap.size w w')
    (S : Nat → Prop) (p : Option Addr) (m c : Nat) (news : List Value) (xs : List OTh.den) (w : World) (hS : ∀ k, S k → k < w.heap.size) (hm : m = xs.length) (hsl : SliceOf w p m c news 36) (hrows : RepRows (RepT S w OTh) xs news) (hok : ownOK xs = true) :
    Calls Tryz.prog 52 #[.slice p m c] w fun x w' => ∃ (v : Value) (us : List Value) (B : List Nat), x = .returned v ∧ w'.ownsRow w.heap.size 50 36 v m us ∧ RowsB (RepF S w' OTh (OFl 3)) xs us B ∧ B.Nodup ∧ (∀ k ∈ B, w.heap.size ≤ k ∧ k < w'.heap.size ∧ blockOf v ≠ some k) ∧ Below w.heap.size w w' := by
  have hl : news.length = m * 36 := hsl.len
  unfold ownOK at hok
  rw [Bool.and_eq_true] at hok
  obtain ⟨hb1, hb2⟩ := room hok.1
  have hC := hT p m c news w hsl (by simp only [maxLen]; omega) (by omega)
  have hin : ∀ x ∈ xs, (x.2.2.1 : List Int).length ≤ maxLen ∧ (x.2.2.1 : List Int).length * 8 ≤ 140737488355328 := fun x hx => by
    obtain ⟨q1, q2⟩ := room ((List.all_eq_true.1 hok.2) x hx)
    exact ⟨by simp only [maxLen]; omega, q1⟩
  clear hok hT
  have A := AsideO.mk (And.intro hS (And.intro hm (And.intro hsl (And.intro hrows (And.intro hl (And.intro hin hI))))))
  clear hS hm hsl hrows hl hin hI hb1 hb2
  go_enter Tryz.func52, Tryz.ntmps52
  go_wp2_with (go_at_call 104; refine hC.mono ?_; rintro e w1 ⟨v, rfl, hown, hbel⟩; obtain ⟨q, cp, rfl⟩ := own_form hown)
  have A2 := AsideO.mk (And.intro hown hbel)
  clear hown hbel
  go_loopg [10] m (fun k s10 wr => ∃ j : Nat, j ≤ m ∧ k = m - j ∧ s10 = .int .i64 j ∧ OwnInv S 50 3 (.slice q m cp) xs news w j wr)
  case atStart =>
    obtain ⟨hS, hm, hsl, hrows, hl, hin, hI⟩ := A.out
    obtain ⟨hown, hbel⟩ := A2.out
    subst hm
    exact ⟨0, Nat.zero_le _, rfl, rfl, OwnInv.start hown hbel⟩
  case round =>
    obtain ⟨j, hj, rfl, rfl, hOI⟩ := hrel
    have AI := AsideO.mk hOI
    clear hOI
    by_cases hjm : (j : Int) < (m : Int)
    · obtain ⟨g, rfl⟩ : ∃ g, q = some ⟨g, 0, none⟩ := by
        obtain ⟨lo, hb, ua, B, h1, _⟩ := AI.out
        rcases h1.2 with ⟨e, _⟩ | ⟨g, cap, cur, e, _⟩
        · simp only [Value.slice.injEq] at e; omega
        · simp only [Value.slice.injEq] at e; exact ⟨g, e.1⟩
      obtain ⟨hS, hm, hsl, hrows, hl, hin, hI⟩ := A.out
      have hjx : j < xs.length := by omega
      obtain ⟨u1, u2, u3, u4, l1, l2, l3, l4, he, a1, a2, a3, a4⟩ := elem_cells hrows j hjx
      obtain ⟨p', c', news', hv', hsl', hrows'⟩ := sliceOf_rep a3
      obtain ⟨cs, hcs⟩ : ∃ cs, u1 ++ (u2 ++ (u3 ++ u4)) = cs := ⟨_, rfl⟩
      rw [hcs] at he
      have hlen : cs.length = 36 := by rw [← hcs]; simp; omega
      have h34 : cs[34]? = some (.slice p' (xs[j].2.2.1 : List Int).length c') := by
        rw [← hcs, hv', List.getElem?_append_right (by omega), List.getElem?_append_right (by omega), List.getElem?_append_left (by simp; omega)]
        simp [l1, l2]
      have hone : ∀ v ∈ cs, v.oneCell' = true := by
        rw [← hcs]
        intro v hv
        rcases List.mem_append.1 hv with hv | hv
        · exact RepT.one _ _ _ a1 v hv
        rcases List.mem_append.1 hv with hv | hv
        · exact RepT.one _ _ _ a2 v hv
        rcases List.mem_append.1 hv with hv | hv
        · exact RepT.one _ _ _ a3 v hv
        · exact RepT.one _ _ _ a4 v hv
      have hrange : wr.rangeAt g (j * 36) cs := by
        obtain ⟨lo, hb, ua, B, h1, h2, _⟩ := AI.out
        intro i u hu
        have hi := (List.getElem?_eq_some_iff.1 hu).1
        have := ownsRow_range (by have := ownsRow_len h1 rfl; rw [← this] at h1; exact h1) (j * 36 + i) u (by rw [List.getElem?_append_right (by omega), h2, show j * 36 + i - j * 36 = i by omega, he, List.getElem?_append_left hi]; exact hu)
        simpa using this
      have hth : wr.there g (j * 36 + 34) 1 ∧ g < wr.heap.size := by
        obtain ⟨lo, hb, ua, B, h1, h2, _⟩ := AI.out
        have e := ownsRow_len h1 rfl
        rw [← e] at h1
        refine ⟨ownsRow_there h1 (by have := h1.1; omega), ?_⟩
        rcases h1.2 with ⟨hh, _⟩ | ⟨g', cap, cur, hh, _, hh2, _⟩
        · simp at hh
        · simp only [Value.slice.injEq, Option.some.injEq, Addr.mk.injEq, and_true, true_and] at hh
          obtain ⟨rfl, rfl⟩ := hh
          exact (Array.getElem?_eq_some_iff.1 hh2).1
      have hinf : (Tryz.prog.info? 50).map (·.size) = some 36 := by
        obtain ⟨⟨i0, z, hi, hz1, _⟩, _⟩ := cfg_ok.ti 50 _ rfl
        have hi' : Tryz.prog.info? 50 = some i0 := hi
        rw [hi']; exact congrArg some hz1
      have hSr : Holds S w wr := fun b hb => by
        obtain ⟨lo, hbe, _⟩ := AI.out
        exact hbe.block b (hS b hb)
      have hJ : ∀ w2, Below wr.heap.size wr w2 → Calls Tryz.prog 76 #[.slice p' (xs[j].2.2.1 : List Int).length c'] w2 fun x w' => ∃ (v' : Value) (us' : List Value), x = .returned v' ∧ w'.ownsRow wr.heap.size 3 1 v' (xs[j].2.2.1 : List Int).length us' ∧ RepRows (RepT S w' (.int .i64)) (xs[j].2.2.1 : List Int) us' ∧ Below wr.heap.size wr w' ∧ (w'.cell? ⟨g, j * 36 + 34, none⟩).isSome = true ∧ w'.frozen? ⟨g, j * 36 + 34, none⟩ = false := fun w2 hb2 => by
        obtain ⟨lo, hbe, _⟩ := AI.out
        have hh2 : Holds S w w2 := fun b hb => by rw [← hSr b hb]; exact hb2.block b (Nat.lt_of_lt_of_le (hS b hb) hbe.size)
        have a3' := RepT.keep (fun _ x => x) hh2 _ _ _ a3
        obtain ⟨p2, c2, news2, hv2, hsl2, hrows2⟩ := sliceOf_rep a3'
        rw [hv'] at hv2
        simp only [List.cons.injEq, Value.slice.injEq, and_true, true_and] at hv2
        obtain ⟨rfl, rfl⟩ := hv2
        obtain ⟨q1, q2⟩ := hin _ (List.getElem_mem hjx)
        refine (hI p' _ c' news2 w2 hsl2 q1 q2).mono ?_
        rintro e w' ⟨v', rfl, ho, hb3⟩
        have hbw := hb2.trans (hb3.mono hb2.size)
        have ht := there_of_block hth.1 (hbw.block g hth.2) 0 (by decide)
        refine ⟨v', news2, rfl, ownsRow_base (ownsRow_zero ho) (fun k hk => ?_), RepRows.imp (RepT.free _ rfl) _ _ hrows2, hbw, ht.1, ht.2⟩
        rcases ho.2 with ⟨rfl, _⟩ | ⟨g', cap, cur, rfl, hg, _⟩
        · simp [blockOf] at hk
        · simp only [blockOf, Option.some.injEq] at hk; have := hb2.size; omega
      have AJ := AsideO.mk hJ
      have AF := AsideO.mk (And.intro hone (And.intro hlen (And.intro hinf (And.intro hrange h34))))
      clear hS hm hsl hrows hl hin hI he a1 a2 a3 a4 hv' hsl' hrows' hcs l1 l2 l3 l4 hth hSr hJ hone hlen hinf hrange h34
      go_wp2_with (first
        | (refine wpList_load_mid rfl 50 (.tmp 13) rfl g (j * 36) rfl cs _ AF.out.2.2.2.1 Tryz.underlying50 rfl (by rw [AF.out.2.2.1, AF.out.2.1]) ?_)
        | (refine wpList_store_fresh wr _ 50 rfl cs (by rw [AF.out.2.1]; rfl) rfl 50 (.tmp 5) (.tmp 14) rfl rfl rfl (by rw [AF.out.2.2.1, AF.out.2.1]) AF.out.1 ?_; intro w2 hb2 hc2; have hc34 := hc2 34 _ AF.out.2.2.2.2; have AB := AsideO.mk hb2; clear hc2 hb2)
        | (go_at_call 76; refine (AJ.out _ AB.out).mono ?_; rintro e w3 ⟨v', us', rfl, hov, hrv, hbw, hce, hfr⟩; obtain ⟨vv, hvv⟩ := Option.isSome_iff_exists.1 hce; obtain ⟨q', cp', rfl⟩ := own_form hov; have AO := AsideO.mk (And.intro hov (And.intro hrv hbw)); clear hov hrv hbw hce))
      obtain ⟨hS, hm, hsl, hrows, hl, hin, hI⟩ := A.out
      obtain ⟨hov, hrv, hbw⟩ := AO.out
      have hjw : wrap64 ((j : Int) + 1) = ((j + 1 : Nat) : Int) := by
        have hmx : xs.length ≤ 9223372036854775807 := by
          have h1 := AI.out.row
          obtain ⟨ua, B, h1, _⟩ := h1
          rcases h1.2 with ⟨hh, _⟩ | ⟨g', cap, cur, hh, _, _, q1, q2, _⟩
          · simp at hh
          · simp only [maxLen] at q2; omega
        rw [IntWalk.wrap64_in _ ⟨by omega, by omega⟩]; omega
      go_roundg (m - (j + 1))
      case measure => omega
      case rel => exact ⟨j + 1, by omega, rfl, by rw [hjw], AI.out.step hS hrows hjx hbw hov hrv⟩
    · go_wp2
      obtain ⟨hS, hm, hsl, hrows, hl, hin, hI⟩ := A.out
      have hjm' : j = xs.length := by omega
      subst hjm'
      subst hm
      obtain ⟨us, B, r1, r2, r3, r4, r5⟩ := AI.out.fin hl
      go_ret
      exact ⟨_, rfl, us, r1, B, r2, r3, r4, r5⟩
set_option maxHeartbeats 8000000 in
set_option maxRecDepth 100000 in
theorem insert_148 (v : Value) (n : Nat) (us : List Value) (p : Option Addr) (m c : Nat) (news : List Value) (w : World) (hown : w.ownsRow 0 114 3 v n us) (hs : SliceOf w p m c news 3) (h1 : n + m ≤ maxLen) (h2 : (n + m) * 24 ≤ 140737488355328) :
    Calls Tryz.prog 148 #[v, .int .i64 n, .slice p m c] w fun x w' => ∃ v' : Value, x = .returned v' ∧ w'.ownsRow 0 114 3 v' (n + m) (us ++ news) ∧ w.grownBy w' v.ownBlock ∧ (∀ k, v'.ownBlock = some k → w.heap.size ≤ k ∨ v.ownBlock = some k) ∧ (∀ k, v.ownBlock = some k → Shape' w w' k) := by
  obtain ⟨⟨i0, z, hi, hz1, hz2, hz0, _, hzs⟩, _⟩ := cfg_ok.ti 114 _ rfl
  have HA := AsideC.mk hs
  have HB := AsideC.mk hown
  have hl := hs.len
  have hn := hown.1
  by_cases hm : (m : Int) = 0
  · have hm0 : m = 0 := by omega
    subst hm0
    have hnw : news = [] := List.eq_nil_of_length_eq_zero (by simpa using hl)
    subst hnw
    rcases hown.2 with ⟨rfl, rfl⟩ | ⟨g, cap, cur, rfl, hrest⟩
    · clear hs hown
      go_enter Tryz.func148, Tryz.ntmps148
      go_wp2
      all_goals go_ret
      all_goals (refine ⟨_, rfl, ?_, ⟨rfl, rfl, rfl, Nat.le_refl _, fun _ _ _ => rfl⟩, fun k hk => .inr hk, fun k _ o => ⟨rfl, rfl⟩⟩; first | exact HB.out | simpa using HB.out | (rename_i h; subst h; exact HB.out) | (rename_i h; subst h; simpa using HB.out))
    · obtain ⟨_, hg, hcap, hmax, _⟩ := hrest
      clear hs hown
      go_enter Tryz.func148, Tryz.ntmps148
      go_wp2
      all_goals go_ret
      all_goals (refine ⟨_, rfl, ?_, ⟨rfl, rfl, rfl, Nat.le_refl _, fun _ _ _ => rfl⟩, fun k hk => .inr hk, fun k _ o => ⟨rfl, rfl⟩⟩; first | exact HB.out | simpa using HB.out | (rename_i h; subst h; exact HB.out) | (rename_i h; subst h; simpa using HB.out))
  · have hmb : decide ((m : Int) = 0) = false := decide_eq_false hm
    rcases hown.2 with ⟨rfl, rfl⟩ | ⟨g, cap, cur, rfl, hrest⟩
    · clear hs hown
      go_enter Tryz.func148, Tryz.ntmps148
      go_wp2_with (at_builtin; refine wpList_append_ps rfl _ _ 31 rfl Tryz.underlying31 hi hz0 hz1 hz2 hzs (by decide) rfl HB.out rfl HA.out h1 h2 ?_)
      all_goals (intro v' w1 hown hgrow hloc hshape; go_wp2; go_ret; exact ⟨v', rfl, by simpa using hown, hgrow, hloc, hshape⟩)
    · obtain ⟨_, hg, hcap, hmax, _⟩ := hrest
      clear hs hown
      go_enter Tryz.func148, Tryz.ntmps148
      go_wp2_with (at_builtin; refine wpList_append_ps rfl _ _ 31 rfl Tryz.underlying31 hi hz0 hz1 hz2 hzs (by decide) rfl HB.out rfl HA.out h1 h2 ?_)
      all_goals (intro v' w1 hown hgrow hloc hshape; go_wp2; go_ret; exact ⟨v', rfl, by simpa using hown, hgrow, hloc, hshape⟩)
set_option maxHeartbeats 8000000 in
set_option maxRecDepth 100000 in
theorem del_w (v : Value) (us : List Value) (w : World) (hown : w.ownsRow 0 114 3 v 1 us) :
    Calls Tryz.prog 149 #[v, .int .i64 0, .int .i64 1] w fun x w' => ∃ v' : Value, x = .returned v' ∧ w'.ownsRow 0 114 3 v' 0 [] ∧ w.grownBy w' v.ownBlock ∧ v'.ownBlock = v.ownBlock ∧ (∀ k, v.ownBlock = some k → Shape' w w' k) := by
  obtain ⟨⟨i0, z, hi, hz1, hz2, hz0, _, hzs⟩, _⟩ := cfg_ok.ti 114 _ rfl
  rcases hown.2 with ⟨rfl, h0⟩ | ⟨g, cap, cur, rfl, _, hg, hcap, hmax, hcs, htk⟩
  · omega
  · have hth : w.drew.there g 0 3 := by
      have := ownsRow_there hown (o := 0) (m := 3) (by have := hown.1; omega)
      simpa using this
    have HO := AsideC.mk (And.intro hg (And.intro hcs (And.intro hmax hth)))
    obtain ⟨A, hA⟩ : ∃ A : Addr, (if cap = 1 then some (⟨g, 0, none⟩ : Addr) else some ⟨g, 3, none⟩) = some A := by by_cases h : cap = 1 <;> simp [h]
    have hcl : ∀ ty, (Builtin.clear_ #[31] ty #[.slice (some ⟨g, 0, none⟩) 1 cap]).run Tryz.prog (w.drew.setCells g 0 []) = .ok (.tuple #[]) (w.drew.setCells g 0 [.int .i64 0, .int .i64 0, .int .i64 0]) :=
      fun ty => run_clear_one w.drew 31 114 ty _ _ Tryz.underlying31 Tryz.zeroValue114 rfl (by decide) (by decide) g 0 cap (fun j hj => (hth j hj).1) (fun j hj => (hth j hj).2)
    have mixed : Tryz.prog.follows Departure.mixedOrders = true := by kernel_rfl
    clear hown hg hcs htk hmax hth
    go_enter Tryz.func149, Tryz.ntmps149
    go_wp2_with fail
    go_region_law_o (refine step_append_room rfl (.tmp 22) (.tmp 25) 31 rfl 114 i0 3 Tryz.underlying31 hi hz1 g 0 0 cap (by simp [Act.eval, Act.put]) A 0 (cap - 1) [] (by simp [Act.eval, Act.put]) (by simp) (by simp) (by simp) (by omega) (by simp) ?_)
    go_wp2
    go_ret
    obtain ⟨hg, hcs, hmax, hth⟩ := HO.out
    obtain ⟨cur', h1, h2⟩ := heap_setCells_same g _ _ [.int .i64 0, .int .i64 0, .int .i64 0] 0 w.drew cur hg (by simp; omega)
    have hsz : cur'.size = cur.size := by
      have : cur'.toList.length = cur.toList.length := by rw [h2]; simp; omega
      simpa using this
    refine ⟨_, rfl, ⟨rfl, .inr ⟨g, cap, cur', rfl, Nat.zero_le _, h1, Nat.zero_le _, hmax, by omega, by simp⟩⟩, ⟨(rest_setCells g _ 0 w.drew).1, (rest_setCells g _ 0 w.drew).2.1, (rest_setCells g _ 0 w.drew).2.2, Nat.le_of_eq (size_setCells g _ 0 w.drew).symm, fun k hk hne => ?_⟩, rfl, fun k hk o => ?_⟩
    · exact heap_setCells_ne g _ 0 w.drew k (fun e => hne (by rw [e]; rfl))
    · constructor
      · exact isSome_setCells_eq g _ 0 w.drew _
      · exact World.frozen?_setCells g _ 0 w.drew _
set_option maxHeartbeats 8000000 in
set_option maxRecDepth 100000 in
theorem insert_171 (v : Value) (n : Nat) (us : List Value) (p : Option Addr) (m c : Nat) (news : List Value) (w : World) (hown : w.ownsRow 0 175 3 v n us) (hs : SliceOf w p m c news 3) (h1 : n + m ≤ maxLen) (h2 : (n + m) * 32 ≤ 140737488355328) :
    Calls Tryz.prog 171 #[v, .int .i64 n, .slice p m c] w fun x w' => ∃ v' : Value, x = .returned v' ∧ w'.ownsRow 0 175 3 v' (n + m) (us ++ news) ∧ w.grownBy w' v.ownBlock ∧ (∀ k, v'.ownBlock = some k → w.heap.size ≤ k ∨ v.ownBlock = some k) ∧ (∀ k, v.ownBlock = some k → Shape' w w' k) := by
  obtain ⟨⟨i0, z, hi, hz1, hz2, hz0, _, hzs⟩, _⟩ := cfg_ok.ti 175 _ rfl
  have HA := AsideC.mk hs
  have HB := AsideC.mk hown
  have hl := hs.len
  have hn := hown.1
  by_cases hm : (m : Int) = 0
  · have hm0 : m = 0 := by omega
    subst hm0
    have hnw : news = [] := List.eq_nil_of_length_eq_zero (by simpa using hl)
    subst hnw
    rcases hown.2 with ⟨rfl, rfl⟩ | ⟨g, cap, cur, rfl, hrest⟩
    · clear hs hown
      go_enter Tryz.func171, Tryz.ntmps171
      go_wp2
      all_goals go_ret
      all_goals (refine ⟨_, rfl, ?_, ⟨rfl, rfl, rfl, Nat.le_refl _, fun _ _ _ => rfl⟩, fun k hk => .inr hk, fun k _ o => ⟨rfl, rfl⟩⟩; first | exact HB.out | simpa using HB.out | (rename_i h; subst h; exact HB.out) | (rename_i h; subst h; simpa using HB.out))
    · obtain ⟨_, hg, hcap, hmax, _⟩ := hrest
      clear hs hown
      go_enter Tryz.func171, Tryz.ntmps171
      go_wp2
      all_goals go_ret
      all_goals (refine ⟨_, rfl, ?_, ⟨rfl, rfl, rfl, Nat.le_refl _, fun _ _ _ => rfl⟩, fun k hk => .inr hk, fun k _ o => ⟨rfl, rfl⟩⟩; first | exact HB.out | simpa using HB.out | (rename_i h; subst h; exact HB.out) | (rename_i h; subst h; simpa using HB.out))
  · have hmb : decide ((m : Int) = 0) = false := decide_eq_false hm
    rcases hown.2 with ⟨rfl, rfl⟩ | ⟨g, cap, cur, rfl, hrest⟩
    · clear hs hown
      go_enter Tryz.func171, Tryz.ntmps171
      go_wp2_with (at_builtin; refine wpList_append_ps rfl _ _ 26 rfl Tryz.underlying26 hi hz0 hz1 hz2 hzs (by decide) rfl HB.out rfl HA.out h1 h2 ?_)
      all_goals (intro v' w1 hown hgrow hloc hshape; go_wp2; go_ret; exact ⟨v', rfl, by simpa using hown, hgrow, hloc, hshape⟩)
    · obtain ⟨_, hg, hcap, hmax, _⟩ := hrest
      clear hs hown
      go_enter Tryz.func171, Tryz.ntmps171
      go_wp2_with (at_builtin; refine wpList_append_ps rfl _ _ 26 rfl Tryz.underlying26 hi hz0 hz1 hz2 hzs (by decide) rfl HB.out rfl HA.out h1 h2 ?_)
      all_goals (intro v' w1 hown hgrow hloc hshape; go_wp2; go_ret; exact ⟨v', rfl, by simpa using hown, hgrow, hloc, hshape⟩)
theorem prim_ok : PrimOK cfg := by
  intro f p hp
  simp only [cfg, prims, asc] at hp
  rcases cond_some hp with ⟨hf, hp⟩ | ⟨_, hp⟩
  · have hf := Nat.eq_of_beq_eq_true hf
    subst hf
    cases hp
    exact primClone_ok (C := cfg) (T := 81) (by decide) (by kernel_rfl) (cl_at (C := cfg) cfg_ok L25 rfl (by decide))
  rcases cond_some hp with ⟨hf, hp⟩ | ⟨_, hp⟩
  · have hf := Nat.eq_of_beq_eq_true hf
    subst hf
    cases hp
    exact primNone_ok (C := cfg)
  rcases cond_some hp with ⟨hf, hp⟩ | ⟨_, hp⟩
  · have hf := Nat.eq_of_beq_eq_true hf
    subst hf
    cases hp
    exact primNone_ok (C := cfg)
  rcases cond_some hp with ⟨hf, hp⟩ | ⟨_, hp⟩
  · have hf := Nat.eq_of_beq_eq_true hf
    subst hf
    cases hp
    exact primNone_ok (C := cfg)
  rcases cond_some hp with ⟨hf, hp⟩ | ⟨_, hp⟩
  · have hf := Nat.eq_of_beq_eq_true hf
    subst hf
    cases hp
    exact primNone_ok (C := cfg)
  rcases cond_some hp with ⟨hf, hp⟩ | ⟨_, hp⟩
  · have hf := Nat.eq_of_beq_eq_true hf
    subst hf
    cases hp
    exact primOwn_ok (C := cfg) (T := 50) (TI := 3) (by kernel_rfl) (fun S p m c news xs w h1 h2 h3 h4 h5 => own_w (fun p m c news w h h1 h2 => cl_at (C := cfg) cfg_ok L104 rfl (by decide) p m c news w h h1 h2) (fun p m c news w h h1 h2 => cl_at (C := cfg) cfg_ok L76 rfl (by decide) p m c news w h h1 h2) S p m c news xs w h1 h2 h3 h4 h5)
  rcases cond_some hp with ⟨hf, hp⟩ | ⟨_, hp⟩
  · have hf := Nat.eq_of_beq_eq_true hf
    subst hf
    cases hp
    exact primClone_ok (C := cfg) (T := 111) (by decide) (by kernel_rfl) (cl_at (C := cfg) cfg_ok L53 rfl (by decide))
  rcases cond_some hp with ⟨hf, hp⟩ | ⟨_, hp⟩
  · have hf := Nat.eq_of_beq_eq_true hf
    subst hf
    cases hp
    exact primClone_ok (C := cfg) (T := 114) (by decide) (by kernel_rfl) (cl_at (C := cfg) cfg_ok L54 rfl (by decide))
  rcases cond_some hp with ⟨hf, hp⟩ | ⟨_, hp⟩
  · have hf := Nat.eq_of_beq_eq_true hf
    subst hf
    cases hp
    exact primClone_ok (C := cfg) (T := 150) (by decide) (by kernel_rfl) (cl_at (C := cfg) cfg_ok L75 rfl (by decide))
  rcases cond_some hp with ⟨hf, hp⟩ | ⟨_, hp⟩
  · have hf := Nat.eq_of_beq_eq_true hf
    subst hf
    cases hp
    exact primClone_ok (C := cfg) (T := 3) (by decide) (by kernel_rfl) (cl_at (C := cfg) cfg_ok L76 rfl (by decide))
  rcases cond_some hp with ⟨hf, hp⟩ | ⟨_, hp⟩
  · have hf := Nat.eq_of_beq_eq_true hf
    subst hf
    cases hp
    exact primClone_ok (C := cfg) (T := 9) (by decide) (by kernel_rfl) (cl_at (C := cfg) cfg_ok L77 rfl (by decide))
  rcases cond_some hp with ⟨hf, hp⟩ | ⟨_, hp⟩
  · have hf := Nat.eq_of_beq_eq_true hf
    subst hf
    cases hp
    exact primClone_ok (C := cfg) (T := 175) (by decide) (by kernel_rfl) (cl_at (C := cfg) cfg_ok L103 rfl (by decide))
  rcases cond_some hp with ⟨hf, hp⟩ | ⟨_, hp⟩
  · have hf := Nat.eq_of_beq_eq_true hf
    subst hf
    cases hp
    exact primNone_ok (C := cfg)
  rcases cond_some hp with ⟨hf, hp⟩ | ⟨_, hp⟩
  · have hf := Nat.eq_of_beq_eq_true hf
    subst hf
    cases hp
    exact primRepeat_ok (C := cfg) (by kernel_rfl) (fun s c w h1 h2 => Tryz.strings_Repeat s c w h1 h2)
  rcases cond_some hp with ⟨hf, hp⟩ | ⟨_, hp⟩
  · have hf := Nat.eq_of_beq_eq_true hf
    subst hf
    cases hp
    exact primClone_ok (C := cfg) (T := 205) (by decide) (by kernel_rfl) (cl_at (C := cfg) cfg_ok L129 rfl (by decide))
  rcases cond_some hp with ⟨hf, hp⟩ | ⟨_, hp⟩
  · have hf := Nat.eq_of_beq_eq_true hf
    subst hf
    cases hp
    exact primClone_ok (C := cfg) (T := 208) (by decide) (by kernel_rfl) (cl_at (C := cfg) cfg_ok L130 rfl (by decide))
  rcases cond_some hp with ⟨hf, hp⟩ | ⟨_, hp⟩
  · have hf := Nat.eq_of_beq_eq_true hf
    subst hf
    cases hp
    exact primClone_ok (C := cfg) (T := 211) (by decide) (by kernel_rfl) (cl_at (C := cfg) cfg_ok L131 rfl (by decide))
  rcases cond_some hp with ⟨hf, hp⟩ | ⟨_, hp⟩
  · have hf := Nat.eq_of_beq_eq_true hf
    subst hf
    cases hp
    exact primClone_ok (C := cfg) (T := 214) (by decide) (by kernel_rfl) (cl_at (C := cfg) cfg_ok L132 rfl (by decide))
  rcases cond_some hp with ⟨hf, hp⟩ | ⟨_, hp⟩
  · have hf := Nat.eq_of_beq_eq_true hf
    subst hf
    cases hp
    exact primInsert_ok (C := cfg) (T := 114) (by decide) (by kernel_rfl) (fun v n us p m c news w h1 h2 h3 h4 => insert_148 v n us p m c news w h1 h2 h3 h4)
  rcases cond_some hp with ⟨hf, hp⟩ | ⟨_, hp⟩
  · have hf := Nat.eq_of_beq_eq_true hf
    subst hf
    cases hp
    exact primDel1_ok (C := cfg) (T := 114) (by decide) (by kernel_rfl) (fun v us w h => del_w v us w h)
  rcases cond_some hp with ⟨hf, hp⟩ | ⟨_, hp⟩
  · have hf := Nat.eq_of_beq_eq_true hf
    subst hf
    cases hp
    exact primInsert_ok (C := cfg) (T := 175) (by decide) (by kernel_rfl) (fun v n us p m c news w h1 h2 h3 h4 => insert_171 v n us p m c news w h1 h2 h3 h4)
  simp at hp
end Go.Proofs.YtjebgmofebmgaaaGreat.S
