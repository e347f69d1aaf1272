/- Functions of Go's library that are given by what they come to. -/
import Derived.Test.YtjebgmofebmgaaaGreatPsX
import Derived.Lib.RepeatB
import Derived.Below
namespace Go.Ps
open Go.RowKit
set_option linter.unusedVariables false
def repB (s : ByteArray) (n : Int) : ByteArray := ⟨(Lib.repeatL s.data.toList n.toNat).toArray⟩
def primGrow (e : Ty) : List SV → Option (List PV)
  | [.v .nils, .v (.int .i64 n)] => bif decide (0 ≤ n) && decide (n < 1000000) then some [.list e []] else none
  | _ => none
def primRepeat : List SV → Option (List PV)
  | [.v (.str s), .v (.int .i64 n)] => bif decide (0 ≤ n) && decide (n ≤ 9223372036854775807) && decide (s.size * n.toNat ≤ 140737488355328) then some [.str (repB s n)] else none
  | _ => none

theorem keptM_of_below {w w' : World} {M : Nat → Nat → Prop} (h : Below w.heap.size w w') : KeptM w w' M where
  os := h.os
  tape := h.tape
  output := h.output
  size := h.size
  block b hlt _ := h.block b hlt
  cells b hlt o _ := ⟨World.cell?_of_block (a := ⟨b, o, none⟩) (h.block b hlt), trivial⟩
  frozen b hlt o := World.frozen?_of_block (a := ⟨b, o, none⟩) (h.block b hlt)
  there b hlt o := by rw [World.cell?_of_block (a := ⟨b, o, none⟩) (h.block b hlt)]
theorem below_of_keptM {w w' : World} (h : KeptM w w' (InK [] [])) : Below w.heap.size w w' :=
  ⟨h.os, h.tape, h.output, h.size, fun k hk => h.block k hk fun o hM => by
    rcases hM with hM | ⟨o0, n, hM, _⟩
    · cases hM
    · cases hM⟩

theorem primGrow_ok {C : Cfg} {f T : Nat} {e : Ty} (he : 0 < e.size) (hsig : C.sig f = some ⟨[.raw, .val (.int .i64)], [(.list e, false)], [.own T .no]⟩)
    (H : ∀ (n : Int) (w : World), 0 ≤ n → n < 1000000 → Calls C.P (C.real f) #[.slice none 0 0, .int .i64 n] w fun x w' => ∃ v : Value, x = .returned v ∧ w'.ownsRow w.heap.size T e.size v 0 [] ∧ Below w.heap.size w w') :
    ∀ args (r : C.Res f), (primGrow e args).bind (projAll (C.resTy f)) = some r → Meets C f args r := by
  intro args r hr sg hsg S w vals K B hS hA hOB hOK
  rw [hsig] at hsg
  simp only [Option.some.injEq] at hsg
  subst hsg
  have hT : C.resTy f = .list e := by unfold Cfg.resTy; rw [hsig]; rfl
  have hF : (⟨[.raw, .val (.int .i64)], [(.list e, false)], [.own T .no]⟩ : Sig).resFl = .own T .no := rfl
  rw [hF]
  change Ty.den (C.resTy f) at r
  change _ = some r at hr
  generalize C.resTy f = τ at *
  subst hT
  unfold primGrow at hr
  split at hr
  · rename_i n
    cases hc : decide (0 ≤ n) && decide (n < 1000000) with
    | false => rw [hc] at hr; simp at hr
    | true =>
      rw [hc] at hr
      simp only [cond_true, Option.bind_some] at hr
      have h0 := projAll_inj (τ := .list e) (d := []) hr
      subst h0
      simp only [Bool.and_eq_true, decide_eq_true_eq] at hc
      cases hA with
      | plain _ h1 t =>
        cases t with
        | plain _ h2 t =>
          cases t
          have e1 := RepS.of_v h1 (by simp)
          have e2 := RepS.of_v h2 (by simp)
          simp only [RepC, List.cons.injEq, and_true] at e1 e2
          subst e1
          subst e2
          refine (H n w hc.1 hc.2).mono ?_
          rintro x w' ⟨v, rfl, ho, hb⟩
          have hown : w'.ownsRow 0 T e.size v 0 [] := ⟨ho.1, ho.2.imp id fun ⟨g, cap, cur, h1, h2, h3⟩ => ⟨g, cap, cur, h1, Nat.zero_le _, h3⟩⟩
          refine ⟨v, [v], [v], [], S, (blockOf v).toList, rfl, rfl, ⟨[v], [], v, [], rfl, rfl, rfl, fun h => (by cases h), fun _ => rfl, rfl, rfl⟩, rfl, keptM_of_below hb, fun _ x => x, fun _ => .inl, ⟨?_, fun k hk => ?_⟩, ⟨he, v, [], [], rfl, by simp, .inl hown, rfl, rfl⟩⟩
          · cases blockOf v <;> simp
          · have hk : blockOf v = some k := by simpa using hk
            rcases ho.2 with ⟨rfl, _⟩ | ⟨g, cap, cur, rfl, hg, hh, _⟩
            · simp [blockOf] at hk
            · simp only [blockOf, Option.some.injEq] at hk
              subst hk
              have hlt := (Array.getElem?_eq_some_iff.1 hh).1
              exact ⟨fun hSk => by have := hS _ hSk; omega, .inl hg, hlt⟩
  · simp at hr

theorem primRepeat_ok {C : Cfg} {f : Nat} (hsig : C.sig f = some ⟨[.val .str, .val (.int .i64)], [(.str, false)], [.no]⟩)
    (H : ∀ (s : ByteArray) (c : Nat) (w : World), c ≤ 9223372036854775807 → s.size * c ≤ 140737488355328 → Calls C.P (C.real f) #[.string s, .int .i64 c] w fun e w' => e = .returned (.string ⟨(Lib.repeatL s.data.toList c).toArray⟩) ∧ Below w.heap.size w w') :
    ∀ args (r : C.Res f), (primRepeat args).bind (projAll (C.resTy f)) = some r → Meets C f args r := by
  intro args r hr sg hsg S w vals K B hS hA hOB hOK
  rw [hsig] at hsg
  simp only [Option.some.injEq] at hsg
  subst hsg
  have hT : C.resTy f = .str := by unfold Cfg.resTy; rw [hsig]; rfl
  have hF : (⟨[.val .str, .val (.int .i64)], [(.str, false)], [.no]⟩ : Sig).resFl = .no := rfl
  rw [hF]
  change Ty.den (C.resTy f) at r
  change _ = some r at hr
  generalize C.resTy f = τ at *
  subst hT
  unfold primRepeat at hr
  split at hr
  · rename_i s n
    cases hc : decide (0 ≤ n) && decide (n ≤ 9223372036854775807) && decide (s.size * n.toNat ≤ 140737488355328) with
    | false => rw [hc] at hr; simp at hr
    | true =>
      rw [hc] at hr
      simp only [cond_true, Option.bind_some] at hr
      have h0 := projAll_inj (τ := .str) (d := repB s n) hr
      subst h0
      simp only [Bool.and_eq_true, decide_eq_true_eq] at hc
      cases hA with
      | plain _ h1 t =>
        cases t with
        | plain _ h2 t =>
          cases t
          have e1 := RepS.of_v h1 (by simp)
          have e2 := RepS.of_v h2 (by simp)
          simp only [RepC, List.cons.injEq, and_true] at e1 e2
          subst e1
          subst e2
          have hn : ((n.toNat : Nat) : Int) = n := Int.toNat_of_nonneg hc.1.1
          have := H s n.toNat w (by omega) hc.2
          rw [hn] at this
          refine this.mono ?_
          rintro x w' ⟨rfl, hb⟩
          exact ⟨_, [_], [_], [], S, [], rfl, rfl, ⟨[_], [], _, [], rfl, rfl, rfl, fun h => (by cases h), fun _ => rfl, rfl, rfl⟩, rfl, keptM_of_below hb, fun _ x => x, fun _ => .inl, ⟨by simp, fun k hk => by cases hk⟩, ⟨rfl, rfl⟩⟩
  · simp at hr
end Go.Ps
