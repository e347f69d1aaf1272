/- Words: the contract of a splitter at blanks, and of strings.Join. -/
import Derived.Test.YtjebgmofebmgaaaGreatPsZc
import Derived.Lib.Split
import Derived.Lib.CountLaws
import Derived.Lib.Join
namespace Go.Ps
open Go.RowKit
set_option linter.unusedVariables false
def blankB : ByteArray := ⟨#[32]⟩
def wordsV (s : ByteArray) : List ByteArray := (Lib.splitB blankB 0 (Lib.countB s blankB) s).filter fun x => !strEq x ⟨#[]⟩
def joinV (l : List ByteArray) (sep : ByteArray) : ByteArray := ⟨(Lib.join (l.map (·.data.toList)) sep.data.toList).toArray⟩
def primWords : List SV → Option (List PV)
  | [.v (.str s)] => bif decide ((s.size : Int) ≤ 1048576) then some [.list .str (wordsV s)] else none
  | _ => none
def primJoin : List SV → Option (List PV)
  | [.v (.list .str xs), .v (.str sep)] => bif decide (List.length xs ≤ 1048576) && decide ((joinV xs sep).size ≤ 140737488355328) then some [.str (joinV xs sep)] else none
  | _ => none
theorem rows_strs (S : Nat → Prop) (w : World) : ∀ xs : List ByteArray, RepRows (RepT S w .str) xs (xs.map Value.string)
  | [] => rfl
  | x :: xs => ⟨[.string x], xs.map Value.string, rfl, rfl, rows_strs S w xs⟩
theorem strs_rows {S : Nat → Prop} {w : World} : ∀ (xs : List ByteArray) (us : List Value), RepRows (RepT S w .str) xs us → us = xs.map Value.string
  | [], us, h => h
  | x :: xs, us, ⟨u, v, e, h1, h2⟩ => by
    have h1 : u = [.string x] := h1
    rw [e, h1, strs_rows xs v h2]; rfl
theorem primWords_ok {C : Cfg} {f : Nat} {I : Inv} (hsig : C.sig f = some ⟨[.val .str], [(.list .str, false)], [.no]⟩)
    (H : ∀ (S : Nat → Prop) (s : ByteArray) (w : World), s.size ≤ 1048576 → I.at_ S w → Calls C.P (C.real f) #[.string s] w fun e w' => ∃ b cap, e = .returned (.slice (some ⟨b, 0, none⟩) (wordsV s).length cap) ∧ (wordsV s).length ≤ cap ∧ w.heap.size ≤ b ∧ b < w'.heap.size ∧ w'.rangeAt b 0 ((wordsV s).map Value.string) ∧ Below w.heap.size w w') :
    ∀ args (r : C.Res f), (primWords args).bind (projAll (C.resTy f)) = some r → MeetsI I C f args r := by
  intro args r hr sg hsg S w vals K B hS hA hOB hOK hI
  rw [hsig] at hsg
  simp only [Option.some.injEq] at hsg
  subst hsg
  have hT : C.resTy f = .list .str := by unfold Cfg.resTy; rw [hsig]; rfl
  have hF : (⟨[.val .str], [(.list .str, false)], [.no]⟩ : Sig).resFl = .no := rfl
  rw [hF]
  change Ty.den (C.resTy f) at r
  change _ = some r at hr
  generalize C.resTy f = τ at *
  subst hT
  unfold primWords at hr
  split at hr
  · rename_i s
    cases hc : decide ((s.size : Int) ≤ 1048576) with
    | false => rw [hc] at hr; simp at hr
    | true =>
      rw [hc] at hr
      simp only [cond_true, Option.bind_some] at hr
      have h0 := projAll_inj (τ := .list .str) (d := wordsV s) hr
      subst h0
      cases hA with
      | plain _ h1 t =>
        cases t
        have e1 := RepS.of_v h1 (by simp)
        simp only [RepC, List.cons.injEq, and_true] at e1
        subst e1
        have hz : s.size ≤ 1048576 := by have := of_decide_eq_true hc; omega
        refine (H S s w hz hI).mono ?_
        rintro x w' ⟨b, cap, rfl, h1, h2, h3, h4, hb⟩
        refine ⟨_, [_], [_], [], fun k => S k ∨ k = b, [], rfl, rfl, ⟨[_], [], _, [], rfl, rfl, rfl, fun h => (by cases h), fun _ => rfl, rfl, rfl⟩, rfl, keptM_of_below hb, fun _ x => .inl x, ?_, ⟨by simp, fun k hk => by cases hk⟩, ⟨⟨_, cap, rfl, h1, .inr ⟨b, 0, _, rfl, .inr rfl, h4, rows_strs _ _ _⟩⟩, rfl⟩⟩
        rintro k (h | rfl)
        · exact .inl h
        · exact .inr (.inl ⟨h2, h3⟩)
  · simp at hr
theorem primJoin_ok {C : Cfg} {f : Nat} {I : Inv} (hsig : C.sig f = some ⟨[.val (.list .str), .val .str], [(.str, false)], [.no]⟩)
    (H : ∀ (xs : List ByteArray) (sep : ByteArray) (p : Option Addr) (cap : Nat) (w : World), xs.length ≤ 1048576 → (joinV xs sep).size ≤ 140737488355328 → xs.length ≤ cap → (xs = [] ∨ ∃ b o, p = some ⟨b, o, none⟩ ∧ b < w.heap.size ∧ w.rangeAt b o (xs.map Value.string)) →
      Calls C.P (C.real f) #[.slice p xs.length cap, .string sep] w fun e w' => e = .returned (.string (joinV xs sep)) ∧ Below w.heap.size w w') :
    ∀ args (r : C.Res f), (primJoin args).bind (projAll (C.resTy f)) = some r → MeetsI I C f args r := by
  intro args r hr sg hsg S w vals K B hS hA hOB hOK hI
  rw [hsig] at hsg
  simp only [Option.some.injEq] at hsg
  subst hsg
  have hT : C.resTy f = .str := by unfold Cfg.resTy; rw [hsig]; rfl
  have hF : (⟨[.val (.list .str), .val .str], [(.str, false)], [.no]⟩ : Sig).resFl = .no := rfl
  rw [hF]
  change Ty.den (C.resTy f) at r
  change _ = some r at hr
  generalize C.resTy f = τ at *
  subst hT
  unfold primJoin at hr
  split at hr
  · rename_i xs sep
    change List ByteArray at xs
    cases hc : decide (List.length xs ≤ 1048576) && decide ((joinV xs sep).size ≤ 140737488355328) with
    | false => rw [hc] at hr; simp at hr
    | true =>
      rw [hc] at hr
      simp only [cond_true, Option.bind_some] at hr
      have h0 := projAll_inj (τ := .str) (d := joinV xs sep) hr
      subst h0
      rw [Bool.and_eq_true, decide_eq_true_eq, decide_eq_true_eq] at hc
      cases hA with
      | plain _ h1 t =>
        cases t with
        | plain _ h2 t =>
          cases t
          have e1 := RepS.of_v h1 (by simp)
          have e2 := RepS.of_v h2 (by simp)
          simp only [RepC, List.cons.injEq, and_true] at e2
          subst e2
          obtain ⟨p, cap, hv, hl, hd⟩ := (e1 : RepT S w (.list .str) xs _)
          simp only [List.cons.injEq, and_true] at hv
          subst hv
          refine (H xs sep p cap w hc.1 hc.2 hl ?_).mono ?_
          · rcases hd with ⟨h, _⟩ | ⟨b, o, us, rfl, hb, hr, hrow⟩
            · exact .inl h
            · exact .inr ⟨b, o, rfl, hS b hb, strs_rows xs us hrow ▸ hr⟩
          · rintro x w' ⟨rfl, hb⟩
            exact ⟨_, [_], [_], [], S, [], rfl, rfl, ⟨[_], [], _, [], rfl, rfl, rfl, fun h => (by cases h), fun _ => rfl, rfl, rfl⟩, rfl, keptM_of_below hb, fun _ x => x, fun _ => .inl, ⟨by simp, fun k hk => by cases hk⟩, ⟨rfl, rfl⟩⟩
  · simp at hr
/-- The world holds this and that. -/
def Inv.and (I J : Inv) : Inv where
  at_ S w := I.at_ S w ∧ J.at_ S w
  keep := fun hS hw h => ⟨I.keep hS hw h.1, J.keep hS hw h.2⟩
/-- The world holds a package-level variable (block g) of which something is known. -/
def cellInv (g : Nat) (ok : Value → Prop) : Inv where
  at_ S w := S g ∧ ∃ v, w.cell? ⟨g, 0, none⟩ = some v ∧ ok v
  keep := fun {S S' w w'} hS hw h => by
    refine ⟨hS g h.1, ?_⟩
    obtain ⟨h1, v, h2, h3⟩ := h
    refine ⟨v, ?_, h3⟩
    unfold World.cell? at h2 ⊢
    rw [hw g h1]; exact h2
end Go.Ps
