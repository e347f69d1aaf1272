/- strconv's numerals: the contract of FormatInt at base 10, under a table that the world holds. -/
import Derived.Test.YtjebgmofebmgaaaGreatPsY
import Derived.Lib.ItoaNum
import Derived.Lib.LaidTab
import Derived.Lib.OthersKept
namespace Go.Ps
open Go.RowKit
set_option linter.unusedVariables false
/-- The world holds a package-level table of integers (block g). -/
def tabInv (P : Program) (n : String) (g : Nat) (k : IntKind) (zs : List Int) (hg : P.globalNamed n = some g) : Inv where
  at_ S w := S g ∧ Lib.TabIs P w n k zs
  keep := fun {S S' w w'} hS hw h => by
    refine ⟨hS g h.1, ?_⟩
    have h2 := h.2
    unfold Lib.TabIs World.var? at h2 ⊢
    simp only [hg, Option.bind_some] at h2 ⊢
    rw [hw g h.1]; exact h2
def itoaB (n : Int) : ByteArray := ⟨(Lib.itoa n).toArray⟩
def primItoa : List SV → Option (List PV)
  | [.v (.int .i64 n), .v (.int .i64 b)] => bif decide (b = 10) && decide (-9223372036854775808 ≤ n) && decide (n ≤ 9223372036854775807) then some [.str (itoaB n)] else none
  | _ => none
theorem primItoa_ok {C : Cfg} {f : Nat} {I : Inv} (hsig : C.sig f = some ⟨[.val (.int .i64), .val (.int .i64)], [(.str, false)], [.no]⟩)
    (H : ∀ (S : Nat → Prop) (n : Int) (w : World), -9223372036854775808 ≤ n → n ≤ 9223372036854775807 → I.at_ S w → Calls C.P (C.real f) #[.int .i64 n, .int .i64 10] w fun e w' => e = .returned (.string ⟨(Lib.itoa n).toArray⟩) ∧ Below w.heap.size w w') :
    ∀ args (r : C.Res f), (primItoa args).bind (projAll (C.resTy f)) = some r → MeetsI I C f args r := by
  intro args r hr sg hsg S w vals K B hS hA hOB hOK hI
  rw [hsig] at hsg
  simp only [Option.some.injEq] at hsg
  subst hsg
  have hT : C.resTy f = .str := by unfold Cfg.resTy; rw [hsig]; rfl
  have hF : (⟨[.val (.int .i64), .val (.int .i64)], [(.str, false)], [.no]⟩ : Sig).resFl = .no := rfl
  rw [hF]
  change Ty.den (C.resTy f) at r
  change _ = some r at hr
  generalize C.resTy f = τ at *
  subst hT
  unfold primItoa at hr
  split at hr
  · rename_i n b
    cases hc : decide (b = 10) && decide (-9223372036854775808 ≤ n) && decide (n ≤ 9223372036854775807) with
    | false => rw [hc] at hr; simp at hr
    | true =>
      rw [hc] at hr
      simp only [cond_true, Option.bind_some] at hr
      have h0 := projAll_inj (τ := .str) (d := itoaB n) hr
      subst h0
      simp only [Bool.and_eq_true, decide_eq_true_eq] at hc
      cases hA with
      | plain _ h1 t =>
        cases t with
        | plain _ h2 t =>
          cases t
          have e1 := RepS.of_v h1 (by simp)
          have e2 := RepS.of_v h2 (by simp)
          simp only [RepC, List.cons.injEq, and_true] at e1 e2
          subst e1
          subst e2
          obtain ⟨⟨rfl, c1⟩, c2⟩ := hc
          refine (H S n w c1 c2 hI).mono ?_
          rintro x w' ⟨rfl, hb⟩
          exact ⟨_, [_], [_], [], S, [], rfl, rfl, ⟨[_], [], _, [], rfl, rfl, rfl, fun h => (by cases h), fun _ => rfl, rfl, rfl⟩, rfl, keptM_of_below hb, fun _ x => x, fun _ => .inl, ⟨by simp, fun k hk => by cases hk⟩, ⟨rfl, rfl⟩⟩
  · simp at hr
end Go.Ps
