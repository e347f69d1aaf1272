/- A short integer read as it is written (strconv.Atoi, compared with strconv.Itoa): the contract of a reader of at most 18 digits. -/
import Derived.Test.YtjebgmofebmgaaaGreatPsZb
import Derived.Lib.AtoiAll
import Derived.Lib.Strings
namespace Go.Ps
open Go.RowKit
set_option linter.unusedVariables false
def readTrim (s : ByteArray) : ByteArray := ⟨(Lib.trimPrefix s.data.toList [45]).toArray⟩
def readIn (s : ByteArray) : Bool := decide (1 ≤ ((readTrim s).size : Int)) && decide (((readTrim s).size : Int) ≤ 18)
def readEnd (s : ByteArray) : Lib.NumEnd Int := Lib.atoiAll s.data.toList
def readOK (s : ByteArray) : Bool := bif readIn s then (match readEnd s with | .range => false | _ => true) else true
def readV (s : ByteArray) : Int × Bool := bif readIn s then (match readEnd s with | .ok v => (v, strEq (itoaB v) s) | _ => (0, false)) else (0, false)
def primReadInt : List SV → Option (List PV)
  | [.v (.str s)] => bif readOK s then some [.int .i64 (readV s).1, .bool (readV s).2] else none
  | _ => none
theorem primReadInt_ok {C : Cfg} {f : Nat} {I : Inv} (hsig : C.sig f = some ⟨[.val .str], [(.int .i64, false), (.bool, false)], [.no, .no]⟩)
    (H : ∀ (S : Nat → Prop) (s : ByteArray) (w : World), readOK s = true → I.at_ S w → Calls C.P (C.real f) #[.string s] w fun e w' => e = .returned (.tuple #[.int .i64 (readV s).1, .bool (readV s).2]) ∧ Below w.heap.size w w') :
    ∀ args (r : C.Res f), (primReadInt args).bind (projAll (C.resTy f)) = some r → MeetsI I C f args r := by
  intro args r hr sg hsg S w vals K B hS hA hOB hOK hI
  rw [hsig] at hsg
  simp only [Option.some.injEq] at hsg
  subst hsg
  have hT : C.resTy f = .pair (.int .i64) .bool := by unfold Cfg.resTy; rw [hsig]; rfl
  have hF : (⟨[.val .str], [(.int .i64, false), (.bool, false)], [.no, .no]⟩ : Sig).resFl = .pair .no .no := rfl
  rw [hF]
  change Ty.den (C.resTy f) at r
  change _ = some r at hr
  generalize C.resTy f = τ at *
  subst hT
  unfold primReadInt at hr
  split at hr
  · rename_i s
    cases hc : readOK s with
    | false => rw [hc] at hr; simp at hr
    | true =>
      rw [hc] at hr
      simp only [cond_true, Option.bind_some] at hr
      have h0 := projAll_inj (τ := .pair (.int .i64) .bool) (d := readV s) hr
      subst h0
      cases hA with
      | plain _ h1 t =>
        cases t
        have e1 := RepS.of_v h1 (by simp)
        simp only [RepC, List.cons.injEq, and_true] at e1
        subst e1
        refine (H S s w hc hI).mono ?_
        rintro x w' ⟨rfl, hb⟩
        exact ⟨_, [_, _], [_, _], [], S, [], rfl, rfl, ⟨[_], [_], _, _, rfl, rfl, rfl, fun h => (by cases h), fun _ => rfl, [_], [], _, [], rfl, rfl, rfl, fun h => (by cases h), fun _ => rfl, rfl, rfl⟩, rfl, keptM_of_below hb, fun _ x => x, fun _ => .inl, ⟨by simp, fun k hk => by cases hk⟩, ⟨[_], [_], [], [], rfl, rfl, ⟨rfl, rfl⟩, ⟨rfl, rfl⟩⟩⟩
  · simp at hr
end Go.Ps
