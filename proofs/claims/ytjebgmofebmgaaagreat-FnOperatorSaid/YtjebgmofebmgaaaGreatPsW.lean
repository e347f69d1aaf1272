/- The tables of a program are so: by computation. -/
import Derived.Test.YtjebgmofebmgaaaGreatPsV
namespace Go.Ps
set_option linter.unusedVariables false
variable {P : Program}

def fieldsB (P : Program) : List Field → List (Nat × Nat) → Bool
  | [], [] => true
  | f :: l, (o, z) :: r => Nat.beq f.offset o && (match P.info? f.type with | some i => Nat.beq i.size z | none => false) && fieldsB P l r
  | _, _ => false
def agsB (P : Program) : List Field → List Bool → Bool
  | [], [] => true
  | f :: l, b :: r => (match P.underlying f.type with | some d => d.isRow == b | none => false) && agsB P l r
  | _, _ => false
theorem fieldsB_ok : ∀ {l : List Field} {fs : List (Nat × Nat)}, fieldsB P l fs = true → All2 (fun (f : Field) (x : Nat × Nat) => f.offset = x.1 ∧ ∃ i, P.info? f.type = some i ∧ i.size = x.2) l fs
  | [], [], _ => .nil
  | f :: l, (o, z) :: r, h => by
    simp only [fieldsB, Bool.and_eq_true] at h
    refine .cons ⟨Nat.eq_of_beq_eq_true h.1.1, ?_⟩ (fieldsB_ok h.2)
    have := h.1.2
    split at this
    · rename_i i hi; exact ⟨i, hi, Nat.eq_of_beq_eq_true this⟩
    · simp at this
  | [], _ :: _, h => by simp [fieldsB] at h
  | _ :: _, [], h => by simp [fieldsB] at h
theorem agsB_ok : ∀ {l : List Field} {fs : List Bool}, agsB P l fs = true → All2 (fun (f : Field) (b : Bool) => ∃ d, P.underlying f.type = some d ∧ d.isRow = b) l fs
  | [], [], _ => .nil
  | f :: l, b :: r, h => by
    simp only [agsB, Bool.and_eq_true] at h
    refine .cons ?_ (agsB_ok h.2)
    have := h.1
    split at this
    · rename_i d hd; exact ⟨d, hd, by simpa using this⟩
    · simp at this
  | [], _ :: _, h => by simp [agsB] at h
  | _ :: _, [], h => by simp [agsB] at h

def shapeB (P : Program) (d : TypeDesc) : Shape → Bool
  | .slice e => match d with | .slice e' => Nat.beq e' e | _ => false
  | .struct fs ags _ => match d with | .struct l => fieldsB P l.toList fs && agsB P l.toList ags | _ => false
  | .array n e => match d with | .array n' e' => Nat.beq n' n && Nat.beq e' e | _ => false
  | _ => true
def tyB (d : TypeDesc) : Ty → Bool
  | .bool => match d with | .bool => true | _ => false
  | .int k => match d with | .int k' => decide (k' = k) | _ => false
  | .str => match d with | .string => true | _ => false
  | _ => true
def tiB (P : Program) (t : TypeId) (I : TI) : Bool :=
  (match P.info? t with
   | some i => Nat.beq i.size I.size && Nat.beq i.bytes I.bytes && (match i.zero with
      | some z => sameAll I.zero z.cells.toList && Nat.beq z.cells.toList.length I.size
      | none => false)
   | none => false) &&
  (match P.underlying t with
   | some d => (d.isRow == I.isAgg) && shapeB P d I.sh && tyB d I.ty
   | none => false) &&
  Nat.beq I.ty.size I.size && (!I.eq || (eqOK P 20 t I.ty && !P.eqGuardType P.depth t))

theorem tiB_ok {t : TypeId} {I : TI} (h : tiB P t I = true) : TIok P t I := by
  simp only [tiB, Bool.and_eq_true] at h
  obtain ⟨⟨⟨h1, h2⟩, h3⟩, h4⟩ := h
  refine ⟨?_, ?_, Nat.eq_of_beq_eq_true h3, fun he => by rw [he] at h4; simpa using h4⟩
  · split at h1
    · rename_i i hi
      simp only [Bool.and_eq_true] at h1
      obtain ⟨⟨a, b⟩, c⟩ := h1
      split at c
      · rename_i z hz
        simp only [Bool.and_eq_true] at c
        exact ⟨i, z, hi, Nat.eq_of_beq_eq_true a, Nat.eq_of_beq_eq_true b, hz, c.1, by rw [← Array.length_toList]; exact Nat.eq_of_beq_eq_true c.2⟩
      · simp at c
    · simp at h1
  · split at h2
    · rename_i d hd
      simp only [Bool.and_eq_true] at h2
      obtain ⟨⟨a, b⟩, c⟩ := h2
      refine ⟨d, hd, by simpa using a, ?_, ?_⟩
      · cases hs : I.sh <;> rw [hs] at b <;> simp only [shapeB] at b <;> simp only []
        case slice e => split at b; · simp only [Nat.eq_of_beq_eq_true b]
                        · simp at b
        case struct fs ags tys =>
          split at b
          · rename_i l
            simp only [Bool.and_eq_true] at b
            exact ⟨l.toList, by simp, fieldsB_ok b.1, agsB_ok b.2⟩
          · simp at b
        case array n e =>
          split at b
          · simp only [Bool.and_eq_true] at b; rw [Nat.eq_of_beq_eq_true b.1, Nat.eq_of_beq_eq_true b.2]
          · simp at b
      · cases hs : I.ty <;> rw [hs] at c <;> simp only [tyB] at c <;> simp only []
        case bool => split at c; · rfl
                     · simp at c
        case str => split at c; · rfl
                    · simp at c
        case int k => split at c; · simp only [of_decide_eq_true c]
                      · simp at c
    · simp at h2

def tisB (P : Program) : List (Nat × TI) → Bool
  | [] => true
  | (t, I) :: r => tiB P t I && tisB P r
theorem tisB_ok : ∀ {l : List (Nat × TI)}, tisB P l = true → ∀ t I, asc l t = some I → TIok P t I
  | (j, x) :: r, h, t, I, e => by
    simp only [tisB, Bool.and_eq_true] at h
    simp only [asc] at e
    rcases cond_some e with ⟨hj, e⟩ | ⟨_, e⟩
    · simp only [Option.some.injEq] at e; subst e; rw [Nat.eq_of_beq_eq_true hj]; exact tiB_ok h.1
    · exact tisB_ok h.2 t I e
  | [], _, t, I, e => by simp [asc] at e

/-- The program's number. -/
def realOf (rl : List (Nat × Nat)) (g : Nat) : Nat := match asc rl g with
  | some f => f
  | none => g
/-- The numbers to try. -/
def altsOf (al : List (Nat × List Nat)) (rl : List (Nat × Nat)) (f : Nat) : List Nat := match asc al f with
  | some gs => gs
  | none => match asc rl f with
    | some _ => []
    | none => [f]
def altsB (rl : List (Nat × Nat)) : List (Nat × List Nat) → Bool
  | [] => true
  | (f, gs) :: r => gs.all (fun g => Nat.beq (realOf rl g) f) && altsB rl r
theorem altsB_ok {rl : List (Nat × Nat)} : ∀ {al : List (Nat × List Nat)}, altsB rl al = true → ∀ f gs, asc al f = some gs → ∀ g ∈ gs, realOf rl g = f
  | (j, x) :: r, h, f, gs, e, g, hg => by
    simp only [altsB, Bool.and_eq_true] at h
    simp only [asc] at e
    rcases cond_some e with ⟨hj, e⟩ | ⟨_, e⟩
    · simp only [Option.some.injEq] at e; subst e; rw [Nat.eq_of_beq_eq_true hj]; exact Nat.eq_of_beq_eq_true (List.all_eq_true.1 h.1 g hg)
    · exact altsB_ok h.2 f gs e g hg
  | [], _, f, gs, e, _, _ => by simp [asc] at e
theorem altsOf_ok {al : List (Nat × List Nat)} {rl : List (Nat × Nat)} (h : altsB rl al = true) (f g : Nat) (hg : g ∈ altsOf al rl f) : realOf rl g = f := by
  unfold altsOf at hg
  split at hg
  · rename_i gs hgs; exact altsB_ok h f gs hgs g hg
  · split at hg
    · cases hg
    · rename_i hn
      simp only [List.mem_singleton] at hg
      subst hg
      unfold realOf; rw [hn]

def FnsOK (P : Program) (rl : List (Nat × Nat)) : List (Nat × Func) → Prop
  | [] => True
  | (f, F) :: r => P.funcs[realOf rl f]? = some F ∧ FnsOK P rl r
theorem FnsOK.get {rl : List (Nat × Nat)} : ∀ {l : List (Nat × Func)}, FnsOK P rl l → ∀ f F, asc l f = some F → P.funcs[realOf rl f]? = some F
  | (j, x) :: r, h, t, I, e => by
    simp only [asc] at e
    rcases cond_some e with ⟨hj, e⟩ | ⟨_, e⟩
    · simp only [Option.some.injEq] at e; subst e; rw [Nat.eq_of_beq_eq_true hj]; exact h.1
    · exact FnsOK.get h.2 t I e
  | [], _, t, I, e => by simp [asc] at e

def sigsB (fns : List (Nat × Func)) : List (Nat × Sig) → Bool
  | [] => true
  | (f, sg) :: r => (match asc fns f with
     | some F => F.body.isSome && !(F.name == "runtime.NumGoroutine") && Nat.ble sg.params.length F.ntmps
     | none => false) && sigsB fns r
theorem sigsB_ok {fns : List (Nat × Func)} : ∀ {l : List (Nat × Sig)}, sigsB fns l = true → ∀ f sg, asc l f = some sg → ∃ F, asc fns f = some F ∧ F.body.isSome = true ∧ (F.name == "runtime.NumGoroutine") = false ∧ sg.params.length ≤ F.ntmps
  | (j, x) :: r, h, t, I, e => by
    simp only [sigsB, Bool.and_eq_true] at h
    simp only [asc] at e
    rcases cond_some e with ⟨hj, e⟩ | ⟨_, e⟩
    · simp only [Option.some.injEq] at e; subst e; rw [Nat.eq_of_beq_eq_true hj]
      have h1 := h.1
      split at h1
      · rename_i F hF
        simp only [Bool.and_eq_true, Bool.not_eq_true'] at h1
        exact ⟨F, hF, h1.1.1, h1.1.2, Nat.le_of_ble_eq_true h1.2⟩
      · simp at h1
    · exact sigsB_ok h.2 t I e
  | [], _, t, I, e => by simp [asc] at e

theorem Cfg.OK.of {C : Cfg} {tis : List (Nat × TI)} {fns : List (Nat × Func)} {sigs : List (Nat × Sig)} {rl : List (Nat × Nat)} {al : List (Nat × List Nat)} (h1 : C.ti = asc tis) (h2 : C.fn = asc fns) (h3 : C.sig = asc sigs) (h4 : C.real = realOf rl) (h5 : C.alts = altsOf al rl)
    (ht : tisB C.P tis = true) (hf : FnsOK C.P rl fns) (hs : sigsB fns sigs = true) (ha : altsB rl al = true) (hd : C.P.follows .mixedOrders = true) : C.OK where
  ti := by rw [h1]; exact tisB_ok ht
  fn := by rw [h2, h4]; exact hf.get
  call := by
    rw [h3, h4]
    intro f sg e
    obtain ⟨F, a, b, c, _⟩ := sigsB_ok hs f sg e
    exact ⟨F, hf.get f F a, b, c⟩
  slots := by
    rw [h3, h2]
    intro f sg F e e'
    obtain ⟨F', a, _, _, d⟩ := sigsB_ok hs f sg e
    rw [a] at e'
    simp only [Option.some.injEq] at e'
    subst e'; exact d
  alts := by
    rw [h4, h5]
    exact fun f g hg => altsOf_ok ha f g hg
  draws := hd
end Go.Ps
