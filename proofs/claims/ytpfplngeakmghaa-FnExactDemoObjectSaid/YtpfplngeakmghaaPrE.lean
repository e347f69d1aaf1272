/- Each operation does what the interpreter says: operations that leave the memory. -/
import Derived.Test.YtpfplngeakmghaaPrD
import Derived.Laws.Sem
import Derived.Laws.Entries
import Derived.Laws.OwnMore
import Derived.Laws.StructEq
import Derived.Laws.Small
namespace Go.Pr
set_option linter.unusedVariables false
variable {S S' : Nat → Prop} {σ σ' : Sg} {w w' : World}

/-- A constant of the interpreter and one of the model. -/
def PV.same : PV → Value → Bool
  | .bool a, .bool b => a == b
  | .int k n, .int k' n' => decide (k = k') && decide (n = n')
  | .str s, .string t => s.data.toList == t.data.toList
  | .nils, .slice none 0 0 => true
  | .nilp, .pointer none => true
  | _, _ => false
def sameAll : List PV → List Value → Bool
  | [], [] => true
  | p :: ps, v :: vs => p.same v && sameAll ps vs
  | _, _ => false
theorem same_rep {p : PV} {v : Value} (h : p.same v = true) : RepC S σ w p [v] := by
  unfold PV.same at h
  split at h
  · simp only [beq_iff_eq] at h; subst h; rfl
  · simp only [Bool.and_eq_true, decide_eq_true_eq] at h; obtain ⟨rfl, rfl⟩ := h; rfl
  · rename_i s t
    simp only [beq_iff_eq] at h
    have : s = t := by cases s; cases t; simp only [ByteArray.mk.injEq]; exact Array.toList_inj.1 h
    subst this; rfl
  · rfl
  · rfl
  · simp at h
theorem sameAll_rep : ∀ {ps : List PV} {vs : List Value}, sameAll ps vs = true → RepCs S σ w ps vs
  | [], [], _ => rfl
  | p :: ps, v :: vs, h => by
    simp only [sameAll, Bool.and_eq_true] at h
    exact ⟨[v], vs, rfl, same_rep h.1, sameAll_rep h.2⟩
  | [], _ :: _, h => by simp [sameAll] at h
  | _ :: _, [], h => by simp [sameAll] at h

inductive All2 {α β : Type} (Q : α → β → Prop) : List α → List β → Prop where
  | nil : All2 Q [] []
  | cons {x : α} {y : β} {xs : List α} {ys : List β} (h : Q x y) (t : All2 Q xs ys) : All2 Q (x :: xs) (y :: ys)
theorem All2.get {α β : Type} {Q : α → β → Prop} : ∀ {xs : List α} {ys : List β}, All2 Q xs ys → ∀ {i : Nat} {y : β}, ys[i]? = some y → ∃ x, xs[i]? = some x ∧ Q x y
  | _, _, .nil, i, y, h => by simp at h
  | _, _, .cons h t, 0, y, e => by simp only [List.getElem?_cons_zero, Option.some.injEq] at e; subst e; exact ⟨_, by simp, h⟩
  | _, _, .cons h t, i + 1, y, e => by simp only [List.getElem?_cons_succ] at e ⊢; exact t.get e

/-- What the table says of a type's number is so. -/
structure TIok (P : Program) (t : TypeId) (I : TI) : Prop where
  info : ∃ i z, P.info? t = some i ∧ i.size = I.size ∧ i.bytes = I.bytes ∧ i.zero = some z ∧ sameAll I.zero z.cells.toList = true ∧ z.cells.size = I.size
  under : ∃ d, P.underlying t = some d ∧ d.isRow = I.isAgg ∧
    (match I.sh with
     | .slice e => d = .slice e
     | .struct fs ags => ∃ l : List Field, d = .struct l.toArray ∧ All2 (fun (f : Field) (x : Nat × Nat) => f.offset = x.1 ∧ ∃ i, P.info? f.type = some i ∧ i.size = x.2) l fs ∧ All2 (fun (f : Field) (b : Bool) => ∃ d, P.underlying f.type = some d ∧ d.isRow = b) l ags
     | .array n e => d = .array n e
     | _ => True) ∧
    (match I.ty with
     | .bool => d = .bool
     | .int k => d = .int k
     | .str => d = .string
     | .list _ => ∃ e, d = .slice e
     | _ => True)
  size : I.ty.size = I.size

structure Cfg.OK (C : Cfg) : Prop where
  ti : ∀ t I, C.ti t = some I → TIok C.P t I
  fn : ∀ f F, C.fn f = some F → C.P.funcs[f]? = some F
  call : ∀ f sg, C.sig f = some sg → ∃ F, C.P.funcs[f]? = some F ∧ F.body.isSome = true ∧ (F.name == "runtime.NumGoroutine") = false
  slots : ∀ f sg F, C.sig f = some sg → C.fn f = some F → sg.params.length ≤ F.ntmps
  draws : C.P.follows .mixedOrders = true

theorem constC_rep (v : Value) (h : v.oneCell' = true) : RepC S σ w (constPV v) [v] := by
  unfold constPV
  split <;> first | rfl | exact ⟨v, rfl, h⟩

theorem constSV_rep (v : Value) : RepS S σ w (constSV v) v := by
  unfold constSV
  split
  · rename_i cs
    cases h : cs.toList.all (fun v => match v with | .agg _ | .tuple _ => false | _ => true) with
    | false => trivial
    | true =>
      have h : ∀ c ∈ cs.toList, c.oneCell' = true := fun c hc => by
        have := List.all_eq_true.1 h c hc
        cases c <;> first | rfl | simp at this
      refine ⟨cs.toList, by simp, ?_⟩
      generalize cs.toList = l at h
      induction l with
      | nil => rfl
      | cons c l ih => exact ⟨[c], l, rfl, constC_rep c (h c (by simp)), ih fun q hq => h q (by simp [hq])⟩
  · rename_i hne
    cases v <;> first | exact RepS.v rfl | trivial | skip
    case slice a l c => cases a <;> cases l <;> cases c <;> first | trivial | exact RepS.v rfl
    case pointer a => cases a <;> first | trivial | exact RepS.v rfl

def Operand.fine (_ : Operand) : Bool := true

theorem ev_rep {E : En} {G : Gh} {s : St} {a : Act} (h : Sim E G s a w) (x : Operand) (hx : Operand.fine x = true) : RepS G.S G.σ w (s.ev x) (a.eval x) := by
  cases x with
  | tmp t => exact h.tmp t
  | const v => exact constSV_rep v
  | global g => trivial
  | func f => exact RepS.v ⟨[], rfl, rfl⟩

section
variable {P : Program} {R : Type} {k : PV → Option R} {r : R}

theorem int_of {x : PV} {n : Int} {kd : IntKind} {v : Value} (h : RepC S σ w (.int kd n) [v]) : v = .int kd n := by simpa [RepC] using h
theorem str_of {t : ByteArray} {v : Value} (h : RepC S σ w (.str t) [v]) : v = .string t := by simpa [RepC] using h
theorem bool_of {b : Bool} {v : Value} (h : RepC S σ w (.bool b) [v]) : v = .bool b := by simpa [RepC] using h

theorem cond_some {α : Type} {c : Bool} {x y : Option α} {r : α} (h : (bif c then x else y) = some r) : (c = true ∧ x = some r) ∨ (c = false ∧ y = some r) := by
  cases c <;> simp_all

theorem eqGuard_int (op : BinOp) (t : TypeId) (x y : Operand) (a b : Int) (i j : IntKind) : (eqGuard op t x y (.int i a) (.int j b)).run P w = .ok () w := by
  unfold eqGuard; cases op <;> simp
theorem eqGuard_str (op : BinOp) (t : TypeId) (x y : Operand) (a b : ByteArray) : (eqGuard op t x y (.string a) (.string b)).run P w = .ok () w := by
  unfold eqGuard; cases op <;> simp
theorem eqGuard_bool (op : BinOp) (t : TypeId) (x y : Operand) (a b : Bool) : (eqGuard op t x y (.bool a) (.bool b)).run P w = .ok () w := by
  unfold eqGuard; cases op <;> simp

theorem fin_int {kd : IntKind} {n : Int} {X : Sem Value} (h : k (.int kd n) = some r) (hrun : X.run P w = .ok (.int kd n) w) : ∃ p v, X.run P w = .ok v w ∧ RepC S σ w p [v] ∧ k p = some r := ⟨.int kd n, _, hrun, rfl, h⟩
theorem fin_bool {b : Bool} {X : Sem Value} (h : k (.bool b) = some r) (hrun : X.run P w = .ok (.bool b) w) : ∃ p v, X.run P w = .ok v w ∧ RepC S σ w p [v] ∧ k p = some r := ⟨.bool b, _, hrun, rfl, h⟩
theorem fin_str {b : ByteArray} {X : Sem Value} (h : k (.str b) = some r) (hrun : X.run P w = .ok (.string b) w) : ∃ p v, X.run P w = .ok v w ∧ RepC S σ w p [v] ∧ k p = some r := ⟨.str b, _, hrun, rfl, h⟩

theorem binI_sound {op : BinOp} (t : TypeId) {a : IntKind} {m n : Int} (hs : op ≠ .shl ∧ op ≠ .shr) (h : binI op a m n k = some r) :
    ∃ p v, (binOp op t (.int a m) (.int a n)).run P w = .ok v w ∧ RepC S σ w p [v] ∧ k p = some r := by
  cases op <;> simp only [binI] at h <;> try (simp at hs; done)
  case add => exact fin_int h (by simp [binOp, Op.intArith])
  case sub => exact fin_int h (by simp [binOp, Op.intArith])
  case mul => exact fin_int h (by simp [binOp, Op.intArith])
  case and => exact fin_int h (by simp only [binOp]; rw [if_neg (by simp)]; rfl)
  case or => exact fin_int h (by simp only [binOp]; rw [if_neg (by simp)]; rfl)
  case xor => exact fin_int h (by simp only [binOp]; rw [if_neg (by simp)]; rfl)
  case andNot => exact fin_int h (by simp only [binOp]; rw [if_neg (by simp)]; rfl)
  case quo =>
    rcases cond_some h with ⟨_, h⟩ | ⟨hc, h⟩
    · simp at h
    · exact fin_int h (by simp [binOp, Op.intDiv, of_decide_eq_false hc])
  case rem =>
    rcases cond_some h with ⟨_, h⟩ | ⟨hc, h⟩
    · simp at h
    · exact fin_int h (by simp [binOp, Op.intDiv, of_decide_eq_false hc])
  case eql => exact fin_bool h (by simp only [binOp]; rw [if_neg (by simp)]; rfl)
  case neq => exact fin_bool h (by simp only [binOp]; rw [if_neg (by simp)]; rfl)
  case lss => exact fin_bool h (by simp [binOp, Op.intCmp])
  case leq => exact fin_bool h (by simp [binOp, Op.intCmp])
  case gtr => exact fin_bool h (by simp [binOp, Op.intCmp])
  case geq => exact fin_bool h (by simp [binOp, Op.intCmp])

theorem binK_sound {op : BinOp} (t : TypeId) (xo yo : Operand) {x y : PV} {vx vy : Value} (hx : RepC S σ w x [vx]) (hy : RepC S σ w y [vy]) (h : binK op x y k = some r) :
    ∃ p v, (do eqGuard op t xo yo vx vy; binOp op t vx vy : Sem Value).run P w = .ok v w ∧ RepC S σ w p [v] ∧ k p = some r := by
  cases x <;> cases y <;> simp only [binK] at h <;> try (simp at h; done)
  case int.int a m b n =>
    have := int_of (x := .undef) hx; subst this
    have := int_of (x := .undef) hy; subst this
    simp only [Sem.run_bind, eqGuard_int, Result.andThen_ok]
    split at h
    · rcases cond_some h with ⟨_, h⟩ | ⟨hc, h⟩
      · simp at h
      · exact fin_int h (by simp [binOp, Op.shift, shlI, of_decide_eq_false hc])
    · rcases cond_some h with ⟨_, h⟩ | ⟨hc, h⟩
      · simp at h
      · exact fin_int h (by simp [binOp, Op.shift, shrI, of_decide_eq_false hc])
    · rename_i h1 h2
      split at h
      · simp at h
      · rename_i hab _
        subst hab
        exact binI_sound t ⟨fun e => h1 e, fun e => h2 e⟩ h
  case str.str a b =>
    have := str_of hx; subst this
    have := str_of hy; subst this
    simp only [Sem.run_bind, eqGuard_str, Result.andThen_ok]
    cases op <;> simp only [] at h <;> try (simp at h; done)
    case add =>
      rcases cond_some h with ⟨hc, h⟩ | ⟨_, h⟩
      · have hc := of_decide_eq_true hc
        refine fin_str h ?_
        simp only [binOp, Op.stringOp]
        rw [if_neg (by simp only [IntKind.max, IntKind.bits, IntKind.signed]; omega)]
        rfl
      · simp at h
    all_goals exact fin_bool h (by simp [binOp, Op.stringOp, strEq, strLt])

theorem unK_sound {op : UnOp} {x : PV} {vx : Value} (hx : RepC S σ w x [vx]) (h : unK op x k = some r) :
    ∃ p v, (Op.unary op vx).run P w = .ok v w ∧ RepC S σ w p [v] ∧ k p = some r := by
  unfold unK at h
  split at h
  · have := int_of (x := .undef) hx; subst this
    exact fin_int h (by simp [Op.unary, Op.intArith])
  · have := int_of (x := .undef) hx; subst this
    exact fin_int h (by simp only [Op.unary]; rfl)
  · have := bool_of hx; subst this
    exact fin_bool h (by simp [Op.unary])
  · simp at h

theorem boolK_sound {C : Cfg} (hC : C.OK) {op : BinOp} {t : TypeId} (xo yo : Operand) {x y : Bool} {vx vy : Value} (hx : RepC S σ w (.bool x) [vx]) (hy : RepC S σ w (.bool y) [vy]) (h : boolK C op t x y k = some r) :
    ∃ p v, (do eqGuard op t xo yo vx vy; binOp op t vx vy : Sem Value).run C.P w = .ok v w ∧ RepC S σ w p [v] ∧ k p = some r := by
  have := bool_of hx; subst this
  have := bool_of hy; subst this
  unfold boolK at h
  split at h
  · rename_i I hI
    split at h
    · rename_i hty
      obtain ⟨d, hu, _, _, hd⟩ := (hC.ti t I hI).under
      rw [hty] at hd
      simp only at hd
      subst hd
      simp only [Sem.run_bind, eqGuard_bool, Result.andThen_ok]
      cases op <;> simp only [] at h <;> try (simp at h; done)
      all_goals exact fin_bool h (by simp [binOp, run_equal_bool w t x y hu])
    · simp at h
  · simp at h
end

/-- An operation's run, and the interpreter's. -/
def Done (E : En) (a : Act) (P : Program) (X : Sem Value) (w : World) {R : Type} (k : SV → St → Option R) (r : R) : Prop :=
  ∃ x v s' G' w', X.run P w = .ok v w' ∧ RepS G'.S G'.σ w' x v ∧ Sim E G' s' a w' ∧ k x s' = some r

section
variable {E : En} {G : Gh} {s : St} {a : Act} {C : Cfg} {R : Type} {r : R}

theorem Done.pure {P : Program} {X : Sem Value} {x : SV} {v : Value} {k : SV → St → Option R} (h : Sim E G s a w) (hr : X.run P w = .ok v w) (hx : RepS G.S G.σ w x v) (hk : k x s = some r) : Done E a P X w k r :=
  ⟨x, v, s, G, w, hr, hx, h, hk⟩
theorem Done.ofPV {P : Program} {X : Sem Value} {k : SV → St → Option R} (h : Sim E G s a w) (e : ∃ p v, X.run P w = .ok v w ∧ RepC G.S G.σ w p [v] ∧ k (.v p) s = some r) : Done E a P X w k r := by
  obtain ⟨p, v, hr, hp, hk⟩ := e
  exact Done.pure h hr (RepS.v hp) hk

theorem rangeAt_sub {b o : Nat} {vs : List Value} (h : w.rangeAt b o vs) (off n : Nat) : w.rangeAt b (o + off) ((vs.drop off).take n) := by
  intro j v hv
  rw [List.getElem?_take] at hv
  split at hv
  · rw [List.getElem?_drop] at hv
    have := h _ _ hv
    rwa [← Nat.add_assoc] at this
  · simp at hv

theorem ownsRow_range {T : TypeId} {z n : Nat} {b c : Nat} {us : List Value} (h : w.ownsRow 0 T z (.slice (some ⟨b, 0, none⟩) n c) n us) : w.rangeAt b 0 us := by
  intro j u hu
  have hj : j < us.length := (List.getElem?_eq_some_iff.1 hu).1
  rw [Nat.zero_add, h.cellAt j (by have := h.1; omega), hu]

theorem look_sound (h : Sim E G s a w) {p : PV} {v : Value} {n : Nat} {cs : List PV} (hp : RepC G.S G.σ w p [v]) (e : s.look p n = some cs) :
    ∃ b o vs, v = .pointer (some ⟨b, o, none⟩) ∧ w.rangeAt b o vs ∧ RepCs G.S G.σ w cs vs ∧ vs.length = n := by
  cases p <;> simp only [St.look] at e <;> try (simp at e; done)
  case ptr id off =>
    split at e
    · rename_i cs0 hm
      obtain ⟨b, o, vs, hσ, hc, hr, ht⟩ := h.mem id _ hm
      obtain ⟨b', o', hσ', hv⟩ := hp
      rw [hσ] at hσ'
      simp only [Value.pointer.injEq, Option.some.injEq, Addr.mk.injEq, and_true] at hσ'
      obtain ⟨rfl, rfl⟩ := hσ'
      simp only [List.cons.injEq, and_true] at hv
      have := RepCs.cut hc e
      exact ⟨b, o + off, _, hv, rangeAt_sub hr off n, this.1, by rw [List.length_take, List.length_drop]; omega⟩
    · simp at e
  case elt id i off =>
    split at e
    · rename_i T e' xs hm
      obtain ⟨us, hr, ho, hz, hpos⟩ := h.mem id _ hm
      obtain ⟨b, m, c, z, hσ, h0, hlt, hv, rfl⟩ := hp
      simp only [List.cons.injEq, and_true] at hv
      have hm' : m = xs.length := by
        have := ho.2
        rw [hσ] at this
        rcases this with ⟨hh, _⟩ | ⟨g, cap, cur, hh, _⟩
        · simp at hh
        · simp only [Value.slice.injEq] at hh; exact hh.2.1
      subst hm'
      rw [hσ] at ho
      have hrg := ownsRow_range ho
      have hi : i.toNat < xs.length := by omega
      have hel := RepRows.get (RepT.length e') hr _ hi
      have hcut := RepCs.cut (inj_rep (σ := G.σ) _ _ _ hel) (by rw [rd, getD_eq _ _ _ hi] at e; exact e)
      refine ⟨b, i.toNat * (G.σ id).z + off, _, hv, ?_, hcut.1, by rw [List.length_take, List.length_drop]; omega⟩
      have := rangeAt_sub (rangeAt_sub hrg (i.toNat * e'.size) e'.size) off n
      rw [Nat.zero_add] at this
      rw [hz]; exact this
    · simp at e
  case cptr τ x off =>
    obtain ⟨b, o, us, hS, hr, ht, hv⟩ := hp
    simp only [List.cons.injEq, and_true] at hv
    have := RepCs.cut (inj_rep (σ := G.σ) _ _ _ ht) e
    exact ⟨b, o + off, _, hv, rangeAt_sub hr off n, this.1, by rw [List.length_take, List.length_drop]; omega⟩

theorem run_isAgg {P : Program} {t : TypeId} {d : TypeDesc} (h : P.underlying t = some d) (w : World) : (isAgg t).run P w = .ok d.isRow w := by
  unfold isAgg
  rw [Sem.run_bind, run_underlying h w]
  cases d <;> rfl

theorem run_load_one {P : Program} {t : TypeId} {d : TypeDesc} {b o : Nat} {v : Value} (hu : P.underlying t = some d) (hd : d.isRow = false) (hc : w.cell? ⟨b, o, none⟩ = some v) :
    (Instr.loadAt t (.pointer (some ⟨b, o, none⟩))).run P w = .ok v w := by
  simp only [Instr.loadAt, Instr.sureAddr, loadVar, Sem.run_bind, Sem.run_pure, Result.andThen_ok, run_isAgg hu, hd]
  simp [hc]

theorem load_run (hC : C.OK) {t : TypeId} {I : TI} (hI : C.ti t = some I) {b o : Nat} {vs : List Value} {cs : List PV} (hr : w.rangeAt b o vs) (hc : RepCs S σ w cs vs) (hl : vs.length = I.size) :
    (I.isAgg = true → (Instr.loadAt t (.pointer (some ⟨b, o, none⟩))).run C.P w = .ok (.agg vs.toArray) w) ∧
    (I.isAgg = false → ∀ c, cs = [c] → c.width = 1 → ∃ v, vs = [v] ∧ (Instr.loadAt t (.pointer (some ⟨b, o, none⟩))).run C.P w = .ok v w) := by
  obtain ⟨⟨i, z, hi, hs, _⟩, ⟨d, hu, hd, _⟩, _⟩ := hC.ti t I hI
  refine ⟨fun ha => run_loadAt_mid w b o t vs d hr hu (by rw [hd, ha]) (by rw [hi]; simp [hs, hl]), fun ha c hcs hw => ?_⟩
  subst hcs
  obtain ⟨u, v, rfl, hu1, hv⟩ := hc
  cases hv
  have hlen := RepC.length hu1
  rw [hw] at hlen
  obtain ⟨x, rfl⟩ := List.length_eq_one_iff.1 hlen
  exact ⟨x, by simp, run_load_one hu (by rw [hd, ha]) (by have := hr 0 x (by simp); simpa using this)⟩

theorem loadK_sound (hC : C.OK) (h : Sim E G s a w) {t : TypeId} {p : PV} {v : Value} {k : SV → St → Option R} (hp : RepC G.S G.σ w p [v]) (e : loadK C s t p (fun x => k x s) = some r) : Done E a C.P (Instr.loadAt t v) w k r := by
  unfold loadK at e
  split at e
  · rename_i I hI
    split at e
    · rename_i cs hl
      obtain ⟨b, o, vs, rfl, hr, hc, hlen⟩ := look_sound h hp hl
      have hrun := load_run hC hI hr hc hlen
      rcases cond_some e with ⟨ha, e⟩ | ⟨ha, e⟩
      · exact Done.pure (x := .agg cs) h (hrun.1 ha) ⟨vs, rfl, hc⟩ e
      · split at e
        · rename_i c _
          rcases cond_some e with ⟨hw, e⟩ | ⟨_, e⟩
          · obtain ⟨x, rfl, hx⟩ := hrun.2 ha c rfl (Nat.eq_of_beq_eq_true hw)
            obtain ⟨u, v', e', hu, hv⟩ := hc
            cases hv
            simp only [List.append_nil] at e'
            subst e'
            exact Done.pure h hx (RepS.v hu) e
          · simp at e
        · simp at e
    · simp at e
  · simp at e
end
end Go.Pr
