/- Regions that draw their order: the order of the text serves every order. -/
import Derived.Test.YtpfplngeakmghaaPrV
import Derived.Test.YtpfplngeakmghaaPrQ
import Derived.Still
namespace Go.Pr
set_option linter.unusedVariables false
variable {C : Cfg} {R : Type} {env : C.Env} {ops : Array Oper}

/-- Whether a guarded operation is carried out. -/
def gd (ops : Array Oper) (o : Oper) (tmps : Nat → SV) : Option Bool :=
  match o.guard with
  | none => some true
  | some (j, want) => match (ops[j]?).bind (·.dst) with
    | none => none
    | some d => match tmps d with
      | .v (.bool c) => some (bif c then want else !want)
      | .tup _ _ => some false
      | _ => none

theorem put_same {s : St} {d : Nat} {x : SV} (h : s.tmps d = x) : s.put d x = s := by
  cases s with
  | mk n tm mem =>
    simp only [St.put, St.mk.injEq, and_true, true_and]
    funext t
    by_cases e : t = d
    · subst e; simp only [Nat.beq_refl, cond_true]; exact h.symm
    · simp only [beq_ne e, cond_false]

theorem operK_g (o : Oper) (s : St) (k : St → Option R) : operK C env ops o s k = (gd ops o s.tmps).bind fun b => bif b then doK C env (64 * o.dst.getD 0) o.op s (putK o k) else putK o k (.tup [] []) s := by
  unfold operK gd
  cases o.guard with
  | none => rfl
  | some g =>
    obtain ⟨j, want⟩ := g
    simp only []
    cases (ops[j]?).bind (·.dst) with
    | none => rfl
    | some d =>
      simp only []
      cases hd : s.tmps d with
      | v p =>
        cases p <;> try rfl
        case bool c =>
          cases c <;> cases want <;> simp only [cond_true, cond_false, Bool.not_true, Bool.not_false, Option.bind_some] <;> rw [put_same hd]
      | agg _ => rfl
      | tup _ _ => rfl

/-- What a calm operation yields, and what it makes data. -/
def calm (C : Cfg) (env : C.Env) (mem : Mem) (ev : Operand → SV) (op : Op) : Option (SV × List PV) :=
  bif silentOp op then (sil C mem ev op).map fun x => (x, []) else
  match op with
  | .call c => match c.callee with
    | .value (.func f) => match C.sig f with
      | some sg => match argsOf (memSt mem) sg.params (c.args.toList.map ev) with
        | some (as, _, os) => (env f as).bind fun r =>
          match resSV sg.res (inj (C.resTy f) r), dropC (inj (C.resTy f) r) ((sg.res.map (·.1.size)).foldr (· + ·) 0) with
          | some x, some back => bif back.all PV.closed then some (x, bif (C.resTy f).lists then os else []) else none
          | _, _ => none
        | none => none
      | none => none
    | _ => none
  | _ => none

theorem argsOf_m {s s' : St} (h : s.mem = s'.mem) : ∀ (ps : List PK) (xs : List SV), argsOf s ps xs = argsOf s' ps xs := by
  have hd : ∀ p, s.dat p = s'.dat p := fun p => by cases p <;> simp only [St.dat, St.norm, h]
  have hd' : s.dat = s'.dat := funext hd
  have hl : ∀ p n, s.look p n = s'.look p n := fun p n => by cases p <;> simp only [St.look, h]
  intro ps
  induction ps with
  | nil => intro xs; cases xs <;> rfl
  | cons p ps ih =>
    intro xs
    cases xs with
    | nil => cases p <;> rfl
    | cons x xs =>
      cases p with
      | val => cases x <;> simp only [argsOf, ih, hd']
      | var τ => simp only [argsOf, ih, hd', hl]

theorem argsOf_vals {s : St} : ∀ {ps : List PK} {xs : List SV} {as ms os}, valOnly ps = true → argsOf s ps xs = some (as, ms, os) → ms = [] := by
  intro ps
  induction ps with
  | nil =>
    intro xs as ms os _ e
    cases xs <;> simp only [argsOf, Option.some.injEq, Prod.mk.injEq] at e
    · exact e.2.1.symm
    · simp at e
  | cons p ps ih =>
    intro xs as ms os hv e
    cases p with
    | var τ => simp [valOnly] at hv
    | val =>
      cases xs with
      | nil => simp [argsOf] at e
      | cons x xs =>
        cases x <;> simp only [argsOf] at e <;> try (simp at e; done)
        all_goals
          split at e
          · rename_i hrec
            simp only [Option.some.injEq, Prod.mk.injEq] at e
            rw [← e.2.1]; exact ih hv hrec
          · simp at e

theorem injF_no (id : Nat) : ∀ (τ : Ty) (r : τ.den) (j : Nat), injF id τ .no r j = inj τ r := fun τ r j => by cases τ <;> rfl
theorem newF_no (id : Nat) : ∀ (τ : Ty) (r : τ.den) (j : Nat) (s : St), newF id τ .no r j s = some s := fun τ r j s => by cases τ <;> rfl
theorem calm_do {id : Nat} {op : Op} (h : (silentOp op || callOp C op) = true) (s : St) (k : SV → St → Option R) : doK C env id op s k = (calm C env s.mem s.ev op).bind fun p => k p.1 (s.still p.2) := by
  cases hs : silentOp op with
  | true => rw [sil_do hs]; simp only [calm, hs, cond_true]; cases sil C s.mem s.ev op <;> rfl
  | false =>
    rw [hs, Bool.false_or] at h
    cases op <;> simp only [callOp] at h <;> try (simp at h; done)
    rename_i c
    split at h
    · rename_i f hc
      split at h
      · rename_i sg hsg
        simp only [doK, calm, hs, cond_false, hc, hsg]
        rw [callK_f]
        simp only [callP, hsg]
        rw [argsOf_m (s := s) (s' := memSt s.mem) rfl]
        cases ha : argsOf (memSt s.mem) sg.params (c.args.toList.map s.ev) with
        | none => rfl
        | some q =>
          obtain ⟨as, ms, os⟩ := q
          simp only [Bool.and_eq_true] at h
          have hms := argsOf_vals h.1 ha
          have hno : sg.outs = .no := by cases ho : sg.outs <;> rw [ho] at h <;> first | rfl | simp [Fl.isNo] at h
          rw [hno]
          have hi : ∀ r : C.Res f, injF id (C.resTy f) .no r 0 = inj (C.resTy f) r := fun r => injF_no id _ r 0
          have hn : ∀ (r : C.Res f) s, newF id (C.resTy f) .no r 0 s = some s := fun r s => newF_no id _ r 0 s
          subst hms
          simp only [Option.bind_some, Option.bind_assoc]
          refine congrArg _ (funext fun r => ?_)
          rw [hi]
          cases resSV sg.res (inj (C.resTy f) r) with
          | none => rfl
          | some x =>
            cases dropC (inj (C.resTy f) r) ((sg.res.map (·.1.size)).foldr (· + ·) 0) with
            | none => rfl
            | some back =>
              simp only [backK, hn]
              cases back.all PV.closed
              · rfl
              · simp only [cond_true, Option.bind_some, un2]
                cases (C.resTy f).lists <;> rfl
      · simp at h
    · simp at h

def Uo (C : Cfg) (env : C.Env) (ops : Array Oper) (o : Oper) (s : St) : Option (SV × List PV) :=
  (gd ops o s.tmps).bind fun b => bif b then calm C env s.mem s.ev o.op else some (.tup [] [], [])


theorem operK_U {o : Oper} (h : calmOp C o = true) (s : St) (k : St → Option R) : operK C env ops o s k = (Uo C env ops o s).bind fun p => putK o k p.1 (s.still p.2) := by
  rw [operK_g, Uo, Option.bind_assoc]
  refine congrArg _ (funext fun b => ?_)
  cases b
  · rfl
  · simp only [cond_true]; rw [calm_do h]

/-! ### What an operation looks at -/
theorem sil_congr {mem : Mem} {ev ev' : Operand → SV} {op : Op} (h : ∀ x ∈ op.operands, ev x = ev' x) : sil C mem ev op = sil C mem ev' op := by
  cases op <;> simp only [Op.operands] at h <;> simp only [sil]
  case call c =>
    cases hc : c.callee with
    | builtin b =>
      cases b <;> try rfl
      simp only []
      split
      · rename_i x t hx _
        have : x ∈ c.args.toList := by rw [hx]; simp
        rw [h x (by simp only [Call.operands, hc]; simpa using this)]
      · rfl
    | _ => rfl
  all_goals (first | rfl | (simp_all; done))

theorem calm_congr {mem : Mem} {ev ev' : Operand → SV} {op : Op} (h : ∀ x ∈ op.operands, ev x = ev' x) : calm C env mem ev op = calm C env mem ev' op := by
  unfold calm
  rw [sil_congr h]
  cases silentOp op
  · simp only [cond_false]
    cases op <;> try rfl
    rename_i c
    simp only []
    have : c.args.toList.map ev = c.args.toList.map ev' := List.map_congr_left fun x hx => h x (by simp [Op.operands, Call.operands]; exact .inr (by simpa using hx))
    rw [this]
  · rfl

theorem Uo_put {o : Oper} {s : St} {d : Nat} {y : SV} (h : d ∉ o.looksAt ops) : Uo C env ops o (s.put d y) = Uo C env ops o s := by
  have hne : ∀ t, t ∈ o.looksAt ops → (s.put d y).tmps t = s.tmps t := fun t ht => by
    have : t ≠ d := fun e => h (e ▸ ht)
    simp only [St.put, beq_ne this, cond_false]
  have hg : gd ops o (s.put d y).tmps = gd ops o s.tmps := by
    unfold gd
    cases hg : o.guard with
    | none => rfl
    | some g =>
      obtain ⟨j, want⟩ := g
      simp only []
      cases hj : (ops[j]?).bind (·.dst) with
      | none => rfl
      | some t => simp only []; rw [hne t (by simp [Oper.looksAt, hg, hj])]
  have hev : ∀ x ∈ o.op.operands, (s.put d y).ev x = s.ev x := fun x hx => by
    cases x with
    | tmp t => exact hne t (List.mem_append_left _ (List.mem_filterMap.2 ⟨.tmp t, by simpa using hx, rfl⟩))
    | _ => rfl
  unfold Uo
  rw [hg]
  refine congrArg _ (funext fun b => ?_)
  cases b
  · rfl
  · exact calm_congr hev

/-! ### What becomes data -/
theorem gd_fz {o : Oper} {tmps : Nat → SV} {id : Nat} {e : Ty} {xs : List e.den} : gd ops o (fun t => (tmps t).map (fz id e xs)) = gd ops o tmps := by
  unfold gd
  cases o.guard with
  | none => rfl
  | some g =>
    obtain ⟨j, want⟩ := g
    simp only []
    cases (ops[j]?).bind (·.dst) with
    | none => rfl
    | some d =>
      simp only []
      cases tmps d with
      | v p =>
        cases p <;> simp only [SV.map, fz, PV.freeze] <;> try rfl
        case own i => cases Nat.beq i id <;> rfl
        case elt i _ _ => cases Nat.beq i id <;> rfl
      | agg _ => rfl
      | tup _ _ => rfl

theorem constPV_fz (v : Value) (id : Nat) (e : Ty) (xs : List e.den) : fz id e xs (constPV v) = constPV v := by
  unfold constPV; split <;> rfl
theorem constSV_fz (v : Value) (id : Nat) (e : Ty) (xs : List e.den) : (constSV v).map (fz id e xs) = constSV v := by
  unfold constSV
  split
  · rename_i cs
    cases cs.toList.all (fun v => match v with | .agg _ | .tuple _ => false | _ => true)
    · rfl
    · simp only [cond_true, SV.map, List.map_map]
      congr 1
      exact List.map_congr_left fun v _ => constPV_fz v id e xs
  · simp only [SV.map, constPV_fz]

structure Moves (C : Cfg) (env : C.Env) (ops : Array Oper) (s s' : St) (φ : SV → SV) : Prop where
  sil : ∀ o : Oper, silentOp o.op = true → Uo C env ops o s' = (Uo C env ops o s).map fun p => (φ p.1, p.2)

theorem freeze_moves (s : St) (id : Nat) : ∃ φ, Moves C env ops s (s.freeze id) φ ∧ (∀ d y, (s.put d y).freeze id = (s.freeze id).put d (φ y)) ∧ (s.freeze id).n = s.n := by
  cases hm : s.mem id with
  | none => exact ⟨fun x => x, ⟨fun o _ => by simp only [St.freeze, hm]; cases Uo C env ops o s <;> rfl⟩, fun d y => by simp only [St.freeze, St.put, hm], by simp only [St.freeze, hm]⟩
  | some b =>
    cases b with
    | box cs => exact ⟨fun x => x, ⟨fun o _ => by simp only [St.freeze, hm]; cases Uo C env ops o s <;> rfl⟩, fun d y => by simp only [St.freeze, St.put, hm], by simp only [St.freeze, hm]⟩
    | rows T e xs =>
      have hf : s.freeze id = ⟨s.n, fun t => (s.tmps t).map (fz id e xs), memFreeze s.mem id e xs⟩ := by simp only [St.freeze, hm]; rfl
      refine ⟨SV.map (fz id e xs), ⟨fun o ho => ?_⟩, fun d y => ?_, by rw [hf]⟩
      · rw [hf]
        unfold Uo
        simp only [gd_fz]
        cases gd ops o s.tmps with
        | none => rfl
        | some b =>
          cases b
          · rfl
          · simp only [Option.bind_some, cond_true, calm, ho]
            have hev : (⟨s.n, fun t => (s.tmps t).map (fz id e xs), memFreeze s.mem id e xs⟩ : St).ev = fun x => (s.ev x).map (fz id e xs) := by
              funext x
              cases x with
              | tmp t => rfl
              | const v => exact (constSV_fz v id e xs).symm
              | global _ => rfl
              | func _ => rfl
            rw [hev, sil_fz hm ho]
            cases sil C s.mem s.ev o.op <;> rfl
      · rw [hf]
        simp only [St.freeze, St.put, hm, St.mk.injEq, true_and]
        refine ⟨funext fun t => ?_, rfl⟩
        cases Nat.beq t d <;> rfl

theorem still_moves : ∀ (os : List PV) (s : St), ∃ φ, Moves C env ops s (s.still os) φ ∧ (∀ d y, (s.put d y).still os = (s.still os).put d (φ y)) ∧ (s.still os).n = s.n
  | [], s => ⟨fun x => x, ⟨fun o _ => by simp only [St.still]; cases Uo C env ops o s <;> rfl⟩, fun _ _ => rfl, rfl⟩
  | p :: os, s => by
    have ih := still_moves os s
    cases p <;> simp only [St.still] <;> try exact ih
    case own id =>
      obtain ⟨φ, ⟨h1⟩, h2, h3⟩ := freeze_moves (C := C) (env := env) (ops := ops) s id
      obtain ⟨ψ, ⟨k1⟩, k2, k3⟩ := still_moves os (s.freeze id)
      refine ⟨fun x => ψ (φ x), ⟨fun o ho => ?_⟩, fun d y => by rw [h2, k2], by rw [k3, h3]⟩
      rw [k1 o ho, h1 o ho]
      cases Uo C env ops o s <;> rfl

/-! ### Two operations in either order -/
def P1 (o : Oper) (x : SV) (s : St) : St := match o.dst with
  | none => s
  | some d => s.put d x
def chk (o : Oper) (n : Nat) : Bool := match o.dst with
  | none => true
  | some d => Nat.blt d n
theorem putK_P (o : Oper) (x : SV) (s : St) : putK o some x s = bif chk o s.n then some (P1 o x s) else none := by
  unfold putK chk P1; cases o.dst <;> rfl
theorem P1_n (o : Oper) (x : SV) (s : St) : (P1 o x s).n = s.n := by unfold P1; cases o.dst <;> rfl
theorem P1_comm {o o' : Oper} (h : ∀ d, o.dst = some d → o'.dst ≠ some d) (x y : SV) (s : St) : P1 o x (P1 o' y s) = P1 o' y (P1 o x s) := by
  unfold P1
  cases hd : o.dst with
  | none => rfl
  | some d =>
    cases hd' : o'.dst with
    | none => rfl
    | some d' =>
      have hne : d ≠ d' := fun e => h d hd (by rw [hd', e])
      simp only [St.put, St.mk.injEq, true_and, and_true]
      funext t
      by_cases e : t = d
      · subst e; simp only [Nat.beq_refl, cond_true, beq_ne hne, cond_false]
      · simp only [beq_ne e, cond_false]
theorem P1_still {o : Oper} {s : St} {os : List PV} {φ : SV → SV} (h : ∀ d y, (s.put d y).still os = (s.still os).put d (φ y)) (x : SV) : (P1 o x s).still os = P1 o (φ x) (s.still os) := by
  unfold P1
  cases o.dst with
  | none => rfl
  | some d => exact h d x
theorem Uo_P {o o' : Oper} (h : ∀ d, o.dst = some d → d ∉ o'.looksAt ops) (x : SV) (s : St) : Uo C env ops o' (P1 o x s) = Uo C env ops o' s := by
  unfold P1
  cases hd : o.dst with
  | none => rfl
  | some d => exact Uo_put (h d hd)
theorem Uo_silent {o : Oper} (h : silentOp o.op = true) {s : St} {p : SV × List PV} (e : Uo C env ops o s = some p) : p.2 = [] := by
  unfold Uo at e
  cases hg : gd ops o s.tmps with
  | none => rw [hg] at e; simp at e
  | some b =>
    rw [hg] at e
    cases b
    · simp at e; rw [← e]
    · simp only [Option.bind_some, cond_true, calm, h] at e
      cases hs : sil C s.mem s.ev o.op with
      | none => rw [hs] at e; simp at e
      | some x => rw [hs] at e; simp at e; rw [← e]

theorem comm {oi oj : Oper} (hi : calmOp C oi = true) (hj : calmOp C oj = true) (hs : silentOp oi.op = true ∨ silentOp oj.op = true) (hap : oi.apart ops oj = true) {s s1 s2 : St}
    (e1 : operK C env ops oi s some = some s1) (e2 : operK C env ops oj s1 some = some s2) : ∃ s3, operK C env ops oj s some = some s3 ∧ operK C env ops oi s3 some = some s2 := by
  obtain ⟨a1, a2, a3⟩ := Oper.apart_spec hap
  have a4 : ∀ d, oj.dst = some d → oi.dst ≠ some d := fun d h h' => a2 d h' h
  rw [operK_U hi, Option.bind_eq_some_iff] at e1
  obtain ⟨⟨x, osi⟩, hx, e1⟩ := e1
  rw [operK_U hj, Option.bind_eq_some_iff] at e2
  obtain ⟨⟨y, osj⟩, hy, e2⟩ := e2
  simp only [putK_P] at e1 e2
  rcases cond_some e1 with ⟨c1, e1⟩ | ⟨_, e1⟩
  · rcases cond_some e2 with ⟨c2, e2⟩ | ⟨_, e2⟩
    · simp only [Option.some.injEq] at e1 e2
      rw [operK_U hj]
      rcases hs with hs | hs
      · have := Uo_silent hs hx
        simp only at this
        subst this
        simp only [St.still] at e1 c1
        obtain ⟨φ, ⟨m1⟩, m2, m3⟩ := still_moves (C := C) (env := env) (ops := ops) osj s
        rw [← e1, Uo_P a1] at hy
        have hn : s1.n = s.n := by rw [← e1, P1_n]
        have hn2 : (s1.still osj).n = s.n := by rw [← e1, P1_still m2, P1_n, m3]
        rw [hn2] at c2
        refine ⟨P1 oj y (s.still osj), ?_, ?_⟩
        · rw [hy]; simp only [Option.bind_some, putK_P, m3, c2, cond_true]
        · rw [operK_U hi, Uo_P a3, m1 oi hs, hx]
          simp only [Option.map_some, Option.bind_some, putK_P, St.still, P1_n, m3, c1, cond_true]
          rw [← e2, ← e1, P1_still m2, P1_comm a2]
      · have := Uo_silent hs hy
        simp only at this
        subst this
        simp only [St.still] at e2 c2
        obtain ⟨φ, ⟨m1⟩, m2, m3⟩ := still_moves (C := C) (env := env) (ops := ops) osi s
        rw [← e1, Uo_P a1, m1 oj hs] at hy
        rw [m3] at c1
        have hn : s1.n = s.n := by rw [← e1, P1_n, m3]
        rw [hn] at c2
        cases hz : Uo C env ops oj s with
        | none => rw [hz] at hy; simp at hy
        | some z =>
          obtain ⟨z, os⟩ := z
          have := Uo_silent hs hz
          simp only at this
          subst this
          rw [hz] at hy
          simp only [Option.map_some, Option.some.injEq, Prod.mk.injEq, and_true] at hy
          refine ⟨P1 oj z s, ?_, ?_⟩
          · simp only [Option.bind_some, putK_P, St.still, c2, cond_true]
          · rw [operK_U hi, Uo_P a3, hx]
            simp only [Option.bind_some, putK_P]
            rw [P1_still m2, P1_n, m3, c1, cond_true, ← e2, ← e1, hy, P1_comm a2]
    · simp at e2
  · simp at e1
end Go.Pr
