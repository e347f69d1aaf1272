/- Limits: what functions and loops come to, as equations. -/
import Derived.Test.YtjebgmofebmgaaaGreatPsU
namespace Go.Ps
set_option linter.unusedVariables false
variable {C : Cfg} {R : Type} {I : Type}

/-- Families that operations keep. -/
structure Adm (I : Type) where
  ok : {α : Type} → (I → Option α) → Prop
  const : ∀ {α : Type} (x : Option α), ok (fun _ : I => x)
  bind : ∀ {α β : Type} {x : I → Option α} {k : I → α → Option β}, ok x → (∀ a, ok fun i => k i a) → ok fun i => (x i).bind (k i)

variable (A : Adm I)
def Adm.env (env : I → C.Env) : Prop := ∀ g as, A.ok fun i => env i g as
def Adm.kont (K : I → Kont R) : Prop := ∀ e s, A.ok fun i => K i e s
def Adm.lp (lp : I → Code → Kont R → St → Option R) : Prop := ∀ b (K : I → Kont R) s, A.kont K → A.ok fun i => lp i b (K i) s

variable {A}
theorem callK_adm {env : I → C.Env} (he : A.env env) {id : Nat} {s : St} {f : Nat} {xs : List SV} {k : I → SV → List Upd → List Nat → Option R} (hk : ∀ x us rs, A.ok fun i => k i x us rs) : A.ok fun i => callK C (env i) id s f xs (k i) := by
  have : (fun i => callK C (env i) id s f xs (k i)) = fun i => (callG C s xs (C.alts f)).bind fun p => bif callC C p.1 p.2.1 p.2.2 then (env i p.1 p.2.2.as).bind fun r => (callR C id s p.1 p.2.1 p.2.2 r).bind (un3 (k i)) else none := funext fun i => by
    unfold callK
    rw [callL_f]
    exact congrArg _ (funext fun p => call1_f _ _ _ _ _ _ _)
  rw [this]
  refine A.bind (A.const _) fun p => ?_
  cases callC C p.1 p.2.1 p.2.2
  · exact A.const none
  · exact A.bind (he p.1 p.2.2.as) fun r => A.bind (A.const _) fun q => hk q.1 q.2.1 q.2.2

theorem fnK_adm {env : I → C.Env} (he : A.env env) {id : Nat} {s : St} {x : SV} {xs : List SV} {k : I → SV → List Upd → List Nat → Option R} (hk : ∀ x us rs, A.ok fun i => k i x us rs) : A.ok fun i => fnK C (env i) id s x xs (k i) := by
  cases x with
  | v p =>
    cases p <;> try exact A.const none
    case fn f caps =>
      simp only [fnK]
      cases capsSV caps with
      | none => exact A.const none
      | some ys =>
        simp only []
        cases Nat.ble (C.alts f).length 1
        · exact A.const none
        · exact callK_adm he hk
  | agg _ => exact A.const none
  | tup _ _ => exact A.const none

theorem doK_adm {env : I → C.Env} (he : A.env env) {id : Nat} {op : Op} {s : St} {k : I → SV → List Upd → List Nat → Option R} (hk : ∀ x us rs, A.ok fun i => k i x us rs) : A.ok fun i => doK C (env i) id op s (k i) := by
  have : (fun i => doK C (env i) id op s (k i)) = fun i => (doK C (env i) id op s tri).bind (un3 (k i)) := funext fun i => doK_f _ _ _ _ _
  rw [this]
  refine A.bind ?_ fun p => hk p.1 p.2.1 p.2.2
  have hd : ∀ (x : SV) (us : List Upd) (rs : List Nat), A.ok fun _ : I => tri x us rs := fun x us rs => A.const _
  cases op <;> simp only [doK] <;> try exact A.const _
  case makeFunc f _ _ => cases f <;> exact A.const _
  case slice t x lo hi m => cases m <;> exact A.const _
  case call c =>
    cases c.callee with
    | value v => cases v <;> first | exact callK_adm he hd | exact fnK_adm he hd
    | builtin b => cases b <;> exact A.const _
    | _ => exact A.const _

theorem putK_adm {o : Oper} {k : I → St → Foot → Option R} (hk : ∀ s F, A.ok fun i => k i s F) (F : Foot) (x : SV) (s : St) : A.ok fun i => putK o (k i) F x s := by
  unfold putK
  cases o.dst with
  | none => exact hk s F
  | some d =>
    simp only []
    cases Nat.blt d s.n
    · exact A.const none
    · exact hk _ F

theorem operK_adm {env : I → C.Env} (he : A.env env) {ops : Array Oper} {o : Oper} {s : St} {k : I → St → Foot → Option R} (hk : ∀ s F, A.ok fun i => k i s F) : A.ok fun i => operK C (env i) ops o s (k i) := by
  have : (fun i => operK C (env i) ops o s (k i)) = fun i => (Uo C (env i) ops o s).bind fun p => putK o (k i) (foot s p.2.1 p.2.2) p.1 (s.upds p.2.1) := funext fun i => operK_U _ _ _
  rw [this]
  refine A.bind ?_ fun p => putK_adm hk _ _ _
  unfold Uo
  refine A.bind (A.const _) fun b => ?_
  cases b
  · exact A.const _
  · exact doK_adm he fun x us rs => A.const _

theorem opsK_adm {env : I → C.Env} (he : A.env env) {ops : Array Oper} : ∀ {l : List Oper} {s : St} {k : I → St → Option R} (hk : ∀ s, A.ok fun i => k i s), A.ok fun i => opsK C (env i) ops l s (k i)
  | [], s, k, hk => hk s
  | o :: l, s, k, hk => operK_adm (k := fun i s _ => opsK C (env i) ops l s (k i)) he fun s _ => opsK_adm he hk
theorem opsF_adm {env : I → C.Env} (he : A.env env) {ops : Array Oper} : ∀ {l : List Oper} {s : St} {k : I → St → List Foot → Option R} (hk : ∀ s Fs, A.ok fun i => k i s Fs), A.ok fun i => opsF C (env i) ops l s (k i)
  | [], s, k, hk => hk s []
  | o :: l, s, k, hk => operK_adm (k := fun i s F => opsF C (env i) ops l s fun s Fs => k i s (F :: Fs)) he fun s F => opsF_adm he fun s Fs => hk s (F :: Fs)

theorem den_adm {env : I → C.Env} (he : A.env env) {f : Nat} {lp : I → Code → Kont R → St → Option R} (hl : A.lp lp) : ∀ (c : Code) (K : I → Kont R) (s : St), A.kont K → A.ok fun i => den C f (env i) (lp i) c (K i) s := by
  intro c
  induction c with
  | skip => intro K s hK; exact hK .normal s
  | ret => intro K s hK; exact hK .ret s
  | exit id => intro K s hK; exact hK (.exit id) s
  | region id ops draw =>
    intro K s hK
    simp only [den]
    cases draw
    · exact opsK_adm he (hK .normal)
    · refine opsF_adm (k := fun i s Fs => bif okD C ops Fs then K i .normal s else none) he fun s Fs => ?_
      cases okD C ops Fs
      · exact A.const none
      · exact hK .normal s
  | seq x y ihx ihy =>
    intro K s hK
    simp only [den]
    refine ihx _ s fun e s => ?_
    cases e <;> first | exact ihy K s hK | exact hK _ s
  | cond c x y ihx ihy =>
    intro K s hK
    simp only [den]
    cases s.ev c with
    | v p =>
      cases p <;> try exact A.const none
      case bool b => cases b; exact ihy K s hK; exact ihx K s hK
    | agg _ => exact A.const none
    | tup _ _ => exact A.const none
  | block id x ih =>
    intro K s hK
    simp only [den]
    refine ih _ s fun e s => ?_
    cases e <;> try exact hK _ s
    case exit j =>
      simp only [blockK]
      cases Nat.beq j id
      · exact hK _ s
      · exact hK _ s
  | loop b ih =>
    intro K s hK
    simp only [den]
    cases headOf C f b s with
    | none => exact A.const none
    | some s => exact hl b K s hK
  | _ => intro K s hK; exact A.const none

theorem loopK_adm {f : Nat} {b : Code} {L : I → St → Option R} {K : I → Kont R} (hL : ∀ s, A.ok fun i => L i s) (hK : A.kont K) : A.kont fun i => loopK C f b (L i) (K i) := by
  intro e s
  cases e <;> try exact hK _ s
  simp only [loopK]
  cases headOf C f b s with
  | none => exact A.const none
  | some s => exact hL s

theorem denF_adm {env : I → C.Env} (he : A.env env) {lp : I → (f : Nat) → Code → Kont (C.Res f) → St → Option (C.Res f)} (hl : ∀ f, A.lp fun i => lp i f) (f : Nat) (args : List SV) : A.ok fun i => denF C (env i) (lp i) f args := by
  unfold denF
  cases C.fn f with
  | none => exact A.const none
  | some F =>
    cases C.sig f with
    | none => exact A.const none
    | some sg =>
      simp only []
      cases F.body with
      | none => exact A.const none
      | some c =>
        cases enter sg.params args 0 [] [] with
        | none => exact A.const none
        | some q => exact den_adm he (hl f) c (fun _ => _) _ fun e s => A.const _

theorem denP_adm {env : I → C.Env} (he : A.env env) {lp : I → (f : Nat) → Code → Kont (C.Res f) → St → Option (C.Res f)} (hl : ∀ f, A.lp fun i => lp i f) (f : Nat) (args : List SV) : A.ok fun i => denP C (env i) (lp i) f args := by
  unfold denP
  cases C.prim f with
  | some p => exact A.const _
  | none => exact denF_adm he hl f args

/-! ### More rounds, more answers -/
def mono : Adm Bool where
  ok x := ∀ r, x false = some r → x true = some r
  const x := fun _ h => h
  bind := by
    intro α β x k hx hk r h
    rw [Option.bind_eq_some_iff] at h ⊢
    obtain ⟨y, h1, h2⟩ := h
    exact ⟨y, hx y h1, hk y r h2⟩

abbrev sel {α : Type} (x y : α) : Bool → α := fun b => match b with | false => x | true => y

theorem lpN_mono {f : Nat} {env : Bool → C.Env} (he : mono.env env) : ∀ n, mono.lp (R := R) (sel (lpN C f (env false) n) (lpN C f (env true) (n + 1))) := by
  intro n
  induction n with
  | zero => intro b K s hK r h; simp [sel, lpN] at h
  | succ n ih =>
    intro b K s hK
    have := den_adm (f := f) he ih b (fun i => loopK C f b (sel (lpN C f (env false) n) (lpN C f (env true) (n + 1)) i b (K i)) (K i)) s (loopK_adm (fun s => ih b K s hK) hK)
    exact this
theorem lpN_mono' {f : Nat} {env : Bool → C.Env} (he : mono.env env) : ∀ n, mono.lp (R := R) (fun i => lpN C f (env i) n) := by
  intro n
  induction n with
  | zero => intro b K s hK r h; simp [lpN] at h
  | succ n ih =>
    intro b K s hK
    exact den_adm he ih b (fun i => loopK C f b (lpN C f (env i) n b (K i)) (K i)) s (loopK_adm (fun s => ih b K s hK) hK)

theorem runN_mono : ∀ n, mono.env (C := C) (sel (runN C n) (runN C (n + 1)))
  | 0 => fun g as r h => by simp [sel, runN] at h
  | n + 1 => fun g as => denP_adm (lp := sel (fun f => lpN C f (runN C n) n) (fun f => lpN C f (runN C (n + 1)) (n + 1))) (runN_mono n) (fun f b K s hK r h => lpN_mono (f := f) (runN_mono n) n b K s hK r h) g as

/-- A growing family over the numbers, with what it comes to. -/
structure Up {α : Type} (x : Nat → Option α) (l : Option α) : Prop where
  step : ∀ n r, x n = some r → x (n + 1) = some r
  lim : ∀ r, l = some r ↔ ∃ n, x n = some r
theorem Up.le {α : Type} {x : Nat → Option α} {l : Option α} (h : Up x l) {m n : Nat} (hmn : m ≤ n) {r : α} (e : x m = some r) : x n = some r := by
  induction n with
  | zero => have : m = 0 := by omega
            subst this; exact e
  | succ n ih =>
    by_cases hm : m = n + 1
    · subst hm; exact e
    · exact h.step n r (ih (by omega))

def grow : Adm (Option Nat) where
  ok x := Up (fun n => x (some n)) (x none)
  const x := ⟨fun _ _ h => h, fun r => ⟨fun h => ⟨0, h⟩, fun ⟨_, h⟩ => h⟩⟩
  bind := by
    intro α β x k hx hk
    refine ⟨fun n r h => ?_, fun r => ⟨fun h => ?_, fun ⟨n, h⟩ => ?_⟩⟩
    · rw [Option.bind_eq_some_iff] at h ⊢
      obtain ⟨y, h1, h2⟩ := h
      exact ⟨y, hx.step n y h1, (hk y).step n r h2⟩
    · rw [Option.bind_eq_some_iff] at h
      obtain ⟨y, h1, h2⟩ := h
      obtain ⟨m, h1⟩ := (hx.lim y).1 h1
      obtain ⟨n, h2⟩ := ((hk y).lim r).1 h2
      refine ⟨max m n, ?_⟩
      rw [Option.bind_eq_some_iff]
      exact ⟨y, hx.le (Nat.le_max_left m n) h1, (hk y).le (Nat.le_max_right m n) h2⟩
    · rw [Option.bind_eq_some_iff] at h ⊢
      obtain ⟨y, h1, h2⟩ := h
      exact ⟨y, (hx.lim y).2 ⟨n, h1⟩, ((hk y).lim r).2 ⟨n, h2⟩⟩

theorem lim_up {α : Type} {F : Nat → Option α} (h : ∀ n r, F n = some r → F (n + 1) = some r) : Up F (Go.Ps.lim F) := by
  refine ⟨h, fun r => ⟨lim_some, fun ⟨n, hn⟩ => ?_⟩⟩
  have hx : ∃ r n, F n = some r := ⟨r, n, hn⟩
  have : Go.Ps.lim F = some (Classical.choose hx) := by simp [Go.Ps.lim, hx]
  rw [this]
  obtain ⟨m, hm⟩ := Classical.choose_spec hx
  have U : Up F none → False := fun _ => by cases ‹Up F none› with | mk _ l => exact absurd ((l r).2 ⟨n, hn⟩) (by simp)
  have le : ∀ {a b : Nat} {q : α}, a ≤ b → F a = some q → F b = some q := by
    intro a b q hab e
    induction b with
    | zero => have : a = 0 := by omega
              subst this; exact e
    | succ b ih =>
      by_cases hh : a = b + 1
      · subst hh; exact e
      · exact h b q (ih (by omega))
  have h1 := le (Nat.le_max_left m n) hm
  have h2 := le (Nat.le_max_right m n) hn
  rw [h1] at h2
  exact h2

theorem Den_up (f : Nat) (args : List SV) : Up (fun n => runN C n f args) (Den C f args) := lim_up fun n r h => runN_mono n f args r h

theorem grow_step {env : Option Nat → C.Env} (he : grow.env env) (n : Nat) : mono.env (sel (env (some n)) (env (some (n + 1)))) := fun g as r h => (he g as).step n r h
theorem mono_refl (env : C.Env) : mono.env (fun _ : Bool => env) := fun g as r h => h

/-- A growing environment: loops of a fixed number of rounds. -/
theorem lpN_grow {f : Nat} {env : Option Nat → C.Env} (he : grow.env env) : ∀ m, grow.lp (R := R) fun i => lpN C f (env i) m := by
  intro m
  induction m with
  | zero => intro b K s hK; exact grow.const none
  | succ m ih =>
    intro b K s hK
    exact den_adm he ih b (fun i => loopK C f b (lpN C f (env i) m b (K i)) (K i)) s (loopK_adm (fun s => ih b K s hK) hK)

/-- Loops of ever more rounds. -/
noncomputable def lpUp (C : Cfg) (f : Nat) (env : Option Nat → C.Env) : Option Nat → Code → Kont R → St → Option R
  | some n => lpN C f (env (some n)) n
  | none => fun b K s => Go.Ps.lim fun n => lpN C f (env none) n b K s

theorem lpUp_grow {f : Nat} {env : Option Nat → C.Env} (he : grow.env env) : grow.lp (R := R) (lpUp C f env) := by
  intro b K s hK
  have h1 : ∀ m n r, lpN C f (env (some n)) m b (K (some n)) s = some r → lpN C f (env (some (n + 1))) m b (K (some (n + 1))) s = some r := fun m n r h => (lpN_grow he m b K s hK).step n r h
  have h2 : ∀ m i r, lpN C f (env i) m b (K i) s = some r → lpN C f (env i) (m + 1) b (K i) s = some r := fun m i r h => lpN_mono (mono_refl (env i)) m b (fun _ => K i) s (fun _ _ _ h => h) r h
  have h3 : Up (fun n => lpN C f (env none) n b (K none) s) (lpUp C f env none b (K none) s) := lim_up fun n r h => h2 n none r h
  refine ⟨fun n r h => h1 (n + 1) n r (h2 n (some n) r h), fun r => ⟨fun h => ?_, fun ⟨n, h⟩ => ?_⟩⟩
  · obtain ⟨m, hm⟩ := (h3.lim r).1 h
    obtain ⟨n, hn⟩ := ((lpN_grow he m b K s hK).lim r).1 hm
    refine ⟨max m n, ?_⟩
    have h4 : lpN C f (env (some (max m n))) m b (K (some (max m n))) s = some r := (lpN_grow he m b K s hK).le (Nat.le_max_right m n) hn
    have h5 : Up (fun q => lpN C f (env (some (max m n))) q b (K (some (max m n))) s) (Go.Ps.lim _) := lim_up fun q r h => h2 q _ r h
    exact h5.le (Nat.le_max_left m n) h4
  · exact (h3.lim r).2 ⟨n, ((lpN_grow he n b K s hK).lim r).2 ⟨n, h⟩⟩

theorem opt_ext {α : Type} {x y : Option α} (h : ∀ r, x = some r ↔ y = some r) : x = y := by
  cases x with
  | none => cases y with
    | none => rfl
    | some b => exact absurd ((h b).2 rfl) (by simp)
  | some a => exact ((h a).1 rfl).symm

noncomputable def envUp (C : Cfg) : Option Nat → C.Env
  | some n => runN C n
  | none => Den C
theorem envUp_grow : grow.env (envUp C) := fun f args => Den_up f args

theorem Den_eq (C : Cfg) (f : Nat) (args : List SV) : Den C f args = denP C (Den C) (fun f => Lp C f) f args := by
  have h := denP_adm (A := grow) (lp := fun i f => lpUp C f (envUp C) i) (envUp_grow (C := C)) (fun f => lpUp_grow envUp_grow) f args
  refine opt_ext fun r => ?_
  have h1 := h.lim r
  have h2 := (Den_up (C := C) f args).lim r
  refine Iff.trans h2 (Iff.trans ?_ h1.symm)
  refine ⟨fun ⟨n, hn⟩ => ⟨n, (Den_up (C := C) f args).step n r hn⟩, fun ⟨n, hn⟩ => ⟨n + 1, hn⟩⟩

theorem Lp_eq (C : Cfg) (f : Nat) (b : Code) (K : Kont R) (s : St) : Lp C f b K s = den C f (Den C) (Lp C f) b (loopK C f b (Lp C f b K) K) s := by
  have he : grow.env (fun _ : Option Nat => Den C) := fun g as => grow.const _
  have hl := lpUp_grow (R := R) (f := f) he
  have hK : grow.kont (fun _ : Option Nat => K) := fun e s => grow.const _
  have h := den_adm (A := grow) (f := f) he hl b (fun i => loopK C f b (lpUp C f (fun _ => Den C) i b K) K) s (loopK_adm (fun s => hl b (fun _ => K) s hK) hK)
  have h0 := hl b (fun _ => K) s hK
  refine opt_ext fun r => ?_
  refine Iff.trans (h0.lim r) (Iff.trans ?_ (h.lim r).symm)
  exact ⟨fun ⟨n, hn⟩ => ⟨n, h0.step n r hn⟩, fun ⟨n, hn⟩ => ⟨n + 1, hn⟩⟩
end Go.Ps
