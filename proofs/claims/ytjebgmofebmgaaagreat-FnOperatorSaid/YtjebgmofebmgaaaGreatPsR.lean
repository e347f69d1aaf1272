/- Regions that draw their order: the order of the text serves every order. -/
import Derived.Test.YtjebgmofebmgaaaGreatPsQ
import Derived.Tactics
import Derived.Still
import Derived.Deep.LoopGhost
namespace Go.Ps
set_option linter.unusedVariables false
variable {w w' : World} {E : En} {G : Gh} {s s' : St} {a : Act} {C : Cfg} {R : Type} {r : R}
variable {Q : Exit → Act → World → Prop} {o : Oper} {env : C.Env} {ops : Array Oper}

/-- What stands behind an operation. -/
def Then (E : En) (k : St → Foot → Option R) (r : R) (K : Act → World → Prop) : Prop := ∀ s' F G' a' w', Sim E G' s' a' w' → k s' F = some r → K a' w'

theorem putK_sound (h : Sim E G s a w) {x : SV} {v : Value} {k : St → Foot → Option R} {F : Foot} {K : Act → World → Prop} (hx : RepS G.S G.σ w x v) (e : putK o k F x s = some r) (hk : Then E k r K) : K (a.put o.dst v) w := by
  unfold putK at e
  split at e
  · rename_i hd
    rw [hd]
    exact hk s F G a w h e
  · rename_i d hd
    rcases cond_some e with ⟨hlt, e⟩ | ⟨_, e⟩
    · rw [hd]
      have hlt : d < s.n := Nat.le_of_ble_eq_true hlt
      exact hk _ F G _ w (h.put hlt hx) e
    · simp at e

theorem go_sound (hC : C.OK) (hE : EnvOK E.I C env) (h : Sim E G s a w) {id : Nat} (hid : id % 128 = 0) {k : St → Foot → Option R} {K : Act → World → Prop} (e : (doK C env id o.op s fun x us rs => putK o k (foot s us rs) x (s.upds us)) = some r) (hk : Then E k r K) : o.wp C.P a w K Q :=
  do_sound hC hE h hid e fun x v us rs G' w' h1 h2 h3 => putK_sound h2 h1 h3 hk

theorem skip_sound (h : Sim E G s a w) {k : St → Foot → Option R} {F : Foot} {K : Act → World → Prop} (e : putK o k F (.tup [] []) s = some r) (hk : Then E k r K) : K (a.put o.dst undef) w :=
  putK_sound h (x := .tup [] []) ⟨[], rfl, [], rfl, rfl, rfl⟩ e hk

theorem oper_sound (hC : C.OK) (hE : EnvOK E.I C env) (h : Sim E G s a w) {k : St → Foot → Option R} {K : Act → World → Prop} (e : operK C env ops o s k = some r) (hk : Then E k r K) :
    if Region.wanted o (yielded ops a.tmps) then o.wp C.P a w K Q ∨ (o.asks C.P a w ∧ LetsOut Q) else K (a.put o.dst undef) w := by
  unfold operK gd at e
  split at e
  · rename_i hg
    rw [if_pos (by simp [Region.wanted, hg])]
    exact .inl (go_sound hC hE h (by omega) e hk)
  · rename_i j want hg
    split at e
    · simp at e
    · rename_i d hd
      have hval := h.tmp d
      split at e
      · rename_i c hc
        rw [hc] at hval
        have hv := bool_of (RepS.of_v hval (by simp))
        have hget : a.tmps[d]? = some (.bool c) := by
          rw [Array.getD_eq_getD_getElem?] at hv
          cases hq : a.tmps[d]? with
          | none => rw [hq] at hv; simp [undef] at hv
          | some q => rw [hq] at hv; simpa using hv
        have hy : yielded ops a.tmps j = some c := by simp [yielded, hd, hget]
        have hw : Region.wanted o (yielded ops a.tmps) = (c == want) := by simp [Region.wanted, hg, hy]
        rw [hw]
        have hb : ∀ b, c = b → Sim E G (s.put d (.v (.bool b))) a w := fun b hb => h.put' (by subst hb; rw [hv]; exact RepS.v rfl)
        rcases cond_some e with ⟨hc1, e⟩ | ⟨hc1, e⟩
        · rcases cond_some e with ⟨hw1, e⟩ | ⟨hw1, e⟩
          · rw [if_pos (by rw [hc1, hw1]; rfl)]; exact .inl (go_sound hC hE (hb true hc1) (by omega) e hk)
          · rw [if_neg (by rw [hc1, hw1]; simp)]; exact skip_sound (hb true hc1) e hk
        · rcases cond_some e with ⟨hw1, e⟩ | ⟨hw1, e⟩
          · rw [if_neg (by rw [hc1, hw1]; simp)]; exact skip_sound (hb false hc1) e hk
          · rw [if_pos (by rw [hc1, hw1]; rfl)]; exact .inl (go_sound hC hE (hb false hc1) (by omega) e hk)
      · rename_i cs sh hc
        rw [hc] at hval
        obtain ⟨xs, hv, _⟩ := hval
        have hy : yielded ops a.tmps j = none := by
          simp only [yielded, hd, Option.bind_some]
          rw [Array.getD_eq_getD_getElem?] at hv
          cases hq : a.tmps[d]? with
          | none => rfl
          | some q => rw [hq] at hv; simp only [Option.getD_some] at hv; subst hv; rfl
        rw [if_neg (by simp [Region.wanted, hg, hy])]
        exact skip_sound h e hk
      · simp at e

theorem ops_sound (hC : C.OK) (hE : EnvOK E.I C env) : ∀ {l : List Oper} {s : St} {G : Gh} {a : Act} {w : World} {k : St → Option R}, Sim E G s a w → opsK C env ops l s k = some r → Then E (fun s _ => k s) r (Q .normal) → wpList C.P ops Q l a w
  | [], s, G, a, w, k, h, e, hk => hk s ⟨[], [], []⟩ G a w h e
  | o :: l, s, G, a, w, k, h, e, hk => by
    simp only [opsK] at e
    obtain ⟨G0, h0⟩ := h.closeS (opIds s o.op)
    exact oper_sound hC hE h0 e fun s' F G' a' w' h' e' => ops_sound hC hE h' e' hk

/-! ### An operation's effect -/
def gdB (ops : Array Oper) (o : Oper) (tmps : Nat → SV) : Option Bool :=
  match o.guard with
  | none => some true
  | some (j, want) => match (ops[j]?).bind (·.dst) with
    | none => none
    | some d => match tmps d with
      | .v (.bool c) => some (bif c then want else !want)
      | .tup _ _ => some false
      | _ => none
theorem put_same {s : St} {d : Nat} {x : SV} (h : s.tmps d = x) : s.put d x = s := by
  cases s with
  | mk n tm mem =>
    simp only [St.put, St.mk.injEq, and_true, true_and]
    funext t
    by_cases e : t = d
    · subst e; simp only [Nat.beq_refl, cond_true]; exact h.symm
    · simp only [beq_ne e, cond_false]
theorem gd_B (o : Oper) (s : St) (yes no : St → Option R) : gd ops o s yes no = (gdB ops o s.tmps).bind fun b => bif b then yes s else no s := by
  unfold gd gdB
  cases o.guard with
  | none => rfl
  | some g =>
    obtain ⟨j, want⟩ := g
    simp only []
    cases (ops[j]?).bind (·.dst) with
    | none => rfl
    | some d =>
      simp only []
      cases hd : s.tmps d with
      | v p =>
        cases p <;> try rfl
        case bool c =>
          cases c <;> cases want <;> simp only [cond_true, cond_false, Bool.not_true, Bool.not_false, Option.bind_some] <;> rw [put_same hd]
      | agg _ => rfl
      | tup _ _ => rfl
def Uo (C : Cfg) (env : C.Env) (ops : Array Oper) (o : Oper) (s : St) : Option (SV × List Upd × List Nat) :=
  (gdB ops o s.tmps).bind fun b => bif b then doK C env (128 * o.dst.getD 0) o.op s tri else some (.tup [] [], [], [])
theorem operK_U (o : Oper) (s : St) (k : St → Foot → Option R) : operK C env ops o s k = (Uo C env ops o s).bind fun p => putK o k (foot s p.2.1 p.2.2) p.1 (s.upds p.2.1) := by
  unfold operK
  rw [gd_B, Uo, Option.bind_assoc]
  refine congrArg _ (funext fun b => ?_)
  cases b
  · rfl
  · simp only [cond_true]; rw [doK_f]
def P1 (o : Oper) (x : SV) (s : St) : St := match o.dst with
  | none => s
  | some d => s.put d x
def chk (o : Oper) (n : Nat) : Bool := match o.dst with
  | none => true
  | some d => Nat.blt d n
theorem putK_P (o : Oper) (k : St → Foot → Option R) (F : Foot) (x : SV) (s : St) : putK o k F x s = bif chk o s.n then k (P1 o x s) F else none := by
  unfold putK chk P1; cases o.dst <;> rfl
theorem P1_n (o : Oper) (x : SV) (s : St) : (P1 o x s).n = s.n := by unfold P1; cases o.dst <;> rfl
theorem P1_mem (o : Oper) (x : SV) (s : St) : (P1 o x s).mem = s.mem := by unfold P1; cases o.dst <;> rfl
theorem P1_tmps {o : Oper} (x : SV) (s : St) {t : Nat} (h : o.dst ≠ some t) : (P1 o x s).tmps t = s.tmps t := by
  unfold P1
  cases hd : o.dst with
  | none => rfl
  | some d =>
    have : t ≠ d := fun e => h (by rw [hd, e])
    simp only [St.put, beq_ne this, cond_false]

/-! ### Blocks -/
def actU : List Upd → Nat → Option Blk → Option Blk
  | [], _, b => b
  | .frz id :: us, i, b => actU us i (bif Nat.beq i id then b.map Blk.frz else b)
  | .set id x :: us, i, b => actU us i (bif Nat.beq i id then some x else b)
theorem upds_mem : ∀ (us : List Upd) (s : St) (i : Nat), (s.upds us).mem i = actU us i (s.mem i)
  | [], _, _ => rfl
  | .frz id :: us, s, i => by
    simp only [St.upds, actU]
    rw [upds_mem us]
    congr 1
    by_cases h : i = id
    · subst h; rw [upd_frz_same, beq_self]; rfl
    · rw [upd_frz_other _ h, beq_ne h]; rfl
  | .set id x :: us, s, i => by
    simp only [St.upds, actU]
    rw [upds_mem us]
    rfl
theorem actU_id : ∀ {us : List Upd} {i : Nat} (b : Option Blk), i ∉ updW us → i ∉ updF us → actU us i b = b
  | [], _, _, _, _ => rfl
  | .frz id :: us, i, b, h, h' => by
    simp only [updW, updF, List.mem_cons, not_or] at h h'
    simp only [actU, beq_ne h'.1, cond_false]
    exact actU_id b h h'.2
  | .set id x :: us, i, b, h, h' => by
    simp only [updW, updF, List.mem_cons, not_or] at h h'
    simp only [actU, beq_ne h.1, cond_false]
    exact actU_id b h.2 h'
theorem frz_frz (b : Option Blk) : (b.map Blk.frz).map Blk.frz = b.map Blk.frz := by
  cases b with
  | none => rfl
  | some b => cases b <;> rfl
theorem actU_frz : ∀ {us : List Upd} {i : Nat}, i ∉ updW us → i ∈ updF us → ∀ b, actU us i b = b.map Blk.frz
  | [], _, _, h => by cases h
  | .frz id :: us, i, h, h' => fun b => by
    simp only [updW, updF, List.mem_cons] at h h'
    simp only [actU]
    by_cases hi : i = id
    · subst hi
      rw [beq_self, cond_true]
      by_cases h2 : i ∈ updF us
      · rw [actU_frz h h2, frz_frz]
      · rw [actU_id _ h h2]
    · rw [beq_ne hi, cond_false]
      exact actU_frz h (h'.resolve_left hi) b
  | .set id x :: us, i, h, h' => fun b => by
    simp only [updW, updF, List.mem_cons, not_or] at h h'
    simp only [actU, beq_ne h.1, cond_false]
    exact actU_frz h.2 h' b
theorem deep_frz {s s' : St} {i : Nat} (h : s'.mem i = (s.mem i).map Blk.frz) : deepB s' i = false := by
  unfold deepB
  rw [h]
  cases s.mem i with
  | none => rfl
  | some b => cases b <;> rfl
theorem upds_same {us : List Upd} {i : Nat} (s : St) (h : i ∉ updW us) (h' : i ∉ updF us) : (s.upds us).mem i = s.mem i := by rw [upds_mem, actU_id _ h h']
theorem upds_agr {us : List Upd} {i : Nat} (s : St) (h : i ∉ updW us) (h' : i ∉ (updF us).filter (deepB s)) : deepB s i = deepB (s.upds us) i ∧ ((s.upds us).mem i).map Blk.frz = (s.mem i).map Blk.frz := by
  by_cases hf : i ∈ updF us
  · have hd : deepB s i = false := by
      cases hb : deepB s i
      · rfl
      · exact absurd (List.mem_filter.2 ⟨hf, hb⟩) h'
    have := actU_frz h hf (s.mem i)
    rw [← upds_mem] at this
    refine ⟨by rw [hd, deep_frz this], by rw [this, frz_frz]⟩
  · have := upds_same s h hf
    exact ⟨by unfold deepB; rw [this], by rw [this]⟩
theorem upds_put (us : List Upd) (o : Oper) (x : SV) (s : St) : (P1 o x s).upds us = P1 o x (s.upds us) := by
  have key : ∀ (a b : St), a.n = b.n → a.tmps = b.tmps → a.mem = b.mem → a = b := fun a b h1 h2 h3 => by cases a; cases b; simp_all
  refine key _ _ ?_ ?_ ?_
  · rw [upds_n, P1_n, P1_n, upds_n]
  · rw [upds_tmps]
    unfold P1
    cases o.dst with
    | none => rw [upds_tmps]
    | some d => simp only [St.put, upds_tmps]
  · funext i
    rw [upds_mem, P1_mem, P1_mem, upds_mem]
theorem P1_comm {o o' : Oper} (h : ∀ d, o.dst = some d → o'.dst ≠ some d) (x y : SV) (s : St) : P1 o x (P1 o' y s) = P1 o' y (P1 o x s) := by
  unfold P1
  cases hd : o.dst with
  | none => rfl
  | some d =>
    cases hd' : o'.dst with
    | none => rfl
    | some d' =>
      have hne : d ≠ d' := fun e => h d hd (by rw [hd', e])
      simp only [St.put, St.mk.injEq, true_and, and_true]
      funext t
      by_cases e : t = d
      · subst e; simp only [Nat.beq_refl, cond_true, beq_ne hne, cond_false]
      · simp only [beq_ne e, cond_false]

theorem Uo_loc {q : SV × List Upd × List Nat} (hs : soleO C o.op = true) (hl : ∀ t ∈ o.looksAt ops, s'.tmps t = s.tmps t) (e : Uo C env ops o s = some q)
    (hw : ∀ i ∈ updW q.2.1, s'.mem i = s.mem i) (hr : ∀ i ∈ updF q.2.1 ++ q.2.2, Agr s s' i) : Uo C env ops o s' = some q := by
  have hg : gdB ops o s'.tmps = gdB ops o s.tmps := by
    unfold gdB
    cases hg : o.guard with
    | none => rfl
    | some g =>
      obtain ⟨j, want⟩ := g
      simp only []
      cases hj : (ops[j]?).bind (·.dst) with
      | none => rfl
      | some t => simp only []; rw [hl t (by simp [Oper.looksAt, hg, hj])]
  have hev : ∀ x ∈ o.op.operands, s'.ev x = s.ev x := fun x hx => by
    cases x with
    | tmp t => exact hl t (List.mem_append_left _ (List.mem_filterMap.2 ⟨.tmp t, by simpa using hx, rfl⟩))
    | _ => rfl
  unfold Uo at e ⊢
  rw [hg]
  cases hb : gdB ops o s.tmps with
  | none => rw [hb] at e; simp at e
  | some b =>
    rw [hb] at e
    cases b
    · exact e
    · simp only [Option.bind_some, cond_true] at e ⊢
      exact do_loc hs hev e hw hr
theorem foot_loc {us : List Upd} {rs : List Nat} (h : ∀ i ∈ updF us, deepB s' i = deepB s i) : foot s' us rs = foot s us rs := by
  unfold foot
  have h1 : (updF us).filter (deepB s') = (updF us).filter (deepB s) := List.filter_congr fun i hi => h i hi
  have h2 : (updF us).filter (fun i => !deepB s' i) = (updF us).filter (fun i => !deepB s i) := List.filter_congr fun i hi => by rw [h i hi]
  rw [h1, h2]

theorem foot_w {us : List Upd} {rs : List Nat} {i : Nat} (h : i ∉ (foot s us rs).w) : i ∉ updW us ∧ i ∉ (updF us).filter (deepB s) := by
  simp only [foot, List.mem_append, not_or] at h; exact h
theorem foot_wf {us : List Upd} {rs : List Nat} {i : Nat} (h : i ∉ (foot s us rs).w) (h' : i ∉ (foot s us rs).f) : i ∉ updW us ∧ i ∉ updF us := by
  refine ⟨(foot_w h).1, fun hf => ?_⟩
  cases hb : deepB s i
  · exact h' (List.mem_filter.2 ⟨hf, by simp [hb]⟩)
  · exact (foot_w h).2 (List.mem_filter.2 ⟨hf, hb⟩)
theorem mem_foot_w {us : List Upd} {rs : List Nat} {i : Nat} (h : i ∈ updW us) : i ∈ (foot s us rs).w := List.mem_append_left _ h
theorem mem_foot_any {us : List Upd} {rs : List Nat} {i : Nat} (h : i ∈ updF us ++ rs) : i ∈ (foot s us rs).w ∨ i ∈ (foot s us rs).f ++ (foot s us rs).r := by
  rcases List.mem_append.1 h with h | h
  · cases hb : deepB s i
    · exact .inr (List.mem_append_left _ (List.mem_filter.2 ⟨h, by simp [hb]⟩))
    · exact .inl (List.mem_append_right _ (List.mem_filter.2 ⟨h, hb⟩))
  · exact .inr (List.mem_append_right _ h)

theorem comm {oi oj : Oper} {Fi Fj : Foot} (hi : soleO C oi.op = true) (hj : soleO C oj.op = true) (hap : oi.apart ops oj = true) (hfr : Fi.free Fj = true) {s s1 s2 : St}
    (e1 : operK C env ops oi s duo = some (s1, Fi)) (e2 : operK C env ops oj s1 duo = some (s2, Fj)) : ∃ s3, operK C env ops oj s duo = some (s3, Fj) ∧ operK C env ops oi s3 duo = some (s2, Fi) := by
  obtain ⟨a1, a2, a3⟩ := Oper.apart_spec hap
  have a4 : ∀ d, oj.dst = some d → oi.dst ≠ some d := fun d h h' => a2 d h' h
  simp only [Foot.free, Bool.and_eq_true] at hfr
  have f1 := apartB_ok hfr.1
  have f2 := apartB_ok hfr.2
  rw [operK_U, Option.bind_eq_some_iff] at e1
  obtain ⟨⟨x, ui, ri⟩, hx, e1⟩ := e1
  rw [operK_U, Option.bind_eq_some_iff] at e2
  obtain ⟨⟨y, uj, rj⟩, hy, e2⟩ := e2
  simp only [putK_P] at e1 e2
  rcases cond_some e1 with ⟨c1, e1⟩ | ⟨_, e1⟩
  · rcases cond_some e2 with ⟨c2, e2⟩ | ⟨_, e2⟩
    · simp only [duo, Option.some.injEq, Prod.mk.injEq] at e1 e2
      obtain ⟨e1, g1⟩ := e1
      obtain ⟨e2, g2⟩ := e2
      have hm1 : s1.mem = (s.upds ui).mem := by rw [← e1, P1_mem]
      -- the blocks that j looks at
      have hjw : ∀ k, k ∈ Fj.w → s.mem k = s1.mem k := fun k hk => by
        have h1 : k ∉ Fi.w := fun h => f1 k h (List.mem_append_left _ hk)
        have h2 : k ∉ Fi.f := fun h => f2 k hk (List.mem_append_left _ h)
        rw [← g1] at h1 h2
        obtain ⟨h3, h4⟩ := foot_wf h1 h2
        rw [hm1, upds_same s h3 h4]
      have hja : ∀ k, k ∈ Fj.w ∨ k ∈ Fj.f ++ Fj.r → Agr s1 s k := fun k hk => by
        rcases hk with hk | hk
        · exact .inl (hjw k hk)
        · have h1 : k ∉ Fi.w := fun h => f1 k h (List.mem_append_right _ hk)
          rw [← g1] at h1
          obtain ⟨h3, h4⟩ := foot_w h1
          by_cases hf : k ∈ updF ui
          · obtain ⟨h5, h6⟩ := upds_agr s h3 h4
            have hd : deepB s k = false := by
              cases hb : deepB s k
              · rfl
              · exact absurd (List.mem_filter.2 ⟨hf, hb⟩) h4
            have hd1 : deepB s1 k = false := by unfold deepB at h5 hd ⊢; rw [hm1]; rw [← h5]; exact hd
            exact .inr ⟨hd1, hd, by rw [hm1, h6]⟩
          · exact .inl (by rw [hm1, upds_same s h3 hf])
      have hy' : Uo C env ops oj s = some (y, uj, rj) := Uo_loc hj (fun t ht => by
          rw [← e1, P1_tmps x _ (fun h => a1 t h ht), upds_tmps]) hy (fun k hk => hjw k (by rw [← g2]; exact mem_foot_w hk)) (fun k hk => hja k (by rw [← g2]; exact mem_foot_any hk))
      have g2' : foot s uj rj = Fj := by
        rw [← g2]
        exact foot_loc fun k hk => deep_loc (hja k (by rw [← g2]; exact mem_foot_any (List.mem_append_left _ hk)))
      have hm3 : (P1 oj y (s.upds uj)).mem = (s.upds uj).mem := P1_mem _ _ _
      have hiw : ∀ k, k ∈ Fi.w → (P1 oj y (s.upds uj)).mem k = s.mem k := fun k hk => by
        have h1 : k ∉ Fj.w := fun h => f1 k hk (List.mem_append_left _ h)
        have h2 : k ∉ Fj.f := fun h => f1 k hk (List.mem_append_right _ (List.mem_append_left _ h))
        rw [← g2'] at h1 h2
        obtain ⟨h3, h4⟩ := foot_wf h1 h2
        rw [hm3, upds_same s h3 h4]
      have hia : ∀ k, k ∈ Fi.w ∨ k ∈ Fi.f ++ Fi.r → Agr s (P1 oj y (s.upds uj)) k := fun k hk => by
        rcases hk with hk | hk
        · exact .inl (hiw k hk)
        · have h1 : k ∉ Fj.w := fun h => f2 k h hk
          rw [← g2'] at h1
          obtain ⟨h3, h4⟩ := foot_w h1
          by_cases hf : k ∈ updF uj
          · obtain ⟨h5, h6⟩ := upds_agr s h3 h4
            have hd : deepB s k = false := by
              cases hb : deepB s k
              · rfl
              · exact absurd (List.mem_filter.2 ⟨hf, hb⟩) h4
            have hd1 : deepB (P1 oj y (s.upds uj)) k = false := by unfold deepB at h5 hd ⊢; rw [hm3]; rw [← h5]; exact hd
            exact .inr ⟨hd, hd1, by rw [hm3, h6]⟩
          · exact .inl (by rw [hm3, upds_same s h3 hf])
      have hx' : Uo C env ops oi (P1 oj y (s.upds uj)) = some (x, ui, ri) := Uo_loc hi (fun t ht => by
          rw [P1_tmps y _ (fun h => a3 t h ht), upds_tmps]) hx (fun k hk => hiw k (by rw [← g1]; exact mem_foot_w hk)) (fun k hk => hia k (by rw [← g1]; exact mem_foot_any hk))
      have g1' : foot (P1 oj y (s.upds uj)) ui ri = Fi := by
        rw [← g1]
        exact foot_loc fun k hk => deep_loc (hia k (by rw [← g1]; exact mem_foot_any (List.mem_append_left _ hk)))
      have hn1 : s1.n = s.n := by rw [← e1, P1_n, upds_n]
      rw [upds_n] at c1 c2
      rw [hn1] at c2
      have hcm : (s.upds ui).upds uj = (s.upds uj).upds ui := by
        have key : ∀ (a b : St), a.n = b.n → a.tmps = b.tmps → a.mem = b.mem → a = b := fun a b h1 h2 h3 => by cases a; cases b; simp_all
        refine key _ _ (by simp only [upds_n]) (by simp only [upds_tmps]) (funext fun k => ?_)
        rw [upds_mem, upds_mem, upds_mem, upds_mem]
        by_cases hk : k ∈ Fi.w
        · have h1 : k ∉ Fj.w := fun h => f1 k hk (List.mem_append_left _ h)
          have h2 : k ∉ Fj.f := fun h => f1 k hk (List.mem_append_right _ (List.mem_append_left _ h))
          rw [← g2'] at h1 h2
          obtain ⟨h3, h4⟩ := foot_wf h1 h2
          rw [actU_id _ h3 h4, actU_id _ h3 h4]
        · by_cases hk' : k ∈ Fj.w
          · have h1 : k ∉ Fi.f := fun h => f2 k hk' (List.mem_append_left _ h)
            rw [← g1] at hk h1
            obtain ⟨h3, h4⟩ := foot_wf hk h1
            rw [actU_id _ h3 h4, actU_id _ h3 h4]
          · rw [← g1] at hk
            rw [← g2'] at hk'
            have h3 := (foot_w hk).1
            have h4 := (foot_w hk').1
            by_cases hf : k ∈ updF ui <;> by_cases hf' : k ∈ updF uj
            · rw [actU_frz h3 hf, actU_frz h4 hf', actU_frz h4 hf', actU_frz h3 hf]
            · rw [actU_id _ h4 hf', actU_id _ h4 hf']
            · rw [actU_id _ h3 hf, actU_id _ h3 hf]
            · rw [actU_id _ h3 hf, actU_id _ h3 hf]
      refine ⟨P1 oj y (s.upds uj), ?_, ?_⟩
      · rw [operK_U, hy', Option.bind_some]
        simp only [putK_P, upds_n, c2, cond_true, g2']
      · rw [operK_U, hx', Option.bind_some]
        simp only [putK_P, upds_n, P1_n, c1, cond_true, g1']
        rw [upds_put, ← hcm, P1_comm a2, ← upds_put, e1, e2]
    · simp at e2
  · simp at e1

/-! ### All orders -/
theorem operK_bind (o : Oper) (s : St) (k : St → Foot → Option R) : operK C env ops o s k = (operK C env ops o s duo).bind (un2 k) := by
  rw [operK_U, operK_U (k := duo), Option.bind_assoc]
  refine congrArg _ (funext fun p => ?_)
  rw [putK_P, putK_P, condB]
  rfl
theorem opsF_bind : ∀ {R : Type} (l : List Oper) (s : St) (k : St → List Foot → Option R), opsF C env ops l s k = (opsF C env ops l s duo).bind (un2 k)
  | _, [], _, _ => rfl
  | _, o :: l, s, k => by
    simp only [opsF]
    rw [operK_bind, operK_bind (k := fun s F => opsF C env ops l s fun s Fs => duo s (F :: Fs)), Option.bind_assoc]
    refine congrArg _ (funext fun p => ?_)
    simp only [un2]
    rw [opsF_bind l _ (fun s Fs => k s (p.2 :: Fs)), opsF_bind l _ (fun s Fs => duo s (p.2 :: Fs)), Option.bind_assoc]
    rfl

def stAny (C : Cfg) (env : C.Env) (ops : Array Oper) (Fn : Nat → Foot) (Fin : St → Prop) : Nat → Array Bool → St → Prop
  | 0, listed, s => Region.ready .any ops listed = [] ∧ Fin s
  | fuel + 1, listed, s => (Region.ready .any ops listed = [] → Fin s) ∧ ∀ i ∈ Region.ready .any ops listed, ∃ o s', ops[i]? = some o ∧ operK C env ops o s duo = some (s', Fn i) ∧ stAny C env ops Fn Fin fuel (listed.setIfInBounds i true) s'

theorem stAny_sound (hC : C.OK) (hE : EnvOK E.I C env) {Fn : Nat → Foot} {Fin : St → Prop} (hF : ∀ s' G' a' w', Sim E G' s' a' w' → Fin s' → Q .normal a' w') : ∀ (fuel : Nat) (listed : Array Bool) (s : St) (G : Gh) (a : Act) (w : World), Sim E G s a w → stAny C env ops Fn Fin fuel listed s → wpAny C.P .any ops Q fuel listed a w
  | 0, listed, s, G, a, w, h, hs => ⟨hs.1, hF s G a w h hs.2⟩
  | fuel + 1, listed, s, G, a, w, h, hs => by
    refine ⟨fun h0 => hF s G a w h (hs.1 h0), fun i hi => ?_⟩
    obtain ⟨o, s', ho, e, hrest⟩ := hs.2 i hi
    unfold wpOp
    simp only [ho]
    exact oper_sound hC hE h e fun s'' F G' a' w' h' e' => by
      simp only [duo, Option.some.injEq, Prod.mk.injEq] at e'
      rw [← e'.1] at hrest
      exact stAny_sound hC hE hF fuel _ _ G' a' w' h' hrest

/-- What is listed has all that it waited for. -/
def Closed (ops : Array Oper) (listed : Array Bool) : Prop := ∀ m om, ops[m]? = some om → listed.getD m true = true → ∀ e ∈ om.after, Region.binds .any e = true → listed.getD e.on true = true
theorem getD_set_le {listed : Array Bool} {i m : Nat} (h : listed.getD m true = true) : (listed.setIfInBounds i true).getD m true = true := by
  by_cases e : i = m
  · subst e; simp only [Array.getD_eq_getD_getElem?, Array.getElem?_setIfInBounds]; simp only [if_true]; split <;> rfl
  · rw [getD_set_ne true e]; exact h
theorem Closed.set {listed : Array Bool} (h : Closed ops listed) {i : Nat} {oi : Oper} (hi : ops[i]? = some oi) (hall : ∀ e ∈ oi.after, Region.binds .any e = true → listed.getD e.on true = true) : Closed ops (listed.setIfInBounds i true) := by
  intro m om hm hl e he hb
  by_cases hmi : m = i
  · subst hmi
    rw [hi] at hm
    simp only [Option.some.injEq] at hm
    subst hm
    exact getD_set_le (hall e he hb)
  · rw [getD_set_ne true (Ne.symm hmi)] at hl
    exact getD_set_le (h m om hm hl e he hb)
theorem getD_of {listed : Array Bool} {i : Nat} (h : listed.getD i false = true) : listed.getD i true = true := by
  rw [Array.getD_eq_getD_getElem?] at h ⊢
  cases hq : listed[i]? with
  | none => rfl
  | some b => rw [hq] at h; exact h
/-- m waits for k. -/
def AfterOK (ops : Array Oper) (m k : Nat) : Prop := ∀ listed, Closed ops listed → (∀ om, ops[m]? = some om → ∀ e ∈ om.after, Region.binds .any e = true → listed.getD e.on true = true) → listed.getD k true = true

theorem maskE_spec {ms : List Nat} {i : Nat} : ∀ {es : List Edge} {m : Nat}, maskE ms i es = some m → (∀ e ∈ es, Region.binds .any e = true → e.on < i) ∧ ∀ k, Nat.testBit m k = true → ∃ e ∈ es, Region.binds .any e = true ∧ (k = e.on ∨ Nat.testBit (maskAt ms e.on) k = true)
  | [], m, h => by
    simp only [maskE, Option.some.injEq] at h
    subst h
    exact ⟨fun e he => (by cases he), fun k hk => (by simp at hk)⟩
  | e :: es, m, h => by
    simp only [maskE] at h
    rcases cond_some h with ⟨hb, h⟩ | ⟨hb, h⟩
    · rcases cond_some h with ⟨hlt, h⟩ | ⟨_, h⟩
      · split at h
        · rename_i m' hm'
          simp only [Option.some.injEq] at h
          obtain ⟨h1, h2⟩ := maskE_spec hm'
          refine ⟨fun e' he' hb' => ?_, fun k hk => ?_⟩
          · rcases List.mem_cons.1 he' with rfl | he'
            · exact Nat.le_of_ble_eq_true hlt
            · exact h1 e' he' hb'
          · rw [← h] at hk
            change Nat.testBit (((1 <<< e.on) ||| maskAt ms e.on) ||| m') k = true at hk
            rw [Nat.testBit_or, Nat.testBit_or, Bool.or_eq_true, Bool.or_eq_true] at hk
            rcases hk with (hk | hk) | hk
            · refine ⟨e, by simp, hb, .inl ?_⟩
              rw [Nat.one_shiftLeft, Nat.testBit_two_pow] at hk
              exact (by simpa using hk : e.on = k).symm
            · exact ⟨e, by simp, hb, .inr hk⟩
            · obtain ⟨e', he', hb', hk⟩ := h2 k hk
              exact ⟨e', by simp [he'], hb', hk⟩
        · simp at h
      · simp at h
    · obtain ⟨h1, h2⟩ := maskE_spec h
      refine ⟨fun e' he' hb' => ?_, fun k hk => ?_⟩
      · rcases List.mem_cons.1 he' with rfl | he'
        · rw [hb] at hb'; simp at hb'
        · exact h1 e' he' hb'
      · obtain ⟨e', he', hb', hk⟩ := h2 k hk
        exact ⟨e', by simp [he'], hb', hk⟩
theorem masks_spec : ∀ {l : List Oper} {i : Nat} {ms ms' : List Nat}, (∀ j, l[j]? = ops[i + j]?) → ms.length = i → (∀ m, m < i → ∀ k, Nat.testBit (maskAt ms m) k = true → AfterOK ops m k) → (∀ m om, m < i → ops[m]? = some om → ∀ e ∈ om.after, Region.binds .any e = true → e.on < m) → masks l i ms = some ms' →
    (∀ m, ∀ k, m < i + l.length → Nat.testBit (maskAt ms' m) k = true → AfterOK ops m k) ∧ ms'.length = i + l.length ∧ (∀ m om, ops[m]? = some om → ∀ e ∈ om.after, Region.binds .any e = true → e.on < m)
  | [], i, ms, ms', hl, hn, hms, hed, h => by
    simp only [masks, Option.some.injEq] at h
    subst h
    refine ⟨fun m k hm => hms m (by simpa using hm) k, by simpa using hn, fun m om hm => hed m om ?_ hm⟩
    have h0 := hl 0
    simp only [List.getElem?_nil, Nat.add_zero] at h0
    have := (Array.getElem?_eq_none_iff.1 h0.symm)
    have := (Array.getElem?_eq_some_iff.1 hm).1
    omega
  | o :: l, i, ms, ms', hl, hn, hms, hed, h => by
    simp only [masks] at h
    split at h
    · rename_i m0 hm0
      obtain ⟨h1, h2⟩ := maskE_spec hm0
      have h0 : ops[i]? = some o := by simpa using (hl 0).symm
      have hat : ∀ m, m < i → maskAt (ms ++ [m0]) m = maskAt ms m := fun m hm => by
        simp only [maskAt, List.getD_eq_getElem?_getD]
        rw [List.getElem?_append_left (by omega)]
      have hi : maskAt (ms ++ [m0]) i = m0 := by
        simp only [maskAt, List.getD_eq_getElem?_getD]
        rw [List.getElem?_append_right (by omega), hn]; simp
      obtain ⟨g1, g2, g3⟩ := masks_spec (l := l) (i := i + 1) (ms := ms ++ [m0]) (fun j => by have := hl (j + 1); simpa [Nat.add_assoc, Nat.add_comm 1 j] using this) (by simp [hn]) (fun m hm k hk => by
          rcases Nat.lt_or_ge m i with hmi | hmi
          · rw [hat m hmi] at hk; exact hms m hmi k hk
          · have : m = i := by omega
            subst this
            rw [hi] at hk
            obtain ⟨e, he, hb, hk⟩ := h2 k hk
            intro listed hcl hall
            have he1 := hall o h0 e (by simpa using he) hb
            rcases hk with rfl | hk
            · exact he1
            · exact hms e.on (h1 e he hb) k hk listed hcl fun om hom e' he' hb' => hcl e.on om hom he1 e' he' hb') (fun m om hm hom e he hb => by
          rcases Nat.lt_or_ge m i with hmi | hmi
          · exact hed m om hmi hom e he hb
          · have : m = i := by omega
            subst this
            rw [h0] at hom
            simp only [Option.some.injEq] at hom
            subst hom
            exact h1 e (by simpa using he) hb) h
      exact ⟨fun m k hm => g1 m k (by simp at hm; omega), by rw [g2]; simp; omega, g3⟩
    · simp at h

theorem stAny_first {Fn : Nat → Foot} {Fin : St → Prop} {i : Nat} {oi : Oper} (hi : ops[i]? = some oi) :
    ∀ (fuel : Nat) (listed : Array Bool) (s s1 : St), Closed ops listed →
      (∀ j oj, ops[j]? = some oj → j ≠ i → listed.getD j true = false → (soleO C oi.op = true ∧ soleO C oj.op = true ∧ oi.apart ops oj = true ∧ (Fn i).free (Fn j) = true) ∨ AfterOK ops j i) →
      i ∈ Region.ready .any ops listed → operK C env ops oi s duo = some (s1, Fn i) →
      stAny C env ops Fn Fin fuel (listed.setIfInBounds i true) s1 → stAny C env ops Fn Fin (fuel + 1) listed s := by
  intro fuel
  induction fuel with
  | zero =>
    intro listed s s1 _ _ hr hy H
    refine ⟨fun h => (by rw [h] at hr; cases hr), fun j hj => ?_⟩
    by_cases hji : j = i
    · subst hji; exact ⟨oi, s1, hi, hy, H⟩
    · have := ready_mono hj hji
      rw [H.1] at this
      cases this
  | succ fuel ih =>
    intro listed s s1 hcl hfree hr hy H
    refine ⟨fun h => (by rw [h] at hr; cases hr), fun j hj => ?_⟩
    by_cases hji : j = i
    · subst hji; exact ⟨oi, s1, hi, hy, H⟩
    · obtain ⟨oj', s2, hoj', e2, H2⟩ := H.2 j (ready_mono hj hji)
      obtain ⟨hjun, oj, hoj, hall⟩ := mem_ready.1 hj
      rw [hoj] at hoj'
      simp only [Option.some.injEq] at hoj'
      subst hoj'
      have hun := (mem_ready.1 hr).1
      rcases hfree j oj hoj hji hjun with ⟨hsi, hsj, hap, hfr⟩ | haft
      · obtain ⟨s3, e3, e4⟩ := comm hsi hsj hap hfr hy e2
        have hfree' : ∀ k ok, ops[k]? = some ok → k ≠ i → (listed.setIfInBounds j true).getD k true = false →
            (soleO C oi.op = true ∧ soleO C ok.op = true ∧ oi.apart ops ok = true ∧ (Fn i).free (Fn k) = true) ∨ AfterOK ops k i := fun k ok hk hki hun => by
          refine hfree k ok hk hki ?_
          by_cases hjk : j = k
          · subst hjk; exact hjun
          · rw [getD_set_ne true hjk] at hun; exact hun
        refine ⟨oj, s3, hoj, e3, ih (listed.setIfInBounds j true) s3 s2 (hcl.set hoj fun e he hb => getD_of (hall e he hb)) hfree' (ready_mono hr (Ne.symm hji)) e4 ?_⟩
        rw [Array.setIfInBounds_comm _ _ hji]
        exact H2
      · have := haft listed hcl fun oj' ho e he hb => by rw [hoj] at ho; simp only [Option.some.injEq] at ho; subst ho; exact getD_of (hall e he hb)
        rw [this] at hun
        cases hun

theorem freeL_spec {i : Nat} {oi : Oper} {Fi : Foot} : ∀ {os : List Oper} {ms : List Nat} {Fs : List Foot}, freeL C ops i oi Fi os ms Fs = true → ∀ (k : Nat) (oj : Oper), os[k]? = some oj → ∃ mj Fj, ms[k]? = some mj ∧ Fs[k]? = some Fj ∧ (Nat.testBit mj i = true ∨ (soleO C oi.op = true ∧ soleO C oj.op = true ∧ oi.apart ops oj = true ∧ Fi.free Fj = true))
  | [], _, _, _, k, oj, hk => (by simp at hk)
  | o :: os, [], Fs, h, _, _, _ => by simp [freeL] at h
  | o :: os, _ :: _, [], h, _, _, _ => by simp [freeL] at h
  | o :: os, m :: ms, F :: Fs, h, k, oj, hk => by
    simp only [freeL, Bool.and_eq_true, Bool.or_eq_true] at h
    cases k with
    | zero =>
      simp only [List.getElem?_cons_zero, Option.some.injEq] at hk
      subst hk
      exact ⟨m, F, rfl, rfl, h.1.imp id fun x => ⟨x.1.1.1, x.1.1.2, x.1.2, x.2⟩⟩
    | succ k => exact freeL_spec h.2 k oj (by simpa using hk)

theorem stAny_lex {Fn : Nat → Foot} {Fin : St → Prop} (hed : ∀ m om, ops[m]? = some om → ∀ e ∈ om.after, Region.binds .any e = true → e.on < m) : ∀ (l : List Oper) (i : Nat) (ms : List Nat) (Fl : List Foot) (listed : Array Bool) (s sE : St), (∀ j, l[j]? = ops[i + j]?) → Closed ops listed →
    (∀ m, m < i → listed.getD m false = true) → (∀ m, i ≤ m → m < ops.size → listed.getD m true = false) → listed.size = ops.size → (∀ j mj, ms[j]? = some mj → ∀ k, Nat.testBit mj k = true → AfterOK ops (i + j) k) → okL C ops i l ms Fl = true → (∀ j F, Fl[j]? = some F → Fn (i + j) = F) →
    opsF C env ops l s duo = some (sE, Fl) → Fin sE → stAny C env ops Fn Fin l.length listed s
  | [], i, ms, Fl, listed, s, sE, hl, hcl, hlt, hge, hsz, hms, hok, hF, h, hfin => by
    simp only [opsF, duo, Option.some.injEq, Prod.mk.injEq] at h
    refine ⟨?_, h.1 ▸ hfin⟩
    apply List.eq_nil_iff_forall_not_mem.2
    intro j hj
    obtain ⟨h1, o, ho, _⟩ := mem_ready.1 hj
    have h0 := hl 0
    simp only [List.getElem?_nil, Nat.add_zero] at h0
    have h2 := (Array.getElem?_eq_none_iff.1 h0.symm)
    have h3 := (Array.getElem?_eq_some_iff.1 ho).1
    rw [getD_of (hlt j (by omega))] at h1
    cases h1
  | o :: l, i, ms, Fl, listed, s, sE, hl, hcl, hlt, hge, hsz, hms, hok, hF, h, hfin => by
    have h0 : ops[i]? = some o := by simpa using (hl 0).symm
    have hi := (Array.getElem?_eq_some_iff.1 h0).1
    simp only [opsF] at h
    rw [operK_bind, Option.bind_eq_some_iff] at h
    obtain ⟨⟨s1, F1⟩, e1, h⟩ := h
    simp only [un2] at h
    rw [opsF_bind, Option.bind_eq_some_iff] at h
    obtain ⟨⟨sE', Fl'⟩, e2, h⟩ := h
    simp only [un2, duo, Option.some.injEq, Prod.mk.injEq] at h
    obtain ⟨rfl, rfl⟩ := h
    cases ms with
    | nil => simp [okL] at hok
    | cons m ms =>
      simp only [okL, Bool.and_eq_true] at hok
      have hFi : Fn i = F1 := by have := hF 0 F1 (by simp); simpa using this
      have hr : i ∈ Region.ready .any ops listed := mem_ready.2 ⟨hge i (Nat.le_refl _) hi, o, h0, fun e he hb => hlt _ (hed i o h0 e he hb)⟩
      have hfree := freeL_spec hok.1
      refine stAny_first h0 l.length listed s s1 hcl (fun j oj hj hne hun => ?_) hr (by rw [hFi]; exact e1)
        (stAny_lex hed l (i + 1) ms Fl' _ s1 sE' (fun j => by have := hl (j + 1); simpa [Nat.add_assoc, Nat.add_comm 1 j] using this) (hcl.set h0 fun e he hb => getD_of (hlt _ (hed i o h0 e he hb))) (fun m hm => ?_) (fun m hm hm' => ?_) (by simpa using hsz) (fun j mj hj k hk => ?_) hok.2 (fun j F hj => ?_) e2 hfin)
      · have hji : i < j := by
          rcases Nat.lt_or_ge j i with h1 | h1
          · rw [getD_of (hlt j h1)] at hun; cases hun
          · omega
        obtain ⟨k, rfl⟩ : ∃ k, j = i + 1 + k := ⟨j - (i + 1), by omega⟩
        obtain ⟨mj, Fj, h1, h2, h3⟩ := hfree k oj (by have := hl (k + 1); rw [List.getElem?_cons_succ] at this; rw [this, ← hj]; congr 1; omega)
        rcases h3 with h3 | ⟨h3, h4, h5, h6⟩
        · exact .inr (by have := hms (k + 1) mj (by simpa using h1) i h3; rwa [show i + (k + 1) = i + 1 + k by omega] at this)
        · refine .inl ⟨h3, h4, h5, ?_⟩
          have := hF (k + 1) Fj (by simpa using h2)
          rw [show i + (k + 1) = i + 1 + k by omega] at this
          rw [hFi, this]; exact h6
      · rcases Nat.lt_or_ge m i with h1 | h1
        · exact getD_set_true (hlt m h1)
        · have : m = i := by omega
          subst this
          simp [hsz, hi]
      · rw [getD_set_ne true (by omega)]; exact hge m (by omega) hm'
      · have := hms (j + 1) mj (by simpa using hj) k hk
        rwa [show i + (j + 1) = i + 1 + j by omega] at this
      · have := hF (j + 1) F (by simpa using hj)
        rwa [show i + (j + 1) = i + 1 + j by omega] at this

theorem draw_sound (hC : C.OK) (hE : EnvOK E.I C env) {id : Nat} (h : Sim E G s a { w with drawn := w.drawn + 1 }) {k : St → Option R} (e : (opsF C env ops ops.toList s fun s Fs => bif okD C ops Fs then k s else none) = some r) (hk : Then E (fun s _ => k s) r (Q .normal)) : (Code.region id ops true).wp C.P Q a w := by
  rw [opsF_bind, Option.bind_eq_some_iff] at e
  obtain ⟨⟨sE, Fl⟩, e1, e2⟩ := e
  simp only [un2] at e2
  rcases cond_some e2 with ⟨hok, e2⟩ | ⟨_, e2⟩
  · unfold okD at hok
    split at hok
    · rename_i ms hms
      obtain ⟨g1, g2, g3⟩ := masks_spec (ops := ops) (l := ops.toList) (i := 0) (by simp) rfl (fun m hm => by omega) (fun m om hm => by omega) hms
      refine wp_region_any hC.draws (stAny_sound hC hE (Fn := fun i => Fl.getD i ⟨[], [], []⟩) (Fin := fun s => s = sE) (fun s' G' a' w' h' e' => hk s' ⟨[], [], []⟩ G' a' w' h' (by rw [e']; exact e2)) _ _ s G a _ h ?_)
      have := stAny_lex (C := C) (env := env) (ops := ops) (Fn := fun i => Fl.getD i ⟨[], [], []⟩) (Fin := fun s => s = sE) g3 ops.toList 0 ms Fl (Array.replicate ops.size false) s sE (by simp) (fun m om hm hl e he hb => by
          exfalso
          have hlt := (Array.getElem?_eq_some_iff.1 hm).1
          simp [Array.getD_eq_getD_getElem?, hlt] at hl) (fun m hm => by omega) (fun m _ hm => by simp [Array.getD_eq_getD_getElem?, hm]) (by simp) (fun j mj hj k hk => by
          have hlt := (List.getElem?_eq_some_iff.1 hj).1
          rw [Nat.zero_add]
          refine g1 j k (by omega) ?_
          simp only [maskAt, List.getD_eq_getElem?_getD, hj, Option.getD_some]; exact hk) hok (fun j F hj => by simp [hj]) e1 rfl
      simpa using this
    · simp at hok
  · simp at e2
end Go.Ps
