/- Functions: what a body does. -/
import Derived.Test.YtpfplngeakmghaaPrP
import Derived.Tactics
import Derived.Deep.LoopGhost
namespace Go.Pr
set_option linter.unusedVariables false
variable {S S' : Nat → Prop} {σ σ' : Sg} {w w' : World} {E : En} {G : Gh} {s s' : St} {a : Act} {C : Cfg} {R : Type} {r : R}
variable {Q : Exit → Act → World → Prop} {o : Oper} {env : C.Env} {ops : Array Oper}

/-- What stands behind an operation. -/
def Then (E : En) (k : St → Option R) (r : R) (K : Act → World → Prop) : Prop := ∀ s' G' a' w', Sim E G' s' a' w' → k s' = some r → K a' w'

theorem putK_sound (h : Sim E G s a w) {x : SV} {v : Value} {k : St → Option R} {K : Act → World → Prop} (hx : RepS G.S G.σ w x v) (e : putK o k x s = some r) (hk : Then E k r K) : K (a.put o.dst v) w := by
  unfold putK at e
  split at e
  · rename_i hd
    rw [hd]
    exact hk s G a w h e
  · rename_i d hd
    rcases cond_some e with ⟨hlt, e⟩ | ⟨_, e⟩
    · rw [hd]
      have hlt : d < s.n := Nat.le_of_ble_eq_true hlt
      exact hk _ G _ w (h.put hlt hx) e
    · simp at e

theorem go_sound (hC : C.OK) (hE : EnvOK C env) (h : Sim E G s a w) {id : Nat} (hid : id % 64 = 0) {k : St → Option R} {K : Act → World → Prop} (e : doK C env id o.op s (putK o k) = some r) (hk : Then E k r K) : o.wp C.P a w K Q :=
  do_sound hC hE h hid e fun x v s' G' w' h1 h2 h3 => putK_sound h2 h1 h3 hk

theorem skip_sound (h : Sim E G s a w) {k : St → Option R} {K : Act → World → Prop} (e : putK o k (.tup [] []) s = some r) (hk : Then E k r K) : K (a.put o.dst undef) w :=
  putK_sound h (x := .tup [] []) ⟨[], rfl, [], rfl, rfl, rfl⟩ e hk

theorem oper_sound (hC : C.OK) (hE : EnvOK C env) (h : Sim E G s a w) {k : St → Option R} {K : Act → World → Prop} (e : operK C env ops o s k = some r) (hk : Then E k r K) :
    if Region.wanted o (yielded ops a.tmps) then o.wp C.P a w K Q ∨ (o.asks C.P a w ∧ LetsOut Q) else K (a.put o.dst undef) w := by
  unfold operK at e
  simp only at e
  split at e
  · rename_i hg
    rw [if_pos (by simp [Region.wanted, hg])]
    exact .inl (go_sound hC hE h (by omega) e hk)
  · rename_i j want hg
    split at e
    · simp at e
    · rename_i d hd
      have hval := h.tmp d
      split at e
      · rename_i c hc
        rw [hc] at hval
        have hv := bool_of (RepS.of_v hval (by simp))
        have hget : a.tmps[d]? = some (.bool c) := by
          rw [Array.getD_eq_getD_getElem?] at hv
          cases hq : a.tmps[d]? with
          | none => rw [hq] at hv; simp [undef] at hv
          | some q => rw [hq] at hv; simpa using hv
        have hy : yielded ops a.tmps j = some c := by simp [yielded, hd, hget]
        have hw : Region.wanted o (yielded ops a.tmps) = (c == want) := by simp [Region.wanted, hg, hy]
        rw [hw]
        have hb : ∀ b, c = b → Sim E G (s.put d (.v (.bool b))) a w := fun b hb => h.put' (by subst hb; rw [hv]; exact RepS.v rfl)
        rcases cond_some e with ⟨hc1, e⟩ | ⟨hc1, e⟩
        · rcases cond_some e with ⟨hw1, e⟩ | ⟨hw1, e⟩
          · rw [if_pos (by rw [hc1, hw1]; rfl)]; exact .inl (go_sound hC hE (hb true hc1) (by omega) e hk)
          · rw [if_neg (by rw [hc1, hw1]; simp)]; exact skip_sound (hb true hc1) e hk
        · rcases cond_some e with ⟨hw1, e⟩ | ⟨hw1, e⟩
          · rw [if_neg (by rw [hc1, hw1]; simp)]; exact skip_sound (hb false hc1) e hk
          · rw [if_pos (by rw [hc1, hw1]; rfl)]; exact .inl (go_sound hC hE (hb false hc1) (by omega) e hk)
      · rename_i cs sh hc
        rw [hc] at hval
        obtain ⟨xs, hv, _⟩ := hval
        have hy : yielded ops a.tmps j = none := by
          simp only [yielded, hd, Option.bind_some]
          rw [Array.getD_eq_getD_getElem?] at hv
          cases hq : a.tmps[d]? with
          | none => rfl
          | some q => rw [hq] at hv; simp only [Option.getD_some] at hv; subst hv; rfl
        rw [if_neg (by simp [Region.wanted, hg, hy])]
        exact skip_sound h e hk
      · simp at e

theorem ops_sound (hC : C.OK) (hE : EnvOK C env) : ∀ {l : List Oper} {s : St} {G : Gh} {a : Act} {w : World} {k : St → Option R}, Sim E G s a w → opsK C env ops l s k = some r → Then E k r (Q .normal) → wpList C.P ops Q l a w
  | [], s, G, a, w, k, h, e, hk => hk s G a w h e
  | o :: l, s, G, a, w, k, h, e, hk => by
    simp only [opsK] at e
    exact oper_sound hC hE h e fun s' G' a' w' h' e' => ops_sound hC hE h' e' hk
end Go.Pr
