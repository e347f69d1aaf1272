/- The pure side of FnExactActOK: what the program's ActOK computes is what the reference's computes, for every action. No condition. -/
import Derived.Test.YtpfplngeakmghaaPFnExactActOKx
namespace Go.Proofs.Ytpfplngeakmghaa.ActOKPure
open Go.RowKit Go.Proofs.Ytpfplngeakmghaa.PFnExactActOK Go.Proofs.YtpfplngeakmghaaW.PrintWords Go.Proofs.YtpfplngeakmghaaW.PrintLast

theorem within_eq (a b c : Int) : impl_within.f a b c = spec_l01In.f a b c := rfl

theorem in_some (a b c : Int) : ∃ t, spec_l01In.f a b c = some t := by
  unfold spec_l01In.f; split <;> exact ⟨_, rfl⟩

theorem letter_some (c : Int) : ∃ t, spec_l00Letter.f c = some t := by
  unfold spec_l00Letter.f; repeat' split
  all_goals exact ⟨_, rfl⟩

theorem digit_some (c : Int) : ∃ t, spec_l00Digit.f c = some t := by
  unfold spec_l00Digit.f; split <;> exact ⟨_, rfl⟩

theorem word_loops (k : Nat) : (∀ s i, impl_NameOK.l0 k s i = spec_l00Word.l0 k s i) ∧ (∀ s b, impl_NameOK.j0 k s b = spec_l00Word.j0 k s b) := by
  induction k with
  | zero => exact ⟨fun _ _ => rfl, fun _ _ => rfl⟩
  | succ k ih =>
    refine ⟨fun s i => ?_, fun s b => ?_⟩
    · simp only [impl_NameOK.l0, spec_l00Word.l0, ih.1]; rfl
    · simp only [impl_NameOK.j0, spec_l00Word.j0, ih.1]

theorem word_eq (k : Nat) (s : ByteArray) : impl_NameOK.f k s = spec_l00Word.f k s := by
  unfold impl_NameOK.f spec_l00Word.f impl_within.f
  simp only [(word_loops k).2]
  by_cases h1 : (1 : Int) ≤ (s.size : Int)
  · rw [if_pos h1, if_neg (show ¬ (s.size : Int) < 1 by omega), if_pos (show (0 : Int) < (s.size : Int) by omega), if_pos (show (0 : Int) < (s.size : Int) by omega)]
    by_cases h2 : (s.size : Int) ≤ 20
    · rw [if_neg (show ¬ (s.size : Int) > 20 by omega)]; simp [h2]; rfl
    · rw [if_pos (show (s.size : Int) > 20 by omega)]; simp [h2]
  · rw [if_neg h1, if_pos (show (s.size : Int) < 1 by omega)]; simp

theorem word_l0_some (s : ByteArray) (hs : s.size ≤ 20) (d : Nat) : ∀ (k : Nat) (i : Int), 0 ≤ i → i ≤ s.size → (s.size : Int) - i = d → d < k → ∃ r, spec_l00Word.l0 k s i = some r := by
  induction d with
  | zero =>
    intro k i h0 h1 hd hk
    obtain ⟨k, rfl⟩ : ∃ m, k = m + 1 := ⟨k - 1, by omega⟩
    exact ⟨true, by simp only [spec_l00Word.l0]; rw [if_neg (by omega)]⟩
  | succ d ih =>
    intro k i h0 h1 hd hk
    obtain ⟨k, rfl⟩ : ∃ m, k = m + 1 := ⟨k - 1, by omega⟩
    obtain ⟨b, hb⟩ := letter_some (bt s i)
    obtain ⟨c, hc⟩ := digit_some (bt s i)
    have hw : wrap64 (i + 1) = i + 1 := by unfold wrap64; omega
    obtain ⟨r, hr⟩ := ih k (i + 1) (by omega) (by omega) (by omega) (by omega)
    simp only [spec_l00Word.l0]; rw [if_pos (show i < (s.size : Int) by omega), if_pos h0, hb, hc, hw, hr]
    cases b <;> cases c <;> exact ⟨_, rfl⟩

theorem word_some (k : Nat) (s : ByteArray) (hk : 24 ≤ k) : ∃ r, spec_l00Word.f k s = some r := by
  obtain ⟨k, rfl⟩ : ∃ m, k = m + 1 := ⟨k - 1, by omega⟩
  unfold spec_l00Word.f
  by_cases h1 : (s.size : Int) < 1
  · rw [if_pos h1]; exact ⟨false, by simp [spec_l00Word.j0]⟩
  · rw [if_neg h1]
    by_cases h2 : (s.size : Int) > 20
    · rw [if_pos h2]; exact ⟨false, by simp [spec_l00Word.j0]⟩
    · rw [if_neg h2, if_pos (show (0 : Int) < (s.size : Int) by omega)]
      obtain ⟨b, hb⟩ := letter_some (bt s 0)
      rw [hb]
      cases b
      · exact ⟨false, by simp [spec_l00Word.j0]⟩
      · obtain ⟨r, hr⟩ := word_l0_some s (by omega) (s.size - 1) k 1 (by omega) (by omega) (by omega) (by omega)
        exact ⟨r, by simp [spec_l00Word.j0, hr]⟩

theorem act_eq (k : Nat) (a b c d : Int) (s : ByteArray) : impl_ActOK.f (k + 1) a b c d s = spec_ActOK.f (k + 1) a b c d s := by
  obtain ⟨t, ht⟩ := in_some c 0 255
  unfold impl_ActOK.f spec_ActOK.f
  simp only [within_eq, word_eq, ht, Option.bind_some, impl_ActOK.j0, spec_ActOK.j0, spec_l11Id.f]
  by_cases h5 : a = 5
  · subst h5; simp
  · by_cases h6 : a = 6
    · subst h6; simp
    · by_cases h7 : a = 7
      · subst h7; simp
      · by_cases h8 : a = 8
        · subst h8; simp
        · simp [h5, h6, h7, h8]

theorem ite_some {α : Type} {p : Prop} [Decidable p] {x y : Option α} (hx : ∃ r, x = some r) (hy : ∃ r, y = some r) : ∃ r, (if p then x else y) = some r := by
  split
  · exact hx
  · exact hy

theorem act_some (k : Nat) (a b c d : Int) (s : ByteArray) (hk : 24 ≤ k) : ∃ r, spec_ActOK.f k a b c d s = some r := by
  obtain ⟨k, rfl⟩ : ∃ m, k = m + 1 := ⟨k - 1, by omega⟩
  obtain ⟨t, ht⟩ := in_some c 0 255
  obtain ⟨t1, h1⟩ := in_some b 0 3
  obtain ⟨t2, h2⟩ := in_some b 0 40
  obtain ⟨t3, h3⟩ := in_some b 0 7
  obtain ⟨n, hn⟩ := word_some (k + 1) s hk
  unfold spec_ActOK.f
  simp only [ht, h1, h2, h3, hn, Option.bind_some, spec_ActOK.j0, spec_l11Id.f]
  repeat' (with_reducible refine ite_some ?_ ?_)
  all_goals with_reducible exact ⟨_, rfl⟩

theorem law (a b c d : Int) (s : ByteArray) : ∃ k, laws_FnExactActOK.f k a b c d s = some true := by
  refine ⟨25, ?_⟩
  obtain ⟨r, hr⟩ := act_some 25 a b c d s (by omega)
  have he := act_eq 24 a b c d s
  unfold laws_FnExactActOK.f laws_szAct.f laws_toAct.f
  split <;> simp [he, hr]

end Go.Proofs.Ytpfplngeakmghaa.ActOKPure
