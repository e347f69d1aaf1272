/- Pure sides: what the functions come to (numbers and lists alone). -/
import Derived.Test.YtpamknpiphgdkaaGreatSxP
namespace Go.Proofs.YtpamknpiphgdkaaGreat.S
open Go.Ps
set_option linter.unusedVariables false
set_option maxRecDepth 100000
theorem ImgD.entries_i {im : Img} {gs : List Fn} {w c : Int} (h : ImgD im gs w c) : ∃ l, impl_Image_functions im = some l ∧ l.length ≤ 16 ∧ ∀ t : Nat, t < gs.length → 4096 + 4 * (offF gs t : Int) ∈ l := by
  have hz := h.sz
  have ht := h.total
  have key : ∀ (k i : Nat) (l : List Int), i + k = im.2.2.length → l.length ≤ i → (∀ t : Nat, t < gs.length → t < i → 4096 + 4 * (offF gs t : Int) ∈ l) → ∃ l', impl_Image_functions.l11010 l im.2.2 (im.2.2.length : Int) (i : Int) = some l' ∧ l'.length ≤ im.2.2.length ∧ ∀ t : Nat, t < gs.length → 4096 + 4 * (offF gs t : Int) ∈ l' := by
    intro k
    induction k with
    | zero =>
      intro i l hi hl hm
      rw [impl_Image_functions.l11010_eq, lt_nat, decide_eq_false (by omega)]
      have := h.slen
      exact ⟨l, rfl, by omega, fun t ht => hm t ht (by omega)⟩
    | succ k ih =>
      intro i l hi hl hm
      have hil : i < im.2.2.length := by omega
      have hn := hz.n
      rw [impl_Image_functions.l11010_eq, lt_nat, decide_eq_true hil, inL_nat, decide_eq_true hil, w64_succ i _ hil (by omega)]
      simp only [cond_true]
      by_cases hg : i < gs.length
      · have ho := offF_mono gs i
        rw [h.rd_f i gs[i] (by simp [hg]), impl_Symbol_address_eq]
        simp only [decide_true, cond_true, Option.bind_some]
        rw [w64 (n := 4096 + 4 * (offF gs i : Int)) (by omega) (by omega), room_le (by simp; omega) (by simp; omega)]
        exact ih (i + 1) _ (by omega) (by simp; omega) (fun t ht hti => by
          by_cases e : t = i
          · subst e; simp
          · exact List.mem_append_left _ (hm t ht (by omega)))
      · rw [decide_eq_false (show ¬ (rd (τ := TSym) im.2.2 (i : Int)).2.1 = 1 by rw [h.rd_d i (by omega) hil]; decide)]
        exact ih (i + 1) l (by omega) (by omega) (fun t ht hti => hm t ht (by omega))
  obtain ⟨l, h1, h2, h3⟩ := key im.2.2.length 0 [] (by omega) (by simp) (by simp)
  exact ⟨l, (impl_Image_functions_eq _).trans h1, by have := hz.n; omega, h3⟩
theorem ImgD.at_ok {im : Img} {gs : List Fn} {w c : Int} (h : ImgD im gs w c) (i : Nat) : codeAtV (4096 + 4 * (offF gs i : Int)) = true := by
  have ht := h.total
  have ho := offF_mono gs i
  unfold codeAtV
  rw [show (decide (0 ≤ 4096 + 4 * (offF gs i : Int)) && decide (4096 + 4 * (offF gs i : Int) ≤ 1048575)) = true by simp only [Bool.and_eq_true, decide_eq_true_eq]; omega, cond_true]
  exact decide_eq_true (Int.tmod_eq_zero_of_dvd (by omega))
theorem ImgD.fun_lint_i {im : Img} {gs : List Fn} {w c : Int} (h : ImgD im gs w c) (calls : List Int) (hl : calls.length ≤ 16) (hc : ∀ t : Nat, t < gs.length → 4096 + 4 * (offF gs t : Int) ∈ calls) (i : Nat) (p : Fn) (hp : gs[i]? = some p) : impl_lint (codeOf p.2) (4096 + 4 * (offF gs i : Int)) p.1 calls = some (0, 0) := by
  obtain ⟨hf, b, e, hd, h1, h2⟩ := h.funs i p hp
  have ht := h.total
  have ho := offF_mono gs i
  rw [e]
  refine impl_lint_funL (D := DatW w) (C := fun k m => CalG gs i k m ∧ 2 ≤ k ∧ k < 2 + b.length) (fun d hd => hd.ok h.hw.2) (fun k m hm => ?_) hf hd.bound (by omega) (h.at_ok i) (by omega)
  obtain ⟨⟨t, ht', rfl⟩, hk1, hk2⟩ := hm
  have hot := offF_mono gs t
  refine ⟨rjal (by decide) (by omega), ?_⟩
  have : 4096 + 4 * (offF gs i : Int) + 4 * k + (4 * (offF gs t : Int) - 4 * (offF gs i : Int) - 4 * k) = 4096 + 4 * (offF gs t : Int) := by omega
  rw [this]; exact hc t ht'
theorem ImgD.lint_i {im : Img} {gs : List Fn} {w c : Int} (h : ImgD im gs w c) : impl_LintImage im = some (0, 0, 0) := by
  have hz := h.sz
  obtain ⟨hn, hcs, hds⟩ := h.sz
  have ht := h.total
  have hsz := h.size
  have hsl := h.slen
  have h0 := h.hn.1
  have hE := h.chain
  rw [impl_LintImage_eq, decide_eq_false (by omega), decide_eq_false (show ¬ (im.1.size : Int) > 1024 by omega), decide_eq_false (show ¬ (im.2.1.size : Int) > 256 by omega)]
  simp only [cond_false]
  obtain ⟨l, e1, e2, e3⟩ := h.entries_i
  have funs : ∀ (k i : Nat), i + k = im.2.2.length → impl_LintImage.l111111010 im l im.2.2 (im.2.2.length : Int) (i : Int) = some (0, 0, 0) := by
    intro k
    induction k with
    | zero =>
      intro i hi
      rw [impl_LintImage.l111111010_eq, lt_nat, decide_eq_false (by omega)]; rfl
    | succ k ih =>
      intro i hi
      have hil : i < im.2.2.length := by omega
      rw [impl_LintImage.l111111010_eq, lt_nat, decide_eq_true hil, inL_nat, decide_eq_true hil, w64_succ i _ hil (by omega)]
      simp only [cond_true]
      by_cases hg : i < gs.length
      · have hgi : gs[i]? = some gs[i] := by simp [hg]
        obtain ⟨t1, t2⟩ := off_total gs i gs[i] hgi
        have hcut := h.cut i gs[i] hgi
        rw [h.rd_f i gs[i] hgi]
        simp only [decide_true, Bool.not_true, cond_false]
        rw [w64 (n := 4 * (offF gs i : Int) + 4 * (gs[i].2.length : Int)) (by omega) (by omega), show (decide (0 ≤ 4 * (offF gs i : Int)) && decide (4 * (offF gs i : Int) ≤ 4 * (offF gs i : Int) + 4 * (gs[i].2.length : Int)) && decide (4 * (offF gs i : Int) + 4 * (gs[i].2.length : Int) ≤ (im.1.size : Int))) = true by simp only [Bool.and_eq_true, decide_eq_true_eq]; omega, impl_Symbol_address_eq]
        simp only [decide_true, cond_true, Option.bind_some]
        rw [w64 (n := 4096 + 4 * (offF gs i : Int)) (by omega) (by omega), show (4 * (offF gs i : Int)).toNat = 4 * offF gs i by omega, show (4 * (offF gs i : Int) + 4 * (gs[i].2.length : Int)).toNat = 4 * offF gs i + 4 * gs[i].2.length by omega, hcut, h.fun_lint_i l e2 e3 i gs[i] hgi]
        exact ih (i + 1) (by omega)
      · rw [decide_eq_false (show ¬ (rd (τ := TSym) im.2.2 (i : Int)).2.1 = 1 by rw [h.rd_d i (by omega) hil]; decide)]
        exact ih (i + 1) (by omega)
  have key : ∀ (k i : Nat), i + k = im.2.2.length → impl_LintImage.l111010 im (endE gs w c i) (im.2.2.length : Int) (i : Int) = some (0, 0, 0) := by
    intro k
    induction k with
    | zero =>
      intro i hi
      have : i = im.2.2.length := by omega
      subst this
      rw [impl_LintImage.l111010_eq, lt_nat, decide_eq_false (Nat.lt_irrefl _), decide_eq_false (show ¬ (im.2.2.length : Int) = 0 by omega), inL_true (i := 0) (by omega) (by omega), decide_eq_true h.first, decide_eq_true h.end, e1]
      exact funs im.2.2.length 0 (by omega)
    | succ k ih =>
      intro i hi
      have hl : i < im.2.2.length := by omega
      rw [impl_LintImage.l111010_eq, lt_nat, decide_eq_true hl, impl_lintS im hz i hl (endE gs w c i) (hE.2.1 i (by omega)), hE.2.2 i hl hl, w64_succ i _ hl (by omega)]
      exact ih (i + 1) (by omega)
  have := key im.2.2.length 0 (by omega)
  rw [hE.1] at this
  exact this
theorem ImgD.ok_i {im : Img} {gs : List Fn} {w c : Int} (h : ImgD im gs w c) : impl_ImageOK im = some true := by rw [impl_ImageOK_eq, h.lint_i]; rfl
theorem at_ok (l : List Int) (hb : BytP l) (hl : l.length ≤ 1048576) (k n : Int) (hk : 0 ≤ k ∧ k ≤ 1000) (hn : n ≤ 1000000) : ∃ v, laws_at l k n = some v ∧ 0 ≤ v ∧ (1 ≤ n → v < n) := by
  rw [laws_at_eq]
  by_cases h1 : n ≤ 1
  · rw [decide_eq_true h1]; exact ⟨0, rfl, by omega, by omega⟩
  · rw [decide_eq_false h1]
    simp only [cond_false]
    by_cases h0 : (l.length : Int) = 0
    · rw [decide_eq_true h0, decide_eq_false (show ¬ n = 0 by omega), w64 (n := k * 7) (by omega) (by omega)]
      refine ⟨_, rfl, ?_, fun _ => ?_⟩ <;> rw [Int.tmod_eq_emod_of_nonneg (by omega)]
      · exact Int.emod_nonneg _ (by omega)
      · exact Int.emod_lt_of_pos _ (by omega)
    · have ht : ∀ m : Int, 0 ≤ m → 0 ≤ m.tmod (l.length : Int) ∧ m.tmod (l.length : Int) < (l.length : Int) := fun m hm => by
        rw [Int.tmod_eq_emod_of_nonneg hm]
        exact ⟨Int.emod_nonneg _ (by omega), Int.emod_lt_of_pos _ (by omega)⟩
      have hby : ∀ m : Int, 0 ≤ m → m < (l.length : Int) → ∃ v : Int, rd (τ := .int .u8) l m = v ∧ 0 ≤ v ∧ v ≤ 255 := fun m hm hm' => by
        obtain ⟨j, rfl⟩ : ∃ j : Nat, m = j := ⟨m.toNat, by omega⟩
        rw [rd_nat (τ := .int .u8) l j (by omega)]
        exact ⟨_, rfl, hb _ (List.getElem_mem _)⟩
      obtain ⟨t1, t2⟩ := ht k hk.1
      obtain ⟨t3, t4⟩ := ht (k + 1) (by omega)
      obtain ⟨A, eA, r1, r2⟩ := hby _ t1 t2
      obtain ⟨B, eB, r3, r4⟩ := hby _ t3 t4
      have hd : 0 ≤ k.tdiv (l.length : Int) ∧ k.tdiv (l.length : Int) ≤ k := by
        rw [Int.tdiv_eq_ediv_of_nonneg hk.1]
        exact ⟨Int.ediv_nonneg hk.1 (by omega), Int.ediv_le_self _ hk.1⟩
      rw [decide_eq_false h0, decide_eq_false (show ¬ n = 0 by omega), w64 (n := k + 1) (by omega) (by omega), inL_true t1 t2, inL_true t3 t4]
      simp only [cond_false, cond_true]
      rw [eA, eB]
      generalize k.tdiv (l.length : Int) = D at *
      rw [w64 (n := A) (by omega) (by omega), w64 (n := B) (by omega) (by omega), w64 (n := A * 31) (by omega) (by omega), w64 (n := A * 31 + B) (by omega) (by omega), w64 (n := D) (by omega) (by omega), w64 (n := A * 31 + B + D) (by omega) (by omega)]
      refine ⟨_, rfl, ?_, fun _ => ?_⟩ <;> rw [Int.tmod_eq_emod_of_nonneg (by omega)]
      · exact Int.emod_nonneg _ (by omega)
      · exact Int.emod_lt_of_pos _ (by omega)
theorem place_i (s : Sym) : impl_Symbol_address s = some (plS s) := by
  rw [impl_Symbol_address_eq]
  unfold plS
  cases decide (s.2.1 = 1) <;> rfl
/-- The first of what stands for itself alone. -/
theorem findB_self (p : Nat → Bool) (n k : Nat) (hk : k < n) (hp : p k = true) (ho : ∀ j, j < n → j ≠ k → p j = false) : findB p 0 n = (k : Int) := by
  rcases findB_spec p n 0 with ⟨_, h2⟩ | ⟨j, h1, _, h3, h4, _⟩
  · have := h2 k (Nat.zero_le _) (by omega)
    rw [hp] at this; cases this
  · by_cases e : j = k
    · rw [h1, e]
    · have := ho j (by omega) e
      rw [h4] at this; cases this
abbrev noN : ByteArray := ⟨#[110, 111, 95, 115, 117, 99, 104]⟩
theorem ImgD.nodup {im : Img} {gs : List Fn} {w c : Int} (h : ImgD im gs w c) : (im.2.2.map (·.1)).Nodup := by
  rw [h.syms, List.map_append, symA_names, dsy_names]
  exact names_nodup _ h.hn.2 w c
theorem ImgD.names {im : Img} {gs : List Fn} {w c : Int} (h : ImgD im gs w c) (i j : Nat) (hi : i < im.2.2.length) (hj : j < im.2.2.length) (e : (rd (τ := TSym) im.2.2 (i : Int)).1 = (rd (τ := TSym) im.2.2 (j : Int)).1) : i = j := by
  rw [rd_nat (τ := TSym) im.2.2 i hi, rd_nat (τ := TSym) im.2.2 j hj] at e
  have hp := List.pairwise_iff_getElem.1 h.nodup
  rcases Nat.lt_trichotomy i j with hl | hl | hl
  · exact absurd (by rw [List.getElem_map, List.getElem_map]; exact e) (hp i j (by simpa using hi) (by simpa using hj) hl)
  · exact hl
  · exact absurd (by rw [List.getElem_map, List.getElem_map]; exact e.symm) (hp j i (by simpa using hj) (by simpa using hi) hl)
theorem name_small : ∀ k : Fin 6, (nmV k).size ≤ 20 ∧ nmV k ≠ noN := by decide +kernel
theorem dname_small : (cntN.size ≤ 20 ∧ cntN ≠ noN) ∧ (lstN.size ≤ 20 ∧ lstN ≠ noN) := by decide +kernel
theorem ImgD.mem_name {im : Img} {gs : List Fn} {w c : Int} (h : ImgD im gs w c) (i : Nat) (hi : i < im.2.2.length) : (rd (τ := TSym) im.2.2 (i : Int)).1.size ≤ 20 ∧ (rd (τ := TSym) im.2.2 (i : Int)).1 ≠ noN := by
  have hm : (rd (τ := TSym) im.2.2 (i : Int)).1 ∈ im.2.2.map (·.1) := by
    rw [rd_nat (τ := TSym) im.2.2 i hi]
    exact List.mem_map.2 ⟨_, List.getElem_mem hi, rfl⟩
  generalize (rd (τ := TSym) im.2.2 (i : Int)).1 = N at hm ⊢
  rw [h.syms, List.map_append, symA_names, dsy_names] at hm
  rcases List.mem_append.1 hm with hm | hm
  · obtain ⟨k, hk, e⟩ := List.mem_map.1 hm
    rw [← e]
    have := h.hn
    rw [List.mem_range'_1] at hk
    exact name_small ⟨k, by omega⟩
  · unfold dnm at hm
    split at hm
    · split at hm
      · simp only [List.mem_cons, List.not_mem_nil, or_false] at hm
        rcases hm with e | e
        · rw [e]; exact dname_small.1
        · rw [e]; exact dname_small.2
      · simp only [List.mem_singleton] at hm
        rw [hm]; exact dname_small.1
    · cases hm
theorem ImgD.at_k {im : Img} {gs : List Fn} {w c : Int} (h : ImgD im gs w c) (k : Nat) (hk : k < gs.length) : entI im k = (nmV k, 1, 4096 + 4 * (offF gs k : Int), 4 * (gs[k].2.length : Int), gs[k].1, 0) := by
  have := h.total
  have := offF_mono gs k
  unfold entI plS
  rw [h.rd_f k gs[k] (by simp [hk])]
  simp only [decide_true, cond_true]
  rw [w64 (by omega) (by omega)]
theorem getV_self (F : Int → Int) (a : Int) (t : ByteArray) : getV (updF F a t) a t.size = t := by
  have hsz := getV_size (updF F a t) a t.size
  refine byte_ext hsz fun i hi => ?_
  rw [hsz] at hi
  have hv : ∀ j : Nat, j < t.size → updF F a t (a + (j : Int)) = bt t (j : Int) := fun j hj => by
    unfold updF
    rw [if_pos ⟨by omega, by omega⟩, show a + (j : Int) - a = (j : Int) by omega]
  have hb : ∀ x ∈ mapB (fun j : Nat => updF F a t (a + (j : Int))) 0 t.size, 0 ≤ x ∧ x ≤ 255 := by
    intro x hx
    obtain ⟨j, _, hj, rfl⟩ := (mapB_mem _ _ _ _).1 hx
    rw [hv j (by omega)]
    exact bt_range t _
  have h1 := bytesOf_getD (mapB (fun j : Nat => updF F a t (a + (j : Int))) 0 t.size) i hb (by rw [mapB_length]; exact hi)
  rw [mapB_get, Nat.zero_add, hv i hi] at h1
  have h2 : bt t (i : Int) = ((t.data.getD i 0).toNat : Int) := by unfold bt; rw [Int.toNat_natCast]
  rw [h2] at h1
  have h3 : ((getV (updF F a t) a t.size).data.getD i 0).toNat = (t.data.getD i 0).toNat := by
    have : (((getV (updF F a t) a t.size).data.getD i 0).toNat : Int) = ((t.data.getD i 0).toNat : Int) := h1
    omega
  exact UInt8.toNat_inj.1 h3
theorem BL_ok : lOK BL = true := by decide +kernel
theorem named_i (im : Img) (hn : im.2.2.length ≤ 16) (n : ByteArray) : impl_Image_named im n = some (findB (fun i => decide ((rd (τ := TSym) im.2.2 (i : Int)).1 = n)) 0 im.2.2.length) := by
  rw [impl_Image_named_eq, slices_IndexFunc_impl_Symbol_impl_Image_named_1_eq]
  rw [loop_find0 (L := slices_IndexFunc_impl_Symbol_impl_Image_named_1.l1010 n im.2.2 (im.2.2.length : Int)) (fun i => decide ((rd (τ := TSym) im.2.2 (i : Int)).1 = n)) im.2.2.length ?_ fun i hi => ?_]
  · rfl
  · rw [slices_IndexFunc_impl_Symbol_impl_Image_named_1.l1010_eq, lt_nat]; simp
  · rw [slices_IndexFunc_impl_Symbol_impl_Image_named_1.l1010_eq, lt_nat, inL_nat, decide_eq_true hi, w64_succ i im.2.2.length hi (by omega), impl_Image_named_1_eq, strEq_dec]
    simp only [cond_true, Option.bind_some]
/-- Where symbol i begins, and how much it holds. -/
def begS (im : Img) (i : Nat) : Int := plS (rd (τ := TSym) im.2.2 (i : Int))
theorem ImgD.beg_f {im : Img} {gs : List Fn} {w c : Int} (h : ImgD im gs w c) (k : Nat) (hk : k < gs.length) : begS im k = 4096 + 4 * (offF gs k : Int) := by
  have := h.at_k k hk
  have e : (entI im k).2.2.1 = begS im k := rfl
  rw [← e, this]
theorem ImgD.size_k {im : Img} {gs : List Fn} {w c : Int} (h : ImgD im gs w c) (k : Nat) (hk : k < im.2.2.length) : ∃ z : Int, (rd (τ := TSym) im.2.2 (k : Int)).2.2.2.1 = z ∧ 1 ≤ z ∧ z ≤ 1024 ∧ 4096 ≤ begS im k ∧ begS im k ≤ 100000 ∧ ∀ j : Nat, j < k → ∃ y : Int, (rd (τ := TSym) im.2.2 (j : Int)).2.2.2.1 = y ∧ 1 ≤ y ∧ y ≤ 1024 ∧ 4096 ≤ begS im j ∧ begS im j + y ≤ begS im k := by
  have ht := h.total
  have hd := h.data
  have hw := h.hw
  have hc := h.hc
  have hsl := h.slen
  -- functions
  have F : ∀ j : Nat, j < gs.length → ∃ y : Int, (rd (τ := TSym) im.2.2 (j : Int)).2.2.2.1 = y ∧ 1 ≤ y ∧ y ≤ 1024 ∧ begS im j = 4096 + 4 * (offF gs j : Int) ∧ begS im j + y = 4096 + 4 * (offF gs (j + 1) : Int) := fun j hj => by
    obtain ⟨t1, t2⟩ := off_total gs j gs[j] (by simp [hj])
    have hl := (h.funs j gs[j] (by simp [hj])).len
    refine ⟨4 * (gs[j].2.length : Int), by rw [h.rd_f j gs[j] (by simp [hj])], by omega, by omega, h.beg_f j hj, ?_⟩
    rw [h.beg_f j hj, t2]; omega
  have mono : ∀ (d a : Nat), a + d ≤ gs.length → offF gs a ≤ offF gs (a + d) := by
    intro d
    induction d with
    | zero => intro a _; simp
    | succ d ih =>
      intro a ha
      have h1 := ih a (by omega)
      obtain ⟨_, t2⟩ := off_total gs (a + d) gs[a + d] (by simp)
      rw [show a + (d + 1) = a + d + 1 by omega]; omega
  have om := offF_mono gs
  -- data
  have D : ∀ q : Nat, gs.length + q < im.2.2.length → w > 0 ∧ ((q = 0 ∧ (rd (τ := TSym) im.2.2 ((gs.length + q : Nat) : Int)).2.2.2.1 = 8 * c ∧ begS im (gs.length + q) = 16384) ∨ (q = 1 ∧ c < w ∧ (rd (τ := TSym) im.2.2 ((gs.length + q : Nat) : Int)).2.2.2.1 = 8 * (w - c) ∧ begS im (gs.length + q) = 16384 + 8 * c)) := fun q hq => by
    have hwp : w > 0 := by
      by_cases hwp : w > 0
      · exact hwp
      · have h0 : (dsy w c).length = 0 := by unfold dsy; rw [if_neg hwp]; rfl
        omega
    refine ⟨hwp, ?_⟩
    have hcw := hc.2 hwp
    have hs := h.sym_d q
    have hq2 : q < 2 := by have := dsy_length w c; omega
    match q, hq2 with
    | 0, _ =>
      left
      have e : (dsy w c)[0]? = some (cntN, 2, 0, 8 * c, 0) := by simp [dsy, hwp]
      rw [e] at hs
      have hr := rd_some (τ := TSym) im.2.2 (gs.length + 0) _ hs
      refine ⟨rfl, by rw [hr], ?_⟩
      unfold begS
      rw [hr]; rfl
    | 1, _ =>
      right
      have hcl : c < w := by
        by_cases hcl : c < w
        · exact hcl
        · have h1 : (dsy w c).length = 1 := by unfold dsy; rw [if_pos hwp, if_neg hcl]; rfl
          omega
      have e : (dsy w c)[1]? = some (lstN, 2, 8 * c, 8 * (w - c), 0) := by simp [dsy, hwp, hcl]
      rw [e] at hs
      have hr := rd_some (τ := TSym) im.2.2 (gs.length + 1) _ hs
      refine ⟨rfl, hcl, by rw [hr], ?_⟩
      unfold begS plS
      rw [hr, show decide (((lstN, 2, 8 * c, 8 * (w - c), 0) : Sym).2.1 = 1) = false from rfl, cond_false]
      exact w64 (by simp only; omega) (by simp only; omega)
  by_cases hg : k < gs.length
  · obtain ⟨z, z1, z2, z3, z4, z5⟩ := F k hg
    have := om k
    refine ⟨z, z1, z2, z3, by omega, by omega, fun j hj => ?_⟩
    obtain ⟨y, y1, y2, y3, y4, y5⟩ := F j (by omega)
    have hm := mono (k - (j + 1)) (j + 1) (by omega)
    rw [show j + 1 + (k - (j + 1)) = k by omega] at hm
    exact ⟨y, y1, y2, y3, by omega, by omega⟩
  · obtain ⟨q, rfl⟩ : ∃ q, k = gs.length + q := ⟨k - gs.length, by omega⟩
    obtain ⟨hwp, hq⟩ := D q hk
    have hcw := hc.2 hwp
    have fns : ∀ j : Nat, j < gs.length → ∀ B : Int, 16384 ≤ B → ∃ y : Int, (rd (τ := TSym) im.2.2 (j : Int)).2.2.2.1 = y ∧ 1 ≤ y ∧ y ≤ 1024 ∧ 4096 ≤ begS im j ∧ begS im j + y ≤ B := fun j hj B hB => by
      obtain ⟨y, y1, y2, y3, y4, y5⟩ := F j hj
      have := om (j + 1)
      exact ⟨y, y1, y2, y3, by omega, by omega⟩
    rcases hq with ⟨rfl, q1, q2⟩ | ⟨rfl, q0, q1, q2⟩
    · refine ⟨8 * c, q1, by omega, by omega, by omega, by omega, fun j hj => fns j (by omega) _ (by omega)⟩
    · refine ⟨8 * (w - c), q1, by omega, by omega, by omega, by omega, fun j hj => ?_⟩
      by_cases hjg : j < gs.length
      · exact fns j hjg _ (by omega)
      · have : j = gs.length + 0 := by omega
        subst this
        rcases (D 0 (by omega)).2 with ⟨_, r1, r2⟩ | ⟨r0, _⟩
        · exact ⟨8 * c, r1, by omega, by omega, by omega, by omega⟩
        · cases r0
theorem ImgD.symbolAt {im : Img} {gs : List Fn} {w c : Int} (h : ImgD im gs w c) (k : Nat) (hk : k < im.2.2.length) (o : Int) (ho : 0 ≤ o) (z : Int) (hz : (rd (τ := TSym) im.2.2 (k : Int)).2.2.2.1 = z) (ho' : o < z) : impl_SymbolAt im (begS im k + o) = some ((k : Int), o, 0) := by
  obtain ⟨z', hz', z1, z2, b1, b2, hb⟩ := h.size_k k hk
  rw [hz] at hz'
  subst hz'
  have hn := h.sz.n
  rw [impl_SymbolAt_eq, h.ok_i]
  simp only [Option.bind_some, Bool.not_true, cond_false]
  have key : ∀ (d i : Nat), i + d = k → impl_SymbolAt.l11010 (begS im k + o) im.2.2 (im.2.2.length : Int) (i : Int) = some ((k : Int), o, 0) := by
    intro d
    induction d with
    | zero =>
      intro i hi
      have : i = k := by omega
      subst this
      rw [impl_SymbolAt.l11010_eq, lt_nat, decide_eq_true hk, inL_nat, decide_eq_true hk, place_i, hz]
      simp only [cond_true, Option.bind_some]
      have e : plS (rd (τ := TSym) im.2.2 (i : Int)) = begS im i := rfl
      rw [e, w64 (n := begS im i + z) (by omega) (by omega), w64 (n := begS im i + z - 1) (by omega) (by omega), within_val, decide_eq_true (show begS im i ≤ begS im i + o by omega), decide_eq_true (show begS im i + o ≤ begS im i + z - 1 by omega), w64 (n := begS im i + o - begS im i) (by omega) (by omega), show begS im i + o - begS im i = o by omega]
      rfl
    | succ d ih =>
      intro i hi
      obtain ⟨y, y1, y2, y3, y4, y5⟩ := hb i (by omega)
      have hil : i < im.2.2.length := by omega
      rw [impl_SymbolAt.l11010_eq, lt_nat, decide_eq_true hil, inL_nat, decide_eq_true hil, place_i, y1, w64_succ i _ hil (by omega)]
      simp only [cond_true, Option.bind_some]
      have e : plS (rd (τ := TSym) im.2.2 (i : Int)) = begS im i := rfl
      rw [e, w64 (n := begS im i + y) (by omega) (by omega), w64 (n := begS im i + y - 1) (by omega) (by omega), within_val, decide_eq_false (show ¬ begS im k + o ≤ begS im i + y - 1 by omega), Bool.and_false]
      exact ih (i + 1) (by omega)
  exact key k 0 (by omega)
theorem stack_pages : ∀ t : Fin 4, pageAt BL (33272 + 1024 * ((t : Nat) : Int)) = ((23 + 4 * (t : Nat) : Nat) : Int) ∧ rd (τ := TI2) BL ((23 + 4 * (t : Nat) : Nat) : Int) = (33152 + 1024 * ((t : Nat) : Int), 11) ∧ pageAt BL (33280 + 1024 * ((t : Nat) : Int)) = -1 := by decide +kernel
theorem text_page : pageAt BL 4096 = ((0 : Nat) : Int) ∧ rd (τ := TI2) BL ((0 : Nat) : Int) = (4096, 4) := by decide +kernel
theorem memBL_ok (F : Int → Int) : impl_MemoryOK (memF F BL) = some true := by rw [memory_i, memV_memF, BL_ok]
theorem fetch_text (F : Int → Int) : ∃ v, impl_FetchAt (memF F BL) 4096 = some (v, 0) := by
  rw [impl_FetchAt_eq, memBL_ok]
  simp only [Option.bind_some, Bool.not_true, cond_false]
  have h := load_ok (F := F) BL BL_R 4096 4 4 true 0 text_page.1 (by decide) text_page.2 ⟨by decide, by decide⟩ ⟨by decide, by decide⟩ (by decide) (by decide) (by decide) (by decide +kernel) (by decide +kernel)
  have h' : impl_Memory_load (memF F BL) 4096 4 4 true = _ := h
  rw [h', impl_take_val _ (by rw [ByteArray.size_extract]; have := pg_size F 4096; simp only; omega)]
  exact ⟨_, rfl⟩
theorem access_no {F : Int → Int} (a n p : Int) (st : Bool) (ha : MidA a) (hn : 1 ≤ n) (h8 : a.tmod n = 0) (hk : pageAt BL a = -1) : impl_Memory_access (memF F BL) a n p st = some (0, 12) := by
  rw [impl_Memory_access_eq, decide_eq_false (show ¬ n = 0 by omega), decide_eq_true h8, impl_page F BL BL_R a ha, hk]; rfl
theorem store_text (F : Int → Int) : ∃ m, impl_StoreAt (memF F BL) 4096 4 0 false = some (m, 13) := by
  rw [impl_StoreAt_eq, memBL_ok, impl_isWidth_eq]
  simp only [Option.bind_some, Bool.not_true, cond_false, show decide ((4 : Int) = 1) = false from rfl, show decide ((4 : Int) = 2) = false from rfl]
  have hml : (memF F BL).length = BL.length := by simp [memF]
  have ha : impl_Memory_access (memF F BL) 4096 4 2 false = some (0, 13) := by
    rw [impl_Memory_access_eq, show decide ((4 : Int) = 0) = false from rfl, show decide ((4096 : Int).tmod 4 = 0) = true from rfl, impl_page F BL BL_R 4096 ⟨by decide, by decide⟩, text_page.1]
    simp only [cond_false, Bool.not_true, Option.bind_some]
    rw [show decide (((0 : Nat) : Int) < 0) = false from rfl, inL_nat, hml, show decide (0 < BL.length) = true by decide, rd_mem F BL 0 (by decide), text_page.2]
    simp only [cond_false, cond_true, show (pageF F ((4096, 4) : Int × Int)).2.1 = 4 from rfl]
    rw [show decide (andI .i64 4 2 = 0) = true by decide +kernel]; rfl
  rw [impl_Memory_store_eq, ha, impl_own (by rw [hml]; decide)]
  simp only [Option.bind_some, show decide ((13 : Int) = 0) = false from rfl, Bool.not_false, cond_true]
  exact ⟨_, rfl⟩
theorem stack_loads (F : Int → Int) (t : Nat) (ht : t < 4) : (∃ v, impl_LoadAt (memF F BL) (33272 + 1024 * (t : Int)) 8 true = some (v, 0)) ∧ (∃ v, impl_LoadAt (memF F BL) (33280 + 1024 * (t : Int)) 8 true = some (v, 12)) ∧ (∃ v, impl_LoadAt (memF F BL) (33272 + 1024 * (t : Int)) 8 false = some (v, 14)) := by
  obtain ⟨p1, p2, p3⟩ := stack_pages ⟨t, ht⟩
  simp only at p1 p2 p3
  have hml : (memF F BL).length = BL.length := by simp [memF]
  have hlen : BL.length = 36 := BL_len
  have m8 : (33272 + 1024 * (t : Int)).tmod 8 = 0 := Int.tmod_eq_zero_of_dvd (by omega)
  have m8' : (33280 + 1024 * (t : Int)).tmod 8 = 0 := Int.tmod_eq_zero_of_dvd (by omega)
  have w8 : impl_isWidth 8 = some true := by rw [impl_isWidth_eq]; rfl
  refine ⟨?_, ?_, ?_⟩
  · rw [impl_LoadAt_eq, memBL_ok, w8]
    simp only [Option.bind_some, Bool.not_true, cond_false]
    have h := load_ok (F := F) BL BL_R (33272 + 1024 * (t : Int)) 1 8 true (23 + 4 * t) p1 (by omega) p2 ⟨by omega, by omega⟩ ⟨by decide, by decide⟩ m8 (by simp only; omega) (by simp only; omega) (show decide (andI .i64 11 1 = 0) = false by decide +kernel) (show (!decide (andI .i64 11 8 = 0) && !true && !decide ((1 : Int) = 4)) = false by decide +kernel)
    have h' : impl_Memory_load (memF F BL) (33272 + 1024 * (t : Int)) 8 1 true = _ := h
    rw [h', impl_take_val _ (by rw [ByteArray.size_extract]; have := pg_size F (33152 + 1024 * (t : Int)); simp only; omega)]
    exact ⟨_, rfl⟩
  · rw [impl_LoadAt_eq, memBL_ok, w8]
    simp only [Option.bind_some, Bool.not_true, cond_false]
    rw [impl_Memory_load_eq, access_no (F := F) _ 8 1 true ⟨by omega, by omega⟩ (by decide) m8' p3]
    exact ⟨_, rfl⟩
  · rw [impl_LoadAt_eq, memBL_ok, w8]
    simp only [Option.bind_some, Bool.not_true, cond_false]
    have ha : impl_Memory_access (memF F BL) (33272 + 1024 * (t : Int)) 8 1 false = some (0, 14) := by
      rw [impl_Memory_access_eq, show decide ((8 : Int) = 0) = false from rfl, decide_eq_true m8, impl_page F BL BL_R _ ⟨by omega, by omega⟩, p1]
      simp only [cond_false, Bool.not_true, Option.bind_some]
      rw [decide_eq_false (by omega), inL_nat, hml, decide_eq_true (show 23 + 4 * t < BL.length by omega), rd_mem F BL _ (by omega), p2]
      simp only [cond_false, cond_true, show (pageF F ((33152 + 1024 * (t : Int), 11) : Int × Int)).2.1 = 11 from rfl]
      rw [show decide (andI .i64 11 1 = 0) = false by decide +kernel, show decide (andI .i64 11 8 = 0) = false by decide +kernel]; rfl
    rw [impl_Memory_load_eq, ha]
    exact ⟨_, rfl⟩
theorem image_law (a b : List Int) (ha : BytP a) (hb : BytP b) : laws_FnImage a b = some true := by
  rw [laws_FnImage_eq]
  simp only [joinB]
  by_cases h1 : (a.length : Int) > 1048576
  · rw [decide_eq_true h1]; rfl
  rw [decide_eq_false h1]
  simp only [cond_false]
  by_cases h2 : (b.length : Int) > 1048576
  · rw [decide_eq_true h2]; rfl
  rw [decide_eq_false h2]
  simp only [cond_false]
  obtain ⟨im, gs, w, c, e1, h⟩ := imageDrawn_ok a ha (by omega)
  have hz := h.sz
  have hzn := hz.n
  have hzc := hz.c
  have hzd := hz.d
  have hsl := h.slen
  have h0 := h.hn
  rw [e1]
  simp only [Option.bind_some]
  rw [h.lint_i]
  simp only [Option.bind_some]
  obtain ⟨k0, ek, k1, k2⟩ := at_ok b hb (by omega) 0 (im.2.2.length : Int) (by decide) (by omega)
  have k2 := k2 (by omega)
  obtain ⟨k, rfl⟩ : ∃ k : Nat, k0 = k := ⟨k0.toNat, by omega⟩
  have hk : k < im.2.2.length := by omega
  obtain ⟨z, ez, z1, z2, b1, b2, _⟩ := h.size_k k hk
  have hns := h.mem_name k hk
  have eA : impl_AddressOf im (k : Int) = some (begS im k, 0) := by
    rw [impl_AddressOf_eq, h.ok_i, w64 (n := (im.2.2.length : Int) - 1) (by omega) (by omega)]
    simp only [Option.bind_some, Bool.not_true, cond_false]
    rw [within_val, decide_eq_true k1, decide_eq_true (show (k : Int) ≤ (im.2.2.length : Int) - 1 by omega), inL_true k1 k2, place_i]; rfl
  have eN : impl_SymbolNamed im (rd (τ := TSym) im.2.2 (k : Int)).1 = some ((k : Int), 0) := by
    rw [impl_SymbolNamed_eq, impl_isLong_eq, decide_eq_false (show ¬ ((rd (τ := TSym) im.2.2 (k : Int)).1.size : Int) > 65536 by omega), h.ok_i, named_i im hzn]
    simp only [Option.bind_some, Bool.not_true, cond_false]
    rw [findB_self _ _ k hk (decide_eq_true rfl) fun j hj hne => decide_eq_false fun e => hne (h.names j k hj hk e), decide_eq_false (show ¬ (k : Int) < 0 by omega)]; rfl
  rw [ek]
  simp only [Option.bind_some]
  rw [inL_true k1 k2, eN, eA, ez]
  simp only [Option.bind_some, cond_true]
  obtain ⟨o, eo, o1, o2⟩ := at_ok b hb (by omega) 1 z (by decide) (by omega)
  have o2 := o2 z1
  rw [eo]
  simp only [Option.bind_some]
  rw [w64 (n := begS im k + o) (by omega) (by omega), h.symbolAt k hk o o1 z ez o2]
  have eL : impl_LoadImage im = some (memF (F0 im) BL, 0) := by rw [impl_LoadImage_eq, h.ok_i, impl_loaded im hzc hzd]; rfl
  rw [eL, h.ok_i]
  simp only [Option.bind_some, decide_true, Bool.not_true, cond_false]
  have g1 : impl_GetBytes (memF (F0 im) BL) 4096 (im.1.size : Int) = some (im.1, 0) := by
    rw [get_bytes (F0_range im) BL BL_R BL_ok 4096 im.1.size hzc (by decide) (by decide) (fun x hx hx' => page_text hx (by omega))]
    have e : getV (F0 im) 4096 im.1.size = getV (textF im) 4096 im.1.size := getV_congr fun x hx hx' => by
      unfold F0
      show updF (textF im) 16384 im.2.1 x = _
      unfold updF
      rw [if_neg (by omega)]
    rw [e]
    exact congrArg (fun t => some (t, (0 : Int))) (getV_self zF 4096 im.1)
  have g2 : impl_GetBytes (memF (F0 im) BL) 16384 (im.2.1.size : Int) = some (im.2.1, 0) := by
    rw [get_bytes (F0_range im) BL BL_R BL_ok 16384 im.2.1.size (by omega) (by decide) (by decide) (fun x hx hx' => page_data hx (by omega))]
    exact congrArg (fun t => some (t, (0 : Int))) (getV_self (textF im) 16384 im.2.1)
  obtain ⟨fv, ef⟩ := fetch_text (F0 im)
  obtain ⟨sv, es⟩ := store_text (F0 im)
  obtain ⟨t0, et, t1, t2⟩ := at_ok b hb (by omega) 2 4 (by decide) (by decide)
  have t2 := t2 (by decide)
  obtain ⟨t, rfl⟩ : ∃ t : Nat, t0 = t := ⟨t0.toNat, by omega⟩
  obtain ⟨⟨v1, l1⟩, ⟨v2, l2⟩, ⟨v3, l3⟩⟩ := stack_loads (F0 im) t (by omega)
  have eS : impl_StackTop (t : Int) = some (33280 + 1024 * (t : Int), 0) := by
    rw [impl_StackTop_eq, within_val, decide_eq_true t1, decide_eq_true (show (t : Int) ≤ 3 by omega), impl_stackTop_eq, w64 (n := 1024 * (t : Int)) (by omega) (by omega), w64 (n := 32768 + 1024 * (t : Int)) (by omega) (by omega), w64 (n := 32768 + 1024 * (t : Int) + 512) (by omega) (by omega), show 32768 + 1024 * (t : Int) + 512 = 33280 + 1024 * (t : Int) by omega]; rfl
  rw [g1, g2, ef, es, et]
  simp only [Option.bind_some]
  rw [eS]
  simp only [Option.bind_some]
  rw [w64 (n := 33280 + 1024 * (t : Int) - 8) (by omega) (by omega), show 33280 + 1024 * (t : Int) - 8 = 33272 + 1024 * (t : Int) by omega, l1, l2, l3, memBL_ok]
  simp [strEq_dec]
end Go.Proofs.YtpamknpiphgdkaaGreat.S
