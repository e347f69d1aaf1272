/- Pure sides: what the functions come to (numbers and lists alone). -/
import Derived.Test.YtjebgmofebmgaaaGreatSxP
namespace Go.Proofs.YtjebgmofebmgaaaGreat.S
open Go.Ps
set_option linter.unusedVariables false
set_option maxRecDepth 100000
theorem impl_lint_funL {f a : Int} {calls : List Int} {C : Int → Int → Prop} {D : Int → Prop} (hD : ∀ d, D d → DatP d) (hC : ∀ i m, C i m → rightV (3, 1, 0, 0, m) = true ∧ a + 4 * i + m ∈ calls) (hf : FrmP f) {b : List Ins} (h : Dpcs f C D 2 b) (hb : b.length ≤ 59) (ha : codeAtV a = true) (hc : calls.length ≤ 1048576) :
    impl_lint (codeOf (funL f b)) a f calls = some (0, 0) := by
  have hfr := hf.range
  have har := codeAtV_range ha
  have hn := funL_length f b
  have hright := funL_right hD (fun i m q => (hC i m q).1) hf h
  have hsz : funcSizeV (codeOf (funL f b)).size = true := by
    rw [codeOf_size]; unfold funcSizeV codeSizeV
    rw [show decide (((4 * (funL f b).length : Nat) : Int).tmod 4 = 0) = true from decide_eq_true (Int.tmod_eq_zero_of_dvd (by omega)), cond_true, decide_eq_true (show ((4 * (funL f b).length : Nat) : Int) ≤ 256 by omega), cond_true]
    exact decide_eq_true (by omega)
  obtain ⟨b0, b1⟩ := funL_begin f b
  obtain ⟨_, _, b2⟩ := funL_end f b
  have hp : ([(22, 2, 2, 0, (IntKind.wrap .i64 (0 - f))), (21, 0, 2, 1, (IntKind.wrap .i64 (f - 8)))] : List Ins) = proL f := by rw [w64 (n := 0 - f) (by omega) (by omega), w64 (n := f - 8) (by omega) (by omega)]; rfl
  have p0 : rd (τ := TIns) (proL f) 0 = (22, 2, 2, 0, 0 - f) := rfl
  have p1 : rd (τ := TIns) (proL f) 1 = (21, 0, 2, 1, f - 8) := rfl
  have q0 : impl_isCodeAt a = some true := by rw [codeAt_val, ha]
  rw [impl_lint_eq, q0, frame_i, hf.ok, funcSize_i, hsz, instrs_i _ (by omega) hright, impl_prologue_eq, hp]
  simp only [Option.bind_some, Bool.not_true, cond_false]
  rw [show (((proL f).length : Nat) : Int) = 2 from rfl, impl_lint.l1111010_eq, b0, p0]
  simp only [show decide ((0 : Int) < 2) = true from rfl, cond_true]
  rw [inL_true (i := 0) (by omega) (by simp [proL]), inL_true (i := 0) (by omega) (by omega), show eqD TIns (((22, 2, 2, 0, 0 - f) : Ins)) ((22, 2, 2, 0, 0 - f) : Ins) = true by rw [eqD_ins]; simp]
  simp only [cond_true, Bool.not_true, cond_false]
  rw [show IntKind.wrap .i64 (0 + 1) = 1 by rfl, impl_lint.l1111010_eq, b1, p1]
  simp only [show decide ((1 : Int) < 2) = true from rfl, cond_true]
  rw [inL_true (i := 1) (by omega) (by simp [proL]), inL_true (i := 1) (by omega) (by omega), show eqD TIns (((21, 0, 2, 1, f - 8) : Ins)) ((21, 0, 2, 1, f - 8) : Ins) = true by rw [eqD_ins]; simp]
  simp only [cond_true, Bool.not_true, cond_false]
  rw [show IntKind.wrap .i64 (1 + 1) = 2 by rfl, impl_lint.l1111010_eq]
  have hl1 : IntKind.wrap .i64 (((funL f b).length : Int) - 1) = ((b.length + 4 : Nat) : Int) := by rw [w64 (by omega) (by omega)]; omega
  simp only [show decide ((2 : Int) < 2) = false from rfl, cond_false, joinB]
  rw [hl1, b2, inL_true (by omega) (by omega)]
  simp only [cond_true]
  rw [Int.toNat_natCast, room_le (by omega) (by omega), decide_eq_true (show (0 : Int) ≤ ((funL f b).length : Int) by omega)]
  simp only [cond_true, Bool.and_self]
  obtain ⟨E, hE0, e⟩ := lint_ends a calls (funL f b) f ⟨hfr.1, hfr.2.1⟩ (by omega) (by omega) ((funL f b).length - 4) 2 (List.replicate (funL f b).length 0) (by omega) (by omega) ⟨by simp, fun j hj => by
    rw [List.getElem?_replicate, if_pos hj]
    unfold endV
    have z : ∀ m : Int, m < ((2 : Nat) : Int) → endsI (funL f b) f m = false := by
      intro m hm
      unfold endsI
      rw [show decide (2 ≤ m) = false by simp; omega]; simp
    rw [if_neg (fun h => by rw [z _ h.1] at h; cases h.2), if_neg (fun h => by rw [z _ h.1] at h; cases h.2), if_neg (fun h => by rw [z _ h.1] at h; cases h.2)]⟩
  rw [show ((2 : Nat) : Int) = 2 by rfl] at e
  rw [e]
  have loop : ∀ (k i : Nat), i + k = b.length + 5 → 2 ≤ i → impl_lint.l111111111010 (funL f b) (funL f b, f, a, calls, E) (i : Int) = some (0, 0) := by
    intro k
    induction k with
    | zero =>
      intro i hi _
      rw [impl_lint.l111111111010_eq, decide_eq_false (by omega)]; rfl
    | succ k ih =>
      intro i hi h2
      obtain ⟨x, hx, hr⟩ := rd_get (xs := funL f b) (i := i) (by omega)
      have hE := ends_funL hD hf h
      have hrule : impl_linting_fault (funL f b, f, a, calls, E) (i : Int) = some 0 := by
        have R := fault_zero (funL f b) f a calls E hE0 ⟨hfr.1, hfr.2.1⟩ har (by omega) hc i (by omega) (by omega) x hr (right_ins (hright x (List.mem_of_getElem? hx)))
        rcases funL_cases f b i x hx with ⟨hi', rfl⟩ | ⟨hi', rfl⟩ | ⟨j, hi', hj, hb⟩ | ⟨hi', rfl⟩ | ⟨hi', rfl⟩ | ⟨hi', rfl⟩
        · omega
        · omega
        · rcases h.ins hD hf j x hb with ⟨m, rfl, hm⟩ | ⟨_, g3, g4, g5, g6, g7, g8⟩
          · refine R (fun e => by simp at e) (fun _ => ⟨rfl, ?_⟩) (fun e => by simp at e) (fun e => absurd rfl e) (fun e => absurd rfl e) (fun e => by simp at e)
            have e2 : a + 4 * (i : Int) + m = a + 4 * (2 + (j : Int)) + m := by omega
            show a + 4 * (i : Int) + m ∈ calls
            rw [e2]; exact (hC _ _ hm).2
          · refine R (fun e => absurd e g4) (fun e => absurd e g3) (fun e e' => ?_) (fun _ _ e => absurd e g5) (fun _ _ e => absurd e g6) (fun e e' e2 => .inr (g8 e e' e2))
            obtain ⟨t1, t2, t3⟩ := g7 e e'
            rw [hE, hE]
            exact ⟨t1, by omega, by omega, decide_eq_false (by omega), decide_eq_false (by omega)⟩
        · exact R (fun e => by simp at e) (fun e => by simp at e) (fun _ e => by simp at e) (fun _ _ _ => by rw [hE]; exact decide_eq_true (by omega)) (fun _ _ e => by simp at e) (fun _ _ _ => .inl (by rw [hE]; exact decide_eq_true (by omega)))
        · exact R (fun e => by simp at e) (fun e => by simp at e) (fun _ e => by simp at e) (fun _ _ e => by simp at e) (fun _ _ _ => by rw [hE]; exact decide_eq_true (by omega)) (fun _ e => by simp at e)
        · exact R (fun _ => by rw [hE]; exact decide_eq_true (by omega)) (fun e => by simp at e) (fun e => by simp at e) (fun _ e => absurd rfl e) (fun _ e => absurd rfl e) (fun e => by simp at e)
      rw [impl_lint.l111111111010_eq, decide_eq_true (by omega), hrule, w64_succ i (b.length + 5) (by omega) (by omega)]
      simp only [cond_true, Option.bind_some, decide_true, Bool.not_true, cond_false]
      exact ih (i + 1) (by omega) (by omega)
  exact loop (b.length + 3) 2 (by omega) (by omega)
theorem ImgD.entries_i {im : Img} {gs : List Fn} {w c : Int} (h : ImgD im gs w c) : ∃ l, impl_Image_functions im = some l ∧ l.length ≤ 16 ∧ ∀ t : Nat, t < gs.length → 4096 + 4 * (offF gs t : Int) ∈ l := by
  have hz := h.sz
  have ht := h.total
  have key : ∀ (k i : Nat) (l : List Int), i + k = im.2.2.length → l.length ≤ i → (∀ t : Nat, t < gs.length → t < i → 4096 + 4 * (offF gs t : Int) ∈ l) → ∃ l', impl_Image_functions.l11010 l im.2.2 (im.2.2.length : Int) (i : Int) = some l' ∧ l'.length ≤ im.2.2.length ∧ ∀ t : Nat, t < gs.length → 4096 + 4 * (offF gs t : Int) ∈ l' := by
    intro k
    induction k with
    | zero =>
      intro i l hi hl hm
      rw [impl_Image_functions.l11010_eq, lt_nat, decide_eq_false (by omega)]
      have := h.slen
      exact ⟨l, rfl, by omega, fun t ht => hm t ht (by omega)⟩
    | succ k ih =>
      intro i l hi hl hm
      have hil : i < im.2.2.length := by omega
      have hn := hz.n
      rw [impl_Image_functions.l11010_eq, lt_nat, decide_eq_true hil, inL_nat, decide_eq_true hil, w64_succ i _ hil (by omega)]
      simp only [cond_true]
      by_cases hg : i < gs.length
      · have ho := offF_mono gs i
        rw [h.rd_f i gs[i] (by simp [hg]), impl_Symbol_address_eq]
        simp only [decide_true, cond_true, Option.bind_some]
        rw [w64 (n := 4096 + 4 * (offF gs i : Int)) (by omega) (by omega), room_le (by simp; omega) (by simp; omega)]
        exact ih (i + 1) _ (by omega) (by simp; omega) (fun t ht hti => by
          by_cases e : t = i
          · subst e; simp
          · exact List.mem_append_left _ (hm t ht (by omega)))
      · rw [decide_eq_false (show ¬ (rd (τ := TSym) im.2.2 (i : Int)).2.1 = 1 by rw [h.rd_d i (by omega) hil]; decide)]
        exact ih (i + 1) l (by omega) (by omega) (fun t ht hti => hm t ht (by omega))
  obtain ⟨l, h1, h2, h3⟩ := key im.2.2.length 0 [] (by omega) (by simp) (by simp)
  exact ⟨l, (impl_Image_functions_eq _).trans h1, by have := hz.n; omega, h3⟩
theorem ImgD.at_ok {im : Img} {gs : List Fn} {w c : Int} (h : ImgD im gs w c) (i : Nat) : codeAtV (4096 + 4 * (offF gs i : Int)) = true := by
  have ht := h.total
  have ho := offF_mono gs i
  unfold codeAtV
  rw [show (decide (0 ≤ 4096 + 4 * (offF gs i : Int)) && decide (4096 + 4 * (offF gs i : Int) ≤ 1048575)) = true by simp only [Bool.and_eq_true, decide_eq_true_eq]; omega, cond_true]
  exact decide_eq_true (Int.tmod_eq_zero_of_dvd (by omega))
theorem ImgD.fun_lint_i {im : Img} {gs : List Fn} {w c : Int} (h : ImgD im gs w c) (calls : List Int) (hl : calls.length ≤ 16) (hc : ∀ t : Nat, t < gs.length → 4096 + 4 * (offF gs t : Int) ∈ calls) (i : Nat) (p : Fn) (hp : gs[i]? = some p) : impl_lint (codeOf p.2) (4096 + 4 * (offF gs i : Int)) p.1 calls = some (0, 0) := by
  obtain ⟨hf, b, e, hd, h1, h2⟩ := h.funs i p hp
  have ht := h.total
  have ho := offF_mono gs i
  rw [e]
  refine impl_lint_funL (D := DatW w) (C := fun k m => CalG gs i k m ∧ 2 ≤ k ∧ k < 2 + b.length) (fun d hd => hd.ok h.hw.2) (fun k m hm => ?_) hf hd.bound (by omega) (h.at_ok i) (by omega)
  obtain ⟨⟨t, ht', rfl⟩, hk1, hk2⟩ := hm
  have hot := offF_mono gs t
  refine ⟨rjal (by decide) (by omega), ?_⟩
  have : 4096 + 4 * (offF gs i : Int) + 4 * k + (4 * (offF gs t : Int) - 4 * (offF gs i : Int) - 4 * k) = 4096 + 4 * (offF gs t : Int) := by omega
  rw [this]; exact hc t ht'
theorem ImgD.lint_i {im : Img} {gs : List Fn} {w c : Int} (h : ImgD im gs w c) : impl_LintImage im = some (0, 0, 0) := by
  have hz := h.sz
  obtain ⟨hn, hcs, hds⟩ := h.sz
  have ht := h.total
  have hsz := h.size
  have hsl := h.slen
  have h0 := h.hn.1
  have hE := h.chain
  rw [impl_LintImage_eq, decide_eq_false (by omega), decide_eq_false (show ¬ (im.1.size : Int) > 1024 by omega), decide_eq_false (show ¬ (im.2.1.size : Int) > 256 by omega)]
  simp only [cond_false]
  obtain ⟨l, e1, e2, e3⟩ := h.entries_i
  have funs : ∀ (k i : Nat), i + k = im.2.2.length → impl_LintImage.l111111010 im l im.2.2 (im.2.2.length : Int) (i : Int) = some (0, 0, 0) := by
    intro k
    induction k with
    | zero =>
      intro i hi
      rw [impl_LintImage.l111111010_eq, lt_nat, decide_eq_false (by omega)]; rfl
    | succ k ih =>
      intro i hi
      have hil : i < im.2.2.length := by omega
      rw [impl_LintImage.l111111010_eq, lt_nat, decide_eq_true hil, inL_nat, decide_eq_true hil, w64_succ i _ hil (by omega)]
      simp only [cond_true]
      by_cases hg : i < gs.length
      · have hgi : gs[i]? = some gs[i] := by simp [hg]
        obtain ⟨t1, t2⟩ := off_total gs i gs[i] hgi
        have hcut := h.cut i gs[i] hgi
        rw [h.rd_f i gs[i] hgi]
        simp only [decide_true, Bool.not_true, cond_false]
        rw [w64 (n := 4 * (offF gs i : Int) + 4 * (gs[i].2.length : Int)) (by omega) (by omega), show (decide (0 ≤ 4 * (offF gs i : Int)) && decide (4 * (offF gs i : Int) ≤ 4 * (offF gs i : Int) + 4 * (gs[i].2.length : Int)) && decide (4 * (offF gs i : Int) + 4 * (gs[i].2.length : Int) ≤ (im.1.size : Int))) = true by simp only [Bool.and_eq_true, decide_eq_true_eq]; omega, impl_Symbol_address_eq]
        simp only [decide_true, cond_true, Option.bind_some]
        rw [w64 (n := 4096 + 4 * (offF gs i : Int)) (by omega) (by omega), show (4 * (offF gs i : Int)).toNat = 4 * offF gs i by omega, show (4 * (offF gs i : Int) + 4 * (gs[i].2.length : Int)).toNat = 4 * offF gs i + 4 * gs[i].2.length by omega, hcut, h.fun_lint_i l e2 e3 i gs[i] hgi]
        exact ih (i + 1) (by omega)
      · rw [decide_eq_false (show ¬ (rd (τ := TSym) im.2.2 (i : Int)).2.1 = 1 by rw [h.rd_d i (by omega) hil]; decide)]
        exact ih (i + 1) (by omega)
  have key : ∀ (k i : Nat), i + k = im.2.2.length → impl_LintImage.l111010 im (endE gs w c i) (im.2.2.length : Int) (i : Int) = some (0, 0, 0) := by
    intro k
    induction k with
    | zero =>
      intro i hi
      have : i = im.2.2.length := by omega
      subst this
      rw [impl_LintImage.l111010_eq, lt_nat, decide_eq_false (Nat.lt_irrefl _), decide_eq_false (show ¬ (im.2.2.length : Int) = 0 by omega), inL_true (i := 0) (by omega) (by omega), decide_eq_true h.first, decide_eq_true h.end, e1]
      exact funs im.2.2.length 0 (by omega)
    | succ k ih =>
      intro i hi
      have hl : i < im.2.2.length := by omega
      rw [impl_LintImage.l111010_eq, lt_nat, decide_eq_true hl, impl_lintS im hz i hl (endE gs w c i) (hE.2.1 i (by omega)), hE.2.2 i hl hl, w64_succ i _ hl (by omega)]
      exact ih (i + 1) (by omega)
  have := key im.2.2.length 0 (by omega)
  rw [hE.1] at this
  exact this
theorem ImgD.imgok0 {im : Img} {gs : List Fn} {w c : Int} (h : ImgD im gs w c) : ImgOK0 im := by
  refine ⟨h.sz, ⟨endE gs w c, h.chain, h.end⟩, by have := h.slen; have := h.hn.1; omega, h.first, fun j hj => ?_⟩
  intro hk
  by_cases hg : j < gs.length
  · have e := h.sym_f j gs[j] (by simp [hg])
    rw [List.getElem?_eq_getElem hj] at e
    have e := Option.some.inj e
    rw [e]
    have hl := (h.funs j gs[j] (by simp [hg])).len
    refine ⟨h.at_ok j, (h.funs j gs[j] (by simp [hg])).1.ok, ?_⟩
    simp only
    rw [show (4 * (gs[j].2.length : Int)).toNat = 4 * gs[j].2.length by omega]
    unfold funcSizeV codeSizeV
    rw [show decide (((4 * gs[j].2.length : Nat) : Int).tmod 4 = 0) = true from decide_eq_true (Int.tmod_eq_zero_of_dvd (by omega)), cond_true, decide_eq_true (show ((4 * gs[j].2.length : Nat) : Int) ≤ 256 by omega), cond_true]
    exact decide_eq_true (by omega)
  · have := h.rd_d j (by omega) hj
    rw [rd_nat (τ := TSym) im.2.2 j hj] at this
    rw [this] at hk; cases hk
theorem ImgD.ok_i {im : Img} {gs : List Fn} {w c : Int} (h : ImgD im gs w c) : impl_ImageOK im = some true := by rw [impl_ImageOK_eq, h.lint_i]; rfl
theorem at_ok (l : List Int) (hb : BytP l) (hl : l.length ≤ 1048576) (k n : Int) (hk : 0 ≤ k ∧ k ≤ 1000) (hn : n ≤ 1000000) : ∃ v, laws_at l k n = some v ∧ 0 ≤ v ∧ (1 ≤ n → v < n) := by
  rw [laws_at_eq]
  by_cases h1 : n ≤ 1
  · rw [decide_eq_true h1]; exact ⟨0, rfl, by omega, by omega⟩
  · rw [decide_eq_false h1]
    simp only [cond_false]
    by_cases h0 : (l.length : Int) = 0
    · rw [decide_eq_true h0, decide_eq_false (show ¬ n = 0 by omega), w64 (n := k * 7) (by omega) (by omega)]
      refine ⟨_, rfl, ?_, fun _ => ?_⟩ <;> rw [Int.tmod_eq_emod_of_nonneg (by omega)]
      · exact Int.emod_nonneg _ (by omega)
      · exact Int.emod_lt_of_pos _ (by omega)
    · have ht : ∀ m : Int, 0 ≤ m → 0 ≤ m.tmod (l.length : Int) ∧ m.tmod (l.length : Int) < (l.length : Int) := fun m hm => by
        rw [Int.tmod_eq_emod_of_nonneg hm]
        exact ⟨Int.emod_nonneg _ (by omega), Int.emod_lt_of_pos _ (by omega)⟩
      have hby : ∀ m : Int, 0 ≤ m → m < (l.length : Int) → ∃ v : Int, rd (τ := .int .u8) l m = v ∧ 0 ≤ v ∧ v ≤ 255 := fun m hm hm' => by
        obtain ⟨j, rfl⟩ : ∃ j : Nat, m = j := ⟨m.toNat, by omega⟩
        rw [rd_nat (τ := .int .u8) l j (by omega)]
        exact ⟨_, rfl, hb _ (List.getElem_mem _)⟩
      obtain ⟨t1, t2⟩ := ht k hk.1
      obtain ⟨t3, t4⟩ := ht (k + 1) (by omega)
      obtain ⟨A, eA, r1, r2⟩ := hby _ t1 t2
      obtain ⟨B, eB, r3, r4⟩ := hby _ t3 t4
      have hd : 0 ≤ k.tdiv (l.length : Int) ∧ k.tdiv (l.length : Int) ≤ k := by
        rw [Int.tdiv_eq_ediv_of_nonneg hk.1]
        exact ⟨Int.ediv_nonneg hk.1 (by omega), Int.ediv_le_self _ hk.1⟩
      rw [decide_eq_false h0, decide_eq_false (show ¬ n = 0 by omega), w64 (n := k + 1) (by omega) (by omega), inL_true t1 t2, inL_true t3 t4]
      simp only [cond_false, cond_true]
      rw [eA, eB]
      generalize k.tdiv (l.length : Int) = D at *
      rw [w64 (n := A) (by omega) (by omega), w64 (n := B) (by omega) (by omega), w64 (n := A * 31) (by omega) (by omega), w64 (n := A * 31 + B) (by omega) (by omega), w64 (n := D) (by omega) (by omega), w64 (n := A * 31 + B + D) (by omega) (by omega)]
      refine ⟨_, rfl, ?_, fun _ => ?_⟩ <;> rw [Int.tmod_eq_emod_of_nonneg (by omega)]
      · exact Int.emod_nonneg _ (by omega)
      · exact Int.emod_lt_of_pos _ (by omega)
theorem entOK_i (e : Ent) : impl_Entry_ok e = some (entOKV e) := by
  rw [impl_Entry_ok_eq]
  unfold entOKV
  rw [name_i, codeAt_val, in_i, in_i, frame_i]
  unfold codeAtV kindV
  simp only [Option.bind_some]
  cases nameV e.1 <;> cases (decide ((0 : Int) ≤ e.2.2.1) && decide (e.2.2.1 ≤ 1048575)) <;> cases decide (e.2.2.1.tmod 4 = 0) <;> cases inR e.2.2.2.1 1 1024 <;> cases inR e.2.2.2.2.2 0 6 <;> cases decide (e.2.1 = 1) <;> cases frameV e.2.2.2.2.1 <;> cases decide (e.2.1 = 2) <;> rfl
theorem ent_i (l : List Ent) (name : ByteArray) (hl : l.length ≤ 1048576) : impl_entryNamed l name = some (entV l name) := by
  rw [impl_entryNamed_eq, slices_IndexFunc_impl_Entry_impl_entryNamed_1_eq]
  unfold entV
  rw [loop_find0 (L := slices_IndexFunc_impl_Entry_impl_entryNamed_1.l1010 name l (l.length : Int)) (fun i => decide ((rd (τ := TEnt) l (i : Int)).1 = name)) l.length ?_ fun i hi => ?_]
  · rfl
  · rw [slices_IndexFunc_impl_Entry_impl_entryNamed_1.l1010_eq, lt_nat]; simp
  · rw [slices_IndexFunc_impl_Entry_impl_entryNamed_1.l1010_eq, lt_nat, inL_nat, decide_eq_true hi, w64_succ i l.length hi (by omega), impl_entryNamed_1_eq, strEq_dec]
    simp only [cond_true, Option.bind_some]
theorem table_i (l : List Ent) : impl_TableOK l = some (tabV l) := by
  rw [impl_TableOK_eq]
  unfold tabV
  rcases Nat.lt_or_ge 64 l.length with h | h
  · rw [show decide ((l.length : Int) > 64) = true by simp; omega, decide_eq_false (show ¬ l.length ≤ 64 by omega)]; rfl
  rw [show decide ((l.length : Int) > 64) = false by simp; omega, decide_eq_true h, cond_false, Bool.true_and]
  refine loop_all0 (L := impl_TableOK.l11010 l l (l.length : Int)) (tabP l) l.length ?_ fun i hi => ?_
  · rw [impl_TableOK.l11010_eq, lt_nat]; simp
  · rw [impl_TableOK.l11010_eq, lt_nat, inL_nat, decide_eq_true hi, w64_succ i l.length hi (by omega), entOK_i, take_drop0, range_true i _ (by omega), ent_i _ _ (by simp; omega)]
    unfold tabP
    rw [lt_not_ge]
    simp only [cond_true, Option.bind_some]
    cases entOKV (rd (τ := TEnt) l i) <;> cases decide (entV (l.take i) (rd (τ := TEnt) l i).1 ≥ 0) <;> rfl
theorem place_i (s : Sym) : impl_Symbol_address s = some (plS s) := by
  rw [impl_Symbol_address_eq]
  unfold plS
  cases decide (s.2.1 = 1) <;> rfl
theorem imgT_i (im : Img) (hn : im.2.2.length ≤ 16) : impl_imageTable im = some (imgT im) := by
  rw [impl_imageTable_eq, loop_map0 (L := fun acc i => impl_imageTable.l11010 acc im.2.2 (im.2.2.length : Int) i) (entI im) im.2.2.length [] fun acc i hi ha => ?_]
  · rw [impl_imageTable.l11010_eq, lt_nat, decide_eq_false (Nat.lt_irrefl _), cond_false, List.nil_append]; rfl
  · show impl_imageTable.l11010 acc im.2.2 (im.2.2.length : Int) (i : Int) = _
    rw [impl_imageTable.l11010_eq, lt_nat, inL_nat, decide_eq_true hi, w64_succ i _ hi (by omega), place_i]
    simp only [cond_true, Option.bind_some]
    rw [room56 _ (by simp at ha ⊢; omega)]; rfl
theorem imgT_length (im : Img) : (imgT im).length = im.2.2.length := mapB_length _ _ _
theorem ImgD.tab {im : Img} {gs : List Fn} {w c : Int} (h : ImgD im gs w c) : tabV (imgT im) = true := tabV_iff.2 (imgT_tab h.imgok0)
theorem BL_ok : lOK BL = true := by decide +kernel
theorem memBL_ok (F : Int → Int) : impl_MemoryOK (memF F BL) = some true := by rw [memory_i, memV_memF, BL_ok]
/-- Data that '==' tells apart. -/
def tellB : Ty → Bool
  | .bool | .str | .int _ => true
  | .pair a b => tellB a && tellB b
  | _ => false
theorem eqD_iff : ∀ (τ : Ty), tellB τ = true → ∀ x y : τ.den, eqD τ x y = true ↔ x = y
  | .bool, _, x, y => by show ((x : Bool) == y) = true ↔ _; simp
  | .str, _, x, y => by show strEq x y = true ↔ _; rw [strEq_dec, decide_eq_true_eq]
  | .int k, _, x, y => by show decide ((x : Int) = y) = true ↔ _; rw [decide_eq_true_eq]
  | .pair a b, h, x, y => by
    have h' : tellB a = true ∧ tellB b = true := by simpa [tellB] using h
    show (eqD a x.1 y.1 && eqD b x.2 y.2) = true ↔ _
    rw [Bool.and_eq_true, eqD_iff a h'.1, eqD_iff b h'.2]
    exact ⟨fun ⟨h1, h2⟩ => Prod.ext h1 h2, fun h => by rw [h]; exact ⟨rfl, rfl⟩⟩
  | .unit, h, _, _ => by cases h
  | .list _, h, _, _ => by cases h
  | .arr _ _, h, _, _ => by cases h
  | .opt _, h, _, _ => by cases h
theorem own_threads (l : List Thr) (h : l.length ≤ 1048576) (hb : ∀ x ∈ l, x.2.2.1.length ≤ 1048576) : impl_ownThreads l = some l := by
  have : ownOK l = true := by
    unfold ownOK
    rw [room_le (by omega) (by omega), Bool.true_and, List.all_eq_true]
    intro x hx
    have := hb x hx
    exact room_le (by omega) (by omega)
  rw [impl_ownThreads_eq, this]; rfl
theorem hart_i (h : List Int × Int) : impl_HartOK h = some (hartV h) := by rw [impl_HartOK_eq]; rfl
theorem thr_i (t : Thr) : impl_Thread_ok t = some (thrV t) := by
  rw [impl_Thread_ok_eq, within_val, within_val, hart_i]
  unfold thrV joinB inR
  simp only [Option.bind_some]
  cases decide (1 ≤ t.1) && decide (t.1 ≤ 3) <;> cases hartV t.2.1 <;> cases decide ((t.2.2.1.length : Int) ≤ 32) <;> cases decide (t.1 = 3) <;> rfl
theorem threads_i (l : List Thr) : impl_threadsOK l = some (thrsV l) := by
  rw [impl_threadsOK_eq, within_val]
  unfold thrsV
  show (some (inR (l.length : Int) 1 4)).bind _ = _
  simp only [Option.bind_some]
  cases h : inR (l.length : Int) 1 4 with
  | false => rfl
  | true =>
    have hl : l.length ≤ 4 := by rw [inR_iff] at h; omega
    rw [slices_ContainsFunc_impl_Thread_impl_threadsOK_1_eq, slices_IndexFunc_impl_Thread_impl_threadsOK_1_eq, loop_find0 (L := slices_IndexFunc_impl_Thread_impl_threadsOK_1.l1010 l (l.length : Int)) (fun i => !thrV (rd (τ := TThr) l (i : Int))) l.length ?_ fun i hi => ?_]
    · simp only [Option.bind_some, cond_true, Bool.true_and]
      rw [find_all]; simp
    · rw [slices_IndexFunc_impl_Thread_impl_threadsOK_1.l1010_eq, lt_nat]; simp
    · rw [slices_IndexFunc_impl_Thread_impl_threadsOK_1.l1010_eq, lt_nat, inL_nat, decide_eq_true hi, w64_succ i l.length hi (by omega), impl_threadsOK_1_eq, thr_i]
      simp only [cond_true, Option.bind_some]
theorem thrs_of {l : List Thr} (h : 1 ≤ l.length ∧ l.length ≤ 4) (ht : ∀ t ∈ l, thrV t = true) : thrsV l = true := by
  unfold thrsV
  rw [Bool.and_eq_true, inR_iff, allB_iff]
  exact ⟨by omega, fun j h1 h2 => ht _ (rd_mem_list (τ := TThr) l j (by omega))⟩
/-- The machine of an image with other threads. -/
noncomputable def mkM (im : Img) (T : List Thr) : Mac := (memF (F0 im) BL, T, imgT im, [])
theorem newM_i {im : Img} {gs : List Fn} {w c : Int} (h : ImgD im gs w c) : ∃ pc : Int, impl_newMachine im = some (mkM im [(1, ((List.replicate 32 0).set 2 33280, pc), [], 0)]) := by
  have hz := h.sz
  have h0 := h.hn
  have hs := h.slen
  refine ⟨plS (rd (τ := TSym) im.2.2 0), ?_⟩
  rw [impl_newMachine_eq, impl_loaded im hz.c hz.d, imgT_i im hz.n, place_i, impl_stackTop_eq, inL_true (i := 0) (by omega) (by omega)]
  simp only [Option.bind_some, cond_true]
  rw [impl_NewHart_eq]
  rfl
theorem rd0 {τ : Ty} (x : τ.den) (l : List τ.den) : rd (τ := τ) (x :: l) 0 = x := rfl
theorem inL0 {α : Type} (x : α) (l : List α) : inL 0 (x :: l).length = true := inL_true (by omega) (by simp only [List.length_cons]; omega)
theorem thrV_run {R out : List Int} {pc : Int} (h0 : R.getD 0 0 = 0) (ho : out.length ≤ 32) : thrV (1, (R, pc), out, 0) = true := by
  unfold thrV hartV
  simp only
  rw [show rd (τ := .int .i64) R 0 = (0 : Int) from h0, decide_eq_true (show (out.length : Int) ≤ 32 by omega)]
  rfl
theorem getD_set_ne {R : List Int} {i j : Nat} {v : Int} (h : i ≠ j) : (R.set i v).getD j 0 = R.getD j 0 := by
  rw [List.getD_eq_getElem?_getD, List.getD_eq_getElem?_getD, List.getElem?_set_ne h]
theorem getD_set_eq {R : List Int} {i : Nat} {v : Int} (h : i < R.length) : (R.set i v).getD i 0 = v := by
  rw [List.getD_eq_getElem?_getD, List.getElem?_set_self h]; rfl
theorem len1 {α : Type} (x : α) : (([x].length : Nat) : Int) = 1 := rfl
theorem table_same (a : List Ent) (h : a.length ≤ 1048576) : slices_Equal_impl_Entry a a = some true := by
  rw [slices_Equal_impl_Entry_eq, decide_eq_true rfl]
  simp only [Bool.not_true, cond_false]
  have key : ∀ (k i : Nat), i + k = a.length → slices_Equal_impl_Entry.l11010 a a (a.length : Int) (i : Int) = some true := by
    intro k
    induction k with
    | zero => intro i hi; have : i = a.length := by omega
              subst this; rw [slices_Equal_impl_Entry.l11010_eq, lt_nat, decide_eq_false (Nat.lt_irrefl _)]; rfl
    | succ k ih =>
      intro i hi
      have hi' : i < a.length := by omega
      rw [slices_Equal_impl_Entry.l11010_eq, lt_nat, inL_nat, decide_eq_true hi', w64_succ i _ hi' (by omega)]
      simp only [cond_true]
      rw [(eqD_iff TEnt rfl _ _).2 rfl]
      exact ih (i + 1) (by omega)
  exact key a.length 0 (by omega)
theorem pages_like (a : List Page) (h : a.length ≤ 1048576) : impl_likePages a a = some true := by
  rw [impl_likePages_eq, slices_EqualFunc_impl_Page_impl_likePages_1_eq, decide_eq_true rfl]
  simp only [Bool.not_true, cond_false]
  have key : ∀ (k i : Nat), i + k = a.length → slices_EqualFunc_impl_Page_impl_likePages_1.l11010 a a (a.length : Int) (i : Int) = some true := by
    intro k
    induction k with
    | zero => intro i hi; have : i = a.length := by omega
              subst this; rw [slices_EqualFunc_impl_Page_impl_likePages_1.l11010_eq, lt_nat, decide_eq_false (Nat.lt_irrefl _)]; rfl
    | succ k ih =>
      intro i hi
      have hi' : i < a.length := by omega
      rw [slices_EqualFunc_impl_Page_impl_likePages_1.l11010_eq, lt_nat, inL_nat, decide_eq_true hi', w64_succ i _ hi' (by omega), impl_likePages_1_eq, strEq_dec]
      simp only [cond_true, decide_true]
      have := ih (i + 1) (by omega)
      cases decide ((rd (τ := TPage) a (i : Int)).2.1 = 4) <;> exact this
  have := key a.length 0 (by omega)
  rw [show ((0 : Nat) : Int) = 0 from rfl] at this
  rw [this]; rfl
theorem pieces_p (im : Img) (hn : im.2.2.length ≤ 16) : impl_imagePieces im = some (imgP im) := by
  rw [impl_imagePieces_eq, loop_filt0 (L := fun acc i => impl_imagePieces.l11010 acc im.2.2 (im.2.2.length : Int) i) (fun i => decide ((rd (τ := TSym) im.2.2 (i : Int)).2.1 = 1)) (fun i => (((i : Int), 0, plS (rd (τ := TSym) im.2.2 (i : Int)), (rd (τ := TSym) im.2.2 (i : Int)).2.2.2) : Pc)) im.2.2.length [] fun acc i hi ha => ?_]
  · rw [impl_imagePieces.l11010_eq, lt_nat, decide_eq_false (Nat.lt_irrefl _), cond_false, List.nil_append]; rfl
  · show impl_imagePieces.l11010 acc im.2.2 (im.2.2.length : Int) (i : Int) = _
    rw [impl_imagePieces.l11010_eq, lt_nat, inL_nat, decide_eq_true hi, w64_succ i _ hi (by omega), place_i]
    simp only [cond_true, Option.bind_some]
    rw [room40 _ (by simp at ha ⊢; omega)]
    cases decide ((rd (τ := TSym) im.2.2 (i : Int)).2.1 = 1) <;> rfl
/-- The machine of an image with other threads and shadow variables. -/
noncomputable def mkN (im : Img) (T : List Thr) (sh : List Sh) : Mac := (memF (F0 im) BL, T, imgT im, sh)
def ShOK (sh : List Sh) : Prop := sh = [] ∨ ∃ o id v : Int, sh = [(o, id, v)] ∧ 0 ≤ id ∧ id ≤ 255
theorem ShOK.ok {sh : List Sh} (h : ShOK sh) : impl_ShadowsOK sh = some true ∧ sh.length ≤ 1 := by
  rcases h with rfl | ⟨o, id, v, rfl, h1, h2⟩
  · rw [impl_ShadowsOK_eq, impl_ShadowsOK.l11010_eq]; exact ⟨rfl, by simp⟩
  · refine ⟨?_, by simp⟩
    rw [impl_ShadowsOK_eq, impl_ShadowsOK.l11010_eq, len1]
    show (impl_within id 0 255).bind _ = _
    rw [within_val, decide_eq_true h1, decide_eq_true h2]
    simp only [Bool.and_self, Option.bind_some, Bool.not_true, cond_false]
    rw [show decide ((0 : Int) > 0) = false from rfl, cond_false, impl_ShadowsOK.l11010_eq]
    rfl
theorem mkN_ok {im : Img} {gs : List Fn} {w c : Int} (h : ImgD im gs w c) {T : List Thr} {sh : List Sh} (hT : thrsV T = true) (hs : ShOK sh) : impl_MachineOK (mkN im T sh) = some true := by
  unfold mkN
  rw [impl_MachineOK_eq]
  simp only
  rw [memBL_ok, table_i, h.tab, hs.ok.1, threads_i, hT]
  rfl
theorem mkN_own {im : Img} {gs : List Fn} {w c : Int} (h : ImgD im gs w c) {T : List Thr} {sh : List Sh} (h1 : T.length ≤ 4) (h2 : ∀ t ∈ T, t.2.2.1.length ≤ 32) (hs : ShOK sh) : impl_Machine_own (mkN im T sh) = some (mkN im T sh) := by
  have hz := h.sz.n
  have hl := imgT_length im
  have hm : (memF (F0 im) BL).length = 36 := by simp [memF, BL_len]
  have := hs.ok.2
  unfold mkN
  rw [impl_Machine_own_eq, impl_Memory_own_eq]
  simp only
  rw [slices_Clone_impl_Page_eq, room_le (by omega) (by omega), own_threads T (by omega) (fun x hx => by have := h2 x hx; omega), slices_Clone_impl_Entry_eq, room_le (by omega) (by omega), slices_Clone_impl_Shadow_eq, room_le (by omega) (by omega)]
  rfl
theorem one_thr {R : List Int} {pc : Int} (h0 : R.getD 0 0 = 0) : thrsV [((1, (R, pc), [], 0) : Thr)] = true :=
  thrs_of (by simp) (fun x hx => by rw [List.mem_singleton] at hx; subst hx; exact thrV_run h0 (by simp))
theorem sys_lay {im : Img} {gs : List Fn} {w c : Int} (h : ImgD im gs w c) {T : List Thr} {sh : List Sh} (hT : thrsV T = true) (hs : ShOK sh) : ∃ y, impl_System_layout (im, mkN im T sh, []) = some (y, true) := by
  have hz := h.sz
  have hl := imgT_length im
  have hn := hz.n
  have hm : (memF (F0 im) BL).length = 36 := by simp [memF, BL_len]
  refine ⟨(imgT im, imgP im, memF (F0 im) BL, (8192, 1024, 8192), 20480, 256, 20480), ?_⟩
  rw [impl_System_layout_eq, impl_layoutOf_eq]
  simp only [joinB]
  rw [h.ok_i]
  simp only [Option.bind_some, Bool.not_true, cond_false]
  rw [show decide ((([] : List Pat).length : Int) > 6) = false from rfl, cond_false, impl_newLayout_eq, imgT_i im hn, pieces_p im hn, impl_loaded im hz.c hz.d]
  simp only [Option.bind_some]
  rw [impl_layoutOf.l111010_eq, show decide ((0 : Int) < (([] : List Pat).length : Int)) = false from rfl]
  simp only [cond_false, Option.bind_some, Bool.not_true]
  rw [mkN_ok h hT hs]
  simp only [Option.bind_some, Bool.not_true, cond_false]
  show (slices_Equal_impl_Entry (imgT im) (imgT im)).bind _ = _
  rw [table_same _ (by omega)]
  simp only [Option.bind_some, Bool.not_true, cond_false]
  show (impl_likePages (memF (F0 im) BL) (memF (F0 im) BL)).bind _ = _
  rw [pages_like _ (by omega)]
  rfl
theorem sys_own {im : Img} {gs : List Fn} {w c : Int} (h : ImgD im gs w c) {T : List Thr} {sh : List Sh} (h1 : T.length ≤ 4) (h2 : ∀ t ∈ T, t.2.2.1.length ≤ 32) (hs : ShOK sh) : impl_System_own (im, mkN im T sh, []) = some (im, mkN im T sh, []) := by
  have hn := h.sz.n
  rw [impl_System_own_eq, impl_Image_own_eq, slices_Clone_impl_Symbol_eq, room_le (by simp only; omega) (by simp only; omega), mkN_own h h1 h2 hs, impl_ownPatches_eq, impl_ownPatches.l11010_eq]
  rfl
theorem objs_nil : impl_objectsOK [] = some true := by
  rw [impl_objectsOK_eq, slices_ContainsFunc_string_impl_isLong_eq, slices_IndexFunc_string_impl_isLong_eq, slices_IndexFunc_string_impl_isLong.l1010_eq]
  rfl
theorem search_nil (x : Sh) : slices_BinarySearchFunc_impl_Shadow_impl_compareShadows [] x = some (0, false) := by
  rw [slices_BinarySearchFunc_impl_Shadow_impl_compareShadows_eq, slices_BinarySearchFunc_impl_Shadow_impl_compareShadows.l11100_eq]
  rfl
theorem lexV_self (o id v v' : Int) : lexV (o, id, v) (o, id, v') = 0 := by
  unfold lexV cmpV
  simp
theorem shcmp_i (a b : Sh) : impl_compareShadows a b = some (lexV a b) := by
  rw [impl_compareShadows_eq, cmp_val, cmp_val]
  simp only [Option.bind_some]
  rw [or2_val]; rfl
theorem search_one (o id v v' : Int) : slices_BinarySearchFunc_impl_Shadow_impl_compareShadows [(o, id, v)] (o, id, v') = some (0, true) := by
  have hc : impl_compareShadows (o, id, v) (o, id, v') = some 0 := by rw [shcmp_i, lexV_self]
  have e0 : (IntKind.wrap .i64 (shrI .u64 (IntKind.wrap .u64 (IntKind.wrap .i64 ((0 : Int) + 1))) 1)) = 0 := by decide
  rw [slices_BinarySearchFunc_impl_Shadow_impl_compareShadows_eq, len1, slices_BinarySearchFunc_impl_Shadow_impl_compareShadows.l11100_eq, e0, show decide ((0 : Int) < 1) = true from rfl, cond_true, inL0, cond_true]
  show (impl_compareShadows (o, id, v) (o, id, v')).bind _ = _
  rw [hc]
  simp only [Option.bind_some]
  rw [show decide ((0 : Int) < 0) = false from rfl, cond_false, slices_BinarySearchFunc_impl_Shadow_impl_compareShadows.l11100_eq, show decide ((0 : Int) < 0) = false from rfl, show decide ((0 : Int) < 1) = true from rfl, cond_false, cond_true, inL0, cond_true]
  show (impl_compareShadows (o, id, v) (o, id, v')).bind _ = _
  rw [hc]
  rfl
theorem check_sh {sh : List Sh} (h : ShOK sh) (id : Int) (h1 : 0 ≤ id) (h2 : id ≤ 255) : impl_checkShadows sh id = some 0 := by
  have := h.ok
  rw [impl_checkShadows_eq, decide_eq_false (show ¬ (sh.length : Int) > 4096 by omega), this.1, within_val, decide_eq_true h1, decide_eq_true h2]
  rfl
theorem alloc_nil (o id v : Int) (h1 : 0 ≤ id) (h2 : id ≤ 255) : impl_AllocShadow [] o id v = some ([(o, id, v)], 0) := by
  rw [impl_AllocShadow_eq, check_sh (.inl rfl) id h1 h2]
  simp only [Option.bind_some, decide_true, Bool.not_true, cond_false]
  rw [impl_shadowAt_eq, search_nil]
  simp only [Option.bind_some, cond_false]
  rw [show decide ((([] : List Sh).length : Int) = 16) = false from rfl, cond_false, slices_Clone_impl_Shadow_eq, room_le (by simp) (by simp)]
  simp only [cond_true, Option.bind_some]
  rw [slices_Insert_impl_Shadow_eq, room_le (by simp) (by simp)]
  rfl
theorem get_one (o id v : Int) (h1 : 0 ≤ id) (h2 : id ≤ 255) : impl_GetShadow [(o, id, v)] o id = some (v, 0) := by
  rw [impl_GetShadow_eq, check_sh (.inr ⟨o, id, v, rfl, h1, h2⟩) id h1 h2]
  simp only [Option.bind_some, decide_true, Bool.not_true, cond_false]
  rw [impl_shadowAt_eq, search_one]
  simp only [Option.bind_some, Bool.not_true, cond_false]
  rw [inL0]; rfl
theorem get_nil (o id : Int) (h1 : 0 ≤ id) (h2 : id ≤ 255) : impl_GetShadow [] o id = some (0, 5) := by
  rw [impl_GetShadow_eq, check_sh (.inl rfl) id h1 h2]
  simp only [Option.bind_some, decide_true, Bool.not_true, cond_false]
  rw [impl_shadowAt_eq, search_nil]
  rfl
theorem free_one (o id v : Int) (h1 : 0 ≤ id) (h2 : id ≤ 255) : impl_FreeShadow [(o, id, v)] o id = some ([], 0) := by
  rw [impl_FreeShadow_eq, check_sh (.inr ⟨o, id, v, rfl, h1, h2⟩) id h1 h2]
  simp only [Option.bind_some, decide_true, Bool.not_true, cond_false]
  rw [slices_Clone_impl_Shadow_eq, room_le (by simp) (by simp)]
  simp only [Option.bind_some, cond_true]
  rw [impl_shadowAt_eq, search_one]
  simp only [Option.bind_some, Bool.not_true, cond_false]
  rw [slices_Delete_impl_Shadow_eq]
  rfl
theorem ec_6 {im : Img} (R : List Int) (pc : Int) (sh : List Sh) (o id v : Int) (h17 : R.getD 17 0 = 6) (h10 : R.getD 10 0 = o) (h11 : R.getD 11 0 = id) (hg : impl_GetShadow sh o id = some (v, 0)) :
    impl_Machine_ecall (mkN im [(1, (R, pc), [], 0)] sh) 0 = some (mkN im [(1, ((R.set (Int.toNat 10) v).set (Int.toNat 11) 0, IntKind.wrap .i64 (pc + 4)), [], 0)] sh) := by
  unfold mkN
  rw [impl_Machine_ecall_eq]
  simp only
  rw [inL0, rd0]
  simp only [cond_true, show inL 10 32 = true from rfl, show inL 17 32 = true from rfl, show inL 11 32 = true from rfl, show inL 12 32 = true from rfl, decide_true, joinB]
  rw [show rd (τ := .int .i64) R 17 = (6 : Int) from h17]
  show ((impl_Machine_shadow (memF (F0 im) BL, [(1, (R, pc), [], 0)], imgT im, sh) 6 (R.getD 10 0) (R.getD 11 0) (R.getD 12 0)).bind _) = _
  rw [h10, h11, impl_Machine_shadow_eq]
  show (((impl_GetShadow sh o id).bind _).bind _) = _
  rw [hg]
  simp only [Option.bind_some, decide_true, cond_true]
  rfl
theorem ec_10 {im : Img} (R : List Int) (pc : Int) (sh sh' : List Sh) (o id : Int) (h17 : R.getD 17 0 = 10) (h10 : R.getD 10 0 = o) (h11 : R.getD 11 0 = id) (hg : impl_FreeShadow sh o id = some (sh', 0)) :
    impl_Machine_ecall (mkN im [(1, (R, pc), [], 0)] sh) 0 = some (mkN im [(1, ((R.set (Int.toNat 10) 0).set (Int.toNat 11) 0, IntKind.wrap .i64 (pc + 4)), [], 0)] sh') := by
  unfold mkN
  rw [impl_Machine_ecall_eq]
  simp only
  rw [inL0, rd0]
  simp only [cond_true, show inL 10 32 = true from rfl, show inL 17 32 = true from rfl, show inL 11 32 = true from rfl, show inL 12 32 = true from rfl, decide_true, joinB]
  rw [show rd (τ := .int .i64) R 17 = (10 : Int) from h17]
  show ((impl_Machine_shadow (memF (F0 im) BL, [(1, (R, pc), [], 0)], imgT im, sh) 10 (R.getD 10 0) (R.getD 11 0) (R.getD 12 0)).bind _) = _
  rw [h10, h11, impl_Machine_shadow_eq]
  show (((impl_FreeShadow sh o id).bind _).bind _) = _
  rw [hg]
  simp only [Option.bind_some, decide_true, cond_true]
  rfl
theorem run_n {im : Img} {t : Thr} {sh : List Sh} (ht : t.1 = 1) : impl_Machine_isRunning (mkN im [t] sh) 0 = some 0 := by
  unfold mkN
  rw [impl_Machine_isRunning_eq]
  simp only
  rw [within_val, len1, inL0, rd0, ht]
  rfl
theorem ecall_n {im : Img} {gs : List Fn} {w c : Int} (h : ImgD im gs w c) {R : List Int} {pc : Int} {sh : List Sh} {M : Mac} (h0 : R.getD 0 0 = 0) (hs : ShOK sh) (he : impl_Machine_ecall (mkN im [(1, (R, pc), [], 0)] sh) 0 = some M) :
    impl_EcallOf (memF (F0 im) BL, [(1, (R, pc), [], 0)], imgT im, sh) 0 = some (M, 0) := by
  have := impl_EcallOf_eq (mkN im [(1, (R, pc), [], 0)] sh) 0
  rw [mkN_ok h (one_thr h0) hs, mkN_own h (by simp) (fun x hx => by rw [List.mem_singleton] at hx; subst hx; simp) hs, run_n rfl] at this
  simp only [Option.bind_some, Bool.not_true, cond_false, decide_true, cond_true] at this
  rw [he] at this
  exact this
theorem act_5 {im : Img} {gs : List Fn} {w c : Int} (h : ImgD im gs w c) {R : List Int} {pc : Int} (h0 : R.getD 0 0 = 0) (o id v : Int) (h1 : 0 ≤ id) (h2 : id ≤ 255) :
    impl_DoAct (im, mkN im [(1, (R, pc), [], 0)] [], []) [] (5, o, id, v, (⟨#[]⟩ : ByteArray)) = some ((im, mkN im [(1, (R, pc), [], 0)] [(o, id, v)], []), 0, 0) := by
  obtain ⟨y, hy⟩ := sys_lay h (one_thr (pc := pc) h0) (.inl rfl)
  rw [impl_DoAct_eq]
  simp only [joinB]
  rw [show decide ((([] : List ByteArray).length : Int) > 4096) = false from rfl, cond_false, impl_SystemOK_eq, hy, objs_nil]
  simp only [Option.bind_some, Bool.not_true, cond_false]
  rw [impl_ActOK_eq]
  simp only [joinB]
  rw [within_val, decide_eq_true h1, decide_eq_true h2]
  simp only [Option.bind_some, Bool.and_self, cond_true, show decide ((5 : Int) = 1) = false from rfl, show decide ((5 : Int) = 2) = false from rfl, show decide ((5 : Int) = 3) = false from rfl, show decide ((5 : Int) = 4) = false from rfl, decide_true, cond_false]
  rw [strEq_dec, decide_eq_true rfl]
  simp only [Bool.not_true, cond_false]
  rw [sys_own h (by simp) (fun x hx => by rw [List.mem_singleton] at hx; subst hx; simp) (.inl rfl)]
  simp only [Option.bind_some]
  rw [impl_System_act_eq, hy]
  simp only [Option.bind_some, show decide ((5 : Int) = 1) = false from rfl, show decide ((5 : Int) = 2) = false from rfl, show decide ((5 : Int) = 3) = false from rfl, show decide ((5 : Int) = 4) = false from rfl, cond_false]
  rw [impl_shadowAct_eq]
  simp only [decide_true, cond_true]
  show ((((impl_AllocShadow [] o id v).bind _).bind _).bind _) = _
  rw [alloc_nil o id v h1 h2]
  rfl
theorem act_8 {im : Img} {gs : List Fn} {w c : Int} (h : ImgD im gs w c) {R : List Int} {pc : Int} (h0 : R.getD 0 0 = 0) (o id : Int) (h1 : 0 ≤ id) (h2 : id ≤ 255) :
    impl_DoAct (im, mkN im [(1, (R, pc), [], 0)] [], []) [] (8, o, id, 0, (⟨#[]⟩ : ByteArray)) = some ((im, mkN im [(1, (R, pc), [], 0)] [], []), 0, 5) := by
  obtain ⟨y, hy⟩ := sys_lay h (one_thr (pc := pc) h0) (.inl rfl)
  rw [impl_DoAct_eq]
  simp only [joinB]
  rw [show decide ((([] : List ByteArray).length : Int) > 4096) = false from rfl, cond_false, impl_SystemOK_eq, hy, objs_nil]
  simp only [Option.bind_some, Bool.not_true, cond_false]
  rw [impl_ActOK_eq]
  simp only [joinB]
  rw [within_val, decide_eq_true h1, decide_eq_true h2]
  simp only [Option.bind_some, Bool.and_self, cond_true, show decide ((8 : Int) = 1) = false from rfl, show decide ((8 : Int) = 2) = false from rfl, show decide ((8 : Int) = 3) = false from rfl, show decide ((8 : Int) = 4) = false from rfl, show decide ((8 : Int) = 5) = false from rfl, show decide ((8 : Int) = 6) = false from rfl, show decide ((8 : Int) = 7) = false from rfl, decide_true, cond_false]
  rw [strEq_dec, decide_eq_true rfl]
  simp only [Bool.not_true, cond_false]
  rw [sys_own h (by simp) (fun x hx => by rw [List.mem_singleton] at hx; subst hx; simp) (.inl rfl)]
  simp only [Option.bind_some]
  rw [impl_System_act_eq, hy]
  simp only [Option.bind_some, show decide ((8 : Int) = 1) = false from rfl, show decide ((8 : Int) = 2) = false from rfl, show decide ((8 : Int) = 3) = false from rfl, show decide ((8 : Int) = 4) = false from rfl, cond_false]
  rw [impl_shadowAct_eq]
  simp only [show decide ((8 : Int) = 5) = false from rfl, show decide ((8 : Int) = 6) = false from rfl, show decide ((8 : Int) = 7) = false from rfl, cond_false]
  show ((((impl_GetShadow [] o id).bind _).bind _).bind _) = _
  rw [get_nil o id h1 h2]
  simp only [Option.bind_some]
  show (((slices_Clone_impl_Shadow []).bind _).bind _).bind _ = _
  rw [slices_Clone_impl_Shadow_eq, room_le (by simp) (by simp)]
  rfl
theorem operator_law (a b : List Int) (ha : BytP a) (hb : BytP b) : laws_FnOperator a b = some true := by
  by_cases h1 : (a.length : Int) > 1048576
  · rw [laws_FnOperator_eq]; simp only [joinB]
    rw [decide_eq_true h1]; rfl
  by_cases h2 : (b.length : Int) > 1048576
  · rw [laws_FnOperator_eq]; simp only [joinB]
    rw [decide_eq_false h1, decide_eq_true h2]; rfl
  obtain ⟨im, gs, w, c, e1, h⟩ := imageDrawn_ok a ha (by omega)
  obtain ⟨pc, e2⟩ := newM_i h
  obtain ⟨o, e3, o1, o2⟩ := at_ok b hb (by omega) 0 1000 (by decide) (by decide)
  obtain ⟨id, e4, i1, i2⟩ := at_ok b hb (by omega) 1 256 (by decide) (by decide)
  have i2 := i2 (by decide)
  have i2' : id ≤ 255 := by omega
  obtain ⟨v, e5, v1, v2⟩ := at_ok b hb (by omega) 2 100000 (by decide) (by decide)
  obtain ⟨R, hR0⟩ : ∃ R : List Int, (List.replicate 32 0).set 2 33280 = R := ⟨_, rfl⟩
  have hR : R.length = 32 := by rw [← hR0]; simp
  have h0 : R.getD 0 0 = 0 := by rw [← hR0]; rfl
  have eN : impl_NewSystem im = some ((im, mkN im [(1, (R, pc), [], 0)] [], []), 0) := by
    rw [impl_NewSystem_eq, h.ok_i]
    simp only [Option.bind_some, Bool.not_true, cond_false]
    rw [impl_Image_own_eq, slices_Clone_impl_Symbol_eq, room_le (by have := h.sz.n; omega) (by have := h.sz.n; omega)]
    simp only [cond_true, Option.bind_some]
    rw [e2, hR0]; rfl
  obtain ⟨R1, hR1⟩ : ∃ R1, ((R.set (Int.toNat 17) 6).set (Int.toNat 10) o).set (Int.toNat 11) id = R1 := ⟨_, rfl⟩
  have hR1l : R1.length = 32 := by rw [← hR1, List.length_set, List.length_set, List.length_set, hR]
  have r17 : R1.getD 17 0 = 6 := by rw [← hR1, getD_set_ne (by decide), getD_set_ne (by decide)]; exact getD_set_eq (by rw [hR]; decide)
  have r10 : R1.getD 10 0 = o := by rw [← hR1, getD_set_ne (by decide)]; exact getD_set_eq (by rw [List.length_set, hR]; decide)
  have r11 : R1.getD 11 0 = id := by rw [← hR1]; exact getD_set_eq (by rw [List.length_set, List.length_set, hR]; decide)
  have r0 : R1.getD 0 0 = 0 := by rw [← hR1, getD_set_ne (by decide), getD_set_ne (by decide), getD_set_ne (by decide)]; exact h0
  obtain ⟨R2, hR2⟩ : ∃ R2, (R1.set (Int.toNat 10) v).set (Int.toNat 11) 0 = R2 := ⟨_, rfl⟩
  have hR2l : R2.length = 32 := by rw [← hR2, List.length_set, List.length_set, hR1l]
  have s10 : rd (τ := .int .i64) R2 10 = v := by rw [← hR2]; show ((R1.set (Int.toNat 10) v).set (Int.toNat 11) 0).getD 10 0 = v; rw [getD_set_ne (by decide)]; exact getD_set_eq (by rw [hR1l]; decide)
  have s11 : rd (τ := .int .i64) R2 11 = (0 : Int) := by rw [← hR2]; exact getD_set_eq (by rw [List.length_set, hR1l]; decide)
  have s0 : R2.getD 0 0 = 0 := by rw [← hR2, getD_set_ne (by decide), getD_set_ne (by decide)]; exact r0
  obtain ⟨R3, hR3⟩ : ∃ R3, ((R2.set (Int.toNat 17) 10).set (Int.toNat 10) o).set (Int.toNat 11) id = R3 := ⟨_, rfl⟩
  have hR3l : R3.length = 32 := by rw [← hR3, List.length_set, List.length_set, List.length_set, hR2l]
  have t17 : R3.getD 17 0 = 10 := by rw [← hR3, getD_set_ne (by decide), getD_set_ne (by decide)]; exact getD_set_eq (by rw [hR2l]; decide)
  have t10 : R3.getD 10 0 = o := by rw [← hR3, getD_set_ne (by decide)]; exact getD_set_eq (by rw [List.length_set, hR2l]; decide)
  have t11 : R3.getD 11 0 = id := by rw [← hR3]; exact getD_set_eq (by rw [List.length_set, List.length_set, hR2l]; decide)
  have t0 : R3.getD 0 0 = 0 := by rw [← hR3, getD_set_ne (by decide), getD_set_ne (by decide), getD_set_ne (by decide)]; exact s0
  have q0 : ((R3.set (Int.toNat 10) 0).set (Int.toNat 11) 0).getD 0 0 = 0 := by rw [getD_set_ne (by decide), getD_set_ne (by decide)]; exact t0
  obtain ⟨pc2, hpc2⟩ : ∃ p : Int, IntKind.wrap .i64 (pc + 4) = p := ⟨_, rfl⟩
  have c1 := ecall_n h (pc := pc) r0 (.inr ⟨o, id, v, rfl, i1, i2'⟩) (ec_6 (im := im) R1 pc [(o, id, v)] o id v r17 r10 r11 (get_one o id v i1 i2'))
  rw [hR2, hpc2] at c1
  have c2 := ecall_n h (pc := pc2) t0 (.inr ⟨o, id, v, rfl, i1, i2'⟩) (ec_10 (im := im) R3 pc2 [(o, id, v)] [] o id t17 t10 t11 (free_one o id v i1 i2'))
  obtain ⟨R4, hR4⟩ : ∃ R4, (R3.set (Int.toNat 10) 0).set (Int.toNat 11) 0 = R4 := ⟨_, rfl⟩
  rw [hR4] at c2 q0
  have d2 := act_8 h (pc := IntKind.wrap .i64 (pc2 + 4)) q0 o id i1 i2'
  obtain ⟨y, hy⟩ := sys_lay h (one_thr (pc := IntKind.wrap .i64 (pc2 + 4)) q0) (.inl rfl)
  rw [laws_FnOperator_eq]
  simp only [joinB]
  rw [decide_eq_false h1]
  simp only [cond_false]
  rw [decide_eq_false h2]
  simp only [cond_false]
  rw [e1]
  simp only [Option.bind_some]
  rw [eN]
  simp only [Option.bind_some]
  rw [e3]
  simp only [Option.bind_some]
  rw [e4]
  simp only [Option.bind_some]
  rw [e5]
  simp only [Option.bind_some]
  rw [act_5 h h0 o id v i1 i2']
  show ((impl_EcallOf (memF (F0 im) BL, [(1, (((R.set (Int.toNat 17) 6).set (Int.toNat 10) o).set (Int.toNat 11) id, pc), [], 0)], imgT im, [(o, id, v)]) 0).bind _) = some true
  rw [hR1, c1]
  simp only [Option.bind_some]
  show (bif !decide (rd (τ := .int .i64) R2 10 = v) then some false else (bif !decide (rd (τ := .int .i64) R2 11 = 0) then some false else ((impl_EcallOf (memF (F0 im) BL, [(1, (((R2.set (Int.toNat 17) 10).set (Int.toNat 10) o).set (Int.toNat 11) id, pc2), [], 0)], imgT im, [(o, id, v)]) 0).bind _))) = some true
  rw [s10, s11, hR3, c2]
  simp only [decide_true, Bool.not_true, cond_false, Option.bind_some]
  show ((impl_DoAct (im, mkN im [(1, (R4, IntKind.wrap .i64 (pc2 + 4)), [], 0)] [], []) [] (8, o, id, 0, (⟨#[]⟩ : ByteArray))).bind _) = some true
  rw [d2]
  simp only [Option.bind_some, decide_true, cond_true]
  rw [impl_SystemOK_eq, hy]
  rfl
end Go.Proofs.YtjebgmofebmgaaaGreat.S
