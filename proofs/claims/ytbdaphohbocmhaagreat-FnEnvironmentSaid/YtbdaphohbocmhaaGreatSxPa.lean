/- Pure sides: what the functions come to (numbers and lists alone). -/
import Derived.Test.YtbdaphohbocmhaaGreatSxP
namespace Go.Proofs.YtbdaphohbocmhaaGreat.S
open Go.Ps
set_option linter.unusedVariables false
set_option maxRecDepth 100000
theorem impl_lint_funL {f a : Int} {calls : List Int} {C : Int → Int → Prop} {D : Int → Prop} (hD : ∀ d, D d → DatP d) (hC : ∀ i m, C i m → rightV (3, 1, 0, 0, m) = true ∧ a + 4 * i + m ∈ calls) (hf : FrmP f) {b : List Ins} (h : Dpcs f C D 2 b) (hb : b.length ≤ 59) (ha : codeAtV a = true) (hc : calls.length ≤ 1048576) :
    impl_lint (codeOf (funL f b)) a f calls = some (0, 0) := by
  have hfr := hf.range
  have har := codeAtV_range ha
  have hn := funL_length f b
  have hright := funL_right hD (fun i m q => (hC i m q).1) hf h
  have hsz : funcSizeV (codeOf (funL f b)).size = true := by
    rw [codeOf_size]; unfold funcSizeV codeSizeV
    rw [show decide (((4 * (funL f b).length : Nat) : Int).tmod 4 = 0) = true from decide_eq_true (Int.tmod_eq_zero_of_dvd (by omega)), cond_true, decide_eq_true (show ((4 * (funL f b).length : Nat) : Int) ≤ 256 by omega), cond_true]
    exact decide_eq_true (by omega)
  obtain ⟨b0, b1⟩ := funL_begin f b
  obtain ⟨_, _, b2⟩ := funL_end f b
  have hp : ([(22, 2, 2, 0, (IntKind.wrap .i64 (0 - f))), (21, 0, 2, 1, (IntKind.wrap .i64 (f - 8)))] : List Ins) = proL f := by rw [w64 (n := 0 - f) (by omega) (by omega), w64 (n := f - 8) (by omega) (by omega)]; rfl
  have p0 : rd (τ := TIns) (proL f) 0 = (22, 2, 2, 0, 0 - f) := rfl
  have p1 : rd (τ := TIns) (proL f) 1 = (21, 0, 2, 1, f - 8) := rfl
  have q0 : impl_isCodeAt a = some true := by rw [codeAt_val, ha]
  rw [impl_lint_eq, q0, frame_i, hf.ok, funcSize_i, hsz, instrs_i _ (by omega) hright, impl_prologue_eq, hp]
  simp only [Option.bind_some, Bool.not_true, cond_false]
  rw [show (((proL f).length : Nat) : Int) = 2 from rfl, impl_lint.l1111010_eq, b0, p0]
  simp only [show decide ((0 : Int) < 2) = true from rfl, cond_true]
  rw [inL_true (i := 0) (by omega) (by simp [proL]), inL_true (i := 0) (by omega) (by omega), show eqD TIns (((22, 2, 2, 0, 0 - f) : Ins)) ((22, 2, 2, 0, 0 - f) : Ins) = true by rw [eqD_ins]; simp]
  simp only [cond_true, Bool.not_true, cond_false]
  rw [show IntKind.wrap .i64 (0 + 1) = 1 by rfl, impl_lint.l1111010_eq, b1, p1]
  simp only [show decide ((1 : Int) < 2) = true from rfl, cond_true]
  rw [inL_true (i := 1) (by omega) (by simp [proL]), inL_true (i := 1) (by omega) (by omega), show eqD TIns (((21, 0, 2, 1, f - 8) : Ins)) ((21, 0, 2, 1, f - 8) : Ins) = true by rw [eqD_ins]; simp]
  simp only [cond_true, Bool.not_true, cond_false]
  rw [show IntKind.wrap .i64 (1 + 1) = 2 by rfl, impl_lint.l1111010_eq]
  have hl1 : IntKind.wrap .i64 (((funL f b).length : Int) - 1) = ((b.length + 4 : Nat) : Int) := by rw [w64 (by omega) (by omega)]; omega
  simp only [show decide ((2 : Int) < 2) = false from rfl, cond_false, joinB]
  rw [hl1, b2, inL_true (by omega) (by omega)]
  simp only [cond_true]
  rw [Int.toNat_natCast, room_le (by omega) (by omega), decide_eq_true (show (0 : Int) ≤ ((funL f b).length : Int) by omega)]
  simp only [cond_true, Bool.and_self]
  obtain ⟨E, hE0, e⟩ := lint_ends a calls (funL f b) f ⟨hfr.1, hfr.2.1⟩ (by omega) (by omega) ((funL f b).length - 4) 2 (List.replicate (funL f b).length 0) (by omega) (by omega) ⟨by simp, fun j hj => by
    rw [List.getElem?_replicate, if_pos hj]
    unfold endV
    have z : ∀ m : Int, m < ((2 : Nat) : Int) → endsI (funL f b) f m = false := by
      intro m hm
      unfold endsI
      rw [show decide (2 ≤ m) = false by simp; omega]; simp
    rw [if_neg (fun h => by rw [z _ h.1] at h; cases h.2), if_neg (fun h => by rw [z _ h.1] at h; cases h.2), if_neg (fun h => by rw [z _ h.1] at h; cases h.2)]⟩
  rw [show ((2 : Nat) : Int) = 2 by rfl] at e
  rw [e]
  have loop : ∀ (k i : Nat), i + k = b.length + 5 → 2 ≤ i → impl_lint.l111111111010 (funL f b) (funL f b, f, a, calls, E) (i : Int) = some (0, 0) := by
    intro k
    induction k with
    | zero =>
      intro i hi _
      rw [impl_lint.l111111111010_eq, decide_eq_false (by omega)]; rfl
    | succ k ih =>
      intro i hi h2
      obtain ⟨x, hx, hr⟩ := rd_get (xs := funL f b) (i := i) (by omega)
      have hE := ends_funL hD hf h
      have hrule : impl_linting_fault (funL f b, f, a, calls, E) (i : Int) = some 0 := by
        have R := fault_zero (funL f b) f a calls E hE0 ⟨hfr.1, hfr.2.1⟩ har (by omega) hc i (by omega) (by omega) x hr (right_ins (hright x (List.mem_of_getElem? hx)))
        rcases funL_cases f b i x hx with ⟨hi', rfl⟩ | ⟨hi', rfl⟩ | ⟨j, hi', hj, hb⟩ | ⟨hi', rfl⟩ | ⟨hi', rfl⟩ | ⟨hi', rfl⟩
        · omega
        · omega
        · rcases h.ins hD hf j x hb with ⟨m, rfl, hm⟩ | ⟨_, g3, g4, g5, g6, g7, g8⟩
          · refine R (fun e => by simp at e) (fun _ => ⟨rfl, ?_⟩) (fun e => by simp at e) (fun e => absurd rfl e) (fun e => absurd rfl e) (fun e => by simp at e)
            have e2 : a + 4 * (i : Int) + m = a + 4 * (2 + (j : Int)) + m := by omega
            show a + 4 * (i : Int) + m ∈ calls
            rw [e2]; exact (hC _ _ hm).2
          · refine R (fun e => absurd e g4) (fun e => absurd e g3) (fun e e' => ?_) (fun _ _ e => absurd e g5) (fun _ _ e => absurd e g6) (fun e e' e2 => .inr (g8 e e' e2))
            obtain ⟨t1, t2, t3⟩ := g7 e e'
            rw [hE, hE]
            exact ⟨t1, by omega, by omega, decide_eq_false (by omega), decide_eq_false (by omega)⟩
        · exact R (fun e => by simp at e) (fun e => by simp at e) (fun _ e => by simp at e) (fun _ _ _ => by rw [hE]; exact decide_eq_true (by omega)) (fun _ _ e => by simp at e) (fun _ _ _ => .inl (by rw [hE]; exact decide_eq_true (by omega)))
        · exact R (fun e => by simp at e) (fun e => by simp at e) (fun _ e => by simp at e) (fun _ _ e => by simp at e) (fun _ _ _ => by rw [hE]; exact decide_eq_true (by omega)) (fun _ e => by simp at e)
        · exact R (fun _ => by rw [hE]; exact decide_eq_true (by omega)) (fun e => by simp at e) (fun e => by simp at e) (fun _ e => absurd rfl e) (fun _ e => absurd rfl e) (fun e => by simp at e)
      rw [impl_lint.l111111111010_eq, decide_eq_true (by omega), hrule, w64_succ i (b.length + 5) (by omega) (by omega)]
      simp only [cond_true, Option.bind_some, decide_true, Bool.not_true, cond_false]
      exact ih (i + 1) (by omega) (by omega)
  exact loop (b.length + 3) 2 (by omega) (by omega)
theorem ImgD.entries_i {im : Img} {gs : List Fn} {w c : Int} (h : ImgD im gs w c) : ∃ l, impl_Image_functions im = some l ∧ l.length ≤ 16 ∧ ∀ t : Nat, t < gs.length → 4096 + 4 * (offF gs t : Int) ∈ l := by
  have hz := h.sz
  have ht := h.total
  have key : ∀ (k i : Nat) (l : List Int), i + k = im.2.2.length → l.length ≤ i → (∀ t : Nat, t < gs.length → t < i → 4096 + 4 * (offF gs t : Int) ∈ l) → ∃ l', impl_Image_functions.l11010 l im.2.2 (im.2.2.length : Int) (i : Int) = some l' ∧ l'.length ≤ im.2.2.length ∧ ∀ t : Nat, t < gs.length → 4096 + 4 * (offF gs t : Int) ∈ l' := by
    intro k
    induction k with
    | zero =>
      intro i l hi hl hm
      rw [impl_Image_functions.l11010_eq, lt_nat, decide_eq_false (by omega)]
      have := h.slen
      exact ⟨l, rfl, by omega, fun t ht => hm t ht (by omega)⟩
    | succ k ih =>
      intro i l hi hl hm
      have hil : i < im.2.2.length := by omega
      have hn := hz.n
      rw [impl_Image_functions.l11010_eq, lt_nat, decide_eq_true hil, inL_nat, decide_eq_true hil, w64_succ i _ hil (by omega)]
      simp only [cond_true]
      by_cases hg : i < gs.length
      · have ho := offF_mono gs i
        rw [h.rd_f i gs[i] (by simp [hg]), impl_Symbol_address_eq]
        simp only [decide_true, cond_true, Option.bind_some]
        rw [w64 (n := 4096 + 4 * (offF gs i : Int)) (by omega) (by omega), room_le (by simp; omega) (by simp; omega)]
        exact ih (i + 1) _ (by omega) (by simp; omega) (fun t ht hti => by
          by_cases e : t = i
          · subst e; simp
          · exact List.mem_append_left _ (hm t ht (by omega)))
      · rw [decide_eq_false (show ¬ (rd (τ := TSym) im.2.2 (i : Int)).2.1 = 1 by rw [h.rd_d i (by omega) hil]; decide)]
        exact ih (i + 1) l (by omega) (by omega) (fun t ht hti => hm t ht (by omega))
  obtain ⟨l, h1, h2, h3⟩ := key im.2.2.length 0 [] (by omega) (by simp) (by simp)
  exact ⟨l, (impl_Image_functions_eq _).trans h1, by have := hz.n; omega, h3⟩
theorem ImgD.at_ok {im : Img} {gs : List Fn} {w c : Int} (h : ImgD im gs w c) (i : Nat) : codeAtV (4096 + 4 * (offF gs i : Int)) = true := by
  have ht := h.total
  have ho := offF_mono gs i
  unfold codeAtV
  rw [show (decide (0 ≤ 4096 + 4 * (offF gs i : Int)) && decide (4096 + 4 * (offF gs i : Int) ≤ 1048575)) = true by simp only [Bool.and_eq_true, decide_eq_true_eq]; omega, cond_true]
  exact decide_eq_true (Int.tmod_eq_zero_of_dvd (by omega))
theorem ImgD.fun_lint_i {im : Img} {gs : List Fn} {w c : Int} (h : ImgD im gs w c) (calls : List Int) (hl : calls.length ≤ 16) (hc : ∀ t : Nat, t < gs.length → 4096 + 4 * (offF gs t : Int) ∈ calls) (i : Nat) (p : Fn) (hp : gs[i]? = some p) : impl_lint (codeOf p.2) (4096 + 4 * (offF gs i : Int)) p.1 calls = some (0, 0) := by
  obtain ⟨hf, b, e, hd, h1, h2⟩ := h.funs i p hp
  have ht := h.total
  have ho := offF_mono gs i
  rw [e]
  refine impl_lint_funL (D := DatW w) (C := fun k m => CalG gs i k m ∧ 2 ≤ k ∧ k < 2 + b.length) (fun d hd => hd.ok h.hw.2) (fun k m hm => ?_) hf hd.bound (by omega) (h.at_ok i) (by omega)
  obtain ⟨⟨t, ht', rfl⟩, hk1, hk2⟩ := hm
  have hot := offF_mono gs t
  refine ⟨rjal (by decide) (by omega), ?_⟩
  have : 4096 + 4 * (offF gs i : Int) + 4 * k + (4 * (offF gs t : Int) - 4 * (offF gs i : Int) - 4 * k) = 4096 + 4 * (offF gs t : Int) := by omega
  rw [this]; exact hc t ht'
theorem ImgD.lint_i {im : Img} {gs : List Fn} {w c : Int} (h : ImgD im gs w c) : impl_LintImage im = some (0, 0, 0) := by
  have hz := h.sz
  obtain ⟨hn, hcs, hds⟩ := h.sz
  have ht := h.total
  have hsz := h.size
  have hsl := h.slen
  have h0 := h.hn.1
  have hE := h.chain
  rw [impl_LintImage_eq, decide_eq_false (by omega), decide_eq_false (show ¬ (im.1.size : Int) > 1024 by omega), decide_eq_false (show ¬ (im.2.1.size : Int) > 256 by omega)]
  simp only [cond_false]
  obtain ⟨l, e1, e2, e3⟩ := h.entries_i
  have funs : ∀ (k i : Nat), i + k = im.2.2.length → impl_LintImage.l111111010 im l im.2.2 (im.2.2.length : Int) (i : Int) = some (0, 0, 0) := by
    intro k
    induction k with
    | zero =>
      intro i hi
      rw [impl_LintImage.l111111010_eq, lt_nat, decide_eq_false (by omega)]; rfl
    | succ k ih =>
      intro i hi
      have hil : i < im.2.2.length := by omega
      rw [impl_LintImage.l111111010_eq, lt_nat, decide_eq_true hil, inL_nat, decide_eq_true hil, w64_succ i _ hil (by omega)]
      simp only [cond_true]
      by_cases hg : i < gs.length
      · have hgi : gs[i]? = some gs[i] := by simp [hg]
        obtain ⟨t1, t2⟩ := off_total gs i gs[i] hgi
        have hcut := h.cut i gs[i] hgi
        rw [h.rd_f i gs[i] hgi]
        simp only [decide_true, Bool.not_true, cond_false]
        rw [w64 (n := 4 * (offF gs i : Int) + 4 * (gs[i].2.length : Int)) (by omega) (by omega), show (decide (0 ≤ 4 * (offF gs i : Int)) && decide (4 * (offF gs i : Int) ≤ 4 * (offF gs i : Int) + 4 * (gs[i].2.length : Int)) && decide (4 * (offF gs i : Int) + 4 * (gs[i].2.length : Int) ≤ (im.1.size : Int))) = true by simp only [Bool.and_eq_true, decide_eq_true_eq]; omega, impl_Symbol_address_eq]
        simp only [decide_true, cond_true, Option.bind_some]
        rw [w64 (n := 4096 + 4 * (offF gs i : Int)) (by omega) (by omega), show (4 * (offF gs i : Int)).toNat = 4 * offF gs i by omega, show (4 * (offF gs i : Int) + 4 * (gs[i].2.length : Int)).toNat = 4 * offF gs i + 4 * gs[i].2.length by omega, hcut, h.fun_lint_i l e2 e3 i gs[i] hgi]
        exact ih (i + 1) (by omega)
      · rw [decide_eq_false (show ¬ (rd (τ := TSym) im.2.2 (i : Int)).2.1 = 1 by rw [h.rd_d i (by omega) hil]; decide)]
        exact ih (i + 1) (by omega)
  have key : ∀ (k i : Nat), i + k = im.2.2.length → impl_LintImage.l111010 im (endE gs w c i) (im.2.2.length : Int) (i : Int) = some (0, 0, 0) := by
    intro k
    induction k with
    | zero =>
      intro i hi
      have : i = im.2.2.length := by omega
      subst this
      rw [impl_LintImage.l111010_eq, lt_nat, decide_eq_false (Nat.lt_irrefl _), decide_eq_false (show ¬ (im.2.2.length : Int) = 0 by omega), inL_true (i := 0) (by omega) (by omega), decide_eq_true h.first, decide_eq_true h.end, e1]
      exact funs im.2.2.length 0 (by omega)
    | succ k ih =>
      intro i hi
      have hl : i < im.2.2.length := by omega
      rw [impl_LintImage.l111010_eq, lt_nat, decide_eq_true hl, impl_lintS im hz i hl (endE gs w c i) (hE.2.1 i (by omega)), hE.2.2 i hl hl, w64_succ i _ hl (by omega)]
      exact ih (i + 1) (by omega)
  have := key im.2.2.length 0 (by omega)
  rw [hE.1] at this
  exact this
theorem ImgD.imgok0 {im : Img} {gs : List Fn} {w c : Int} (h : ImgD im gs w c) : ImgOK0 im := by
  refine ⟨h.sz, ⟨endE gs w c, h.chain, h.end⟩, by have := h.slen; have := h.hn.1; omega, h.first, fun j hj => ?_⟩
  intro hk
  by_cases hg : j < gs.length
  · have e := h.sym_f j gs[j] (by simp [hg])
    rw [List.getElem?_eq_getElem hj] at e
    have e := Option.some.inj e
    rw [e]
    have hl := (h.funs j gs[j] (by simp [hg])).len
    refine ⟨h.at_ok j, (h.funs j gs[j] (by simp [hg])).1.ok, ?_⟩
    simp only
    rw [show (4 * (gs[j].2.length : Int)).toNat = 4 * gs[j].2.length by omega]
    unfold funcSizeV codeSizeV
    rw [show decide (((4 * gs[j].2.length : Nat) : Int).tmod 4 = 0) = true from decide_eq_true (Int.tmod_eq_zero_of_dvd (by omega)), cond_true, decide_eq_true (show ((4 * gs[j].2.length : Nat) : Int) ≤ 256 by omega), cond_true]
    exact decide_eq_true (by omega)
  · have := h.rd_d j (by omega) hj
    rw [rd_nat (τ := TSym) im.2.2 j hj] at this
    rw [this] at hk; cases hk
theorem ImgD.ok_i {im : Img} {gs : List Fn} {w c : Int} (h : ImgD im gs w c) : impl_ImageOK im = some true := by rw [impl_ImageOK_eq, h.lint_i]; rfl
theorem at_ok (l : List Int) (hb : BytP l) (hl : l.length ≤ 1048576) (k n : Int) (hk : 0 ≤ k ∧ k ≤ 1000) (hn : n ≤ 1000000) : ∃ v, laws_at l k n = some v ∧ 0 ≤ v ∧ (1 ≤ n → v < n) := by
  rw [laws_at_eq]
  by_cases h1 : n ≤ 1
  · rw [decide_eq_true h1]; exact ⟨0, rfl, by omega, by omega⟩
  · rw [decide_eq_false h1]
    simp only [cond_false]
    by_cases h0 : (l.length : Int) = 0
    · rw [decide_eq_true h0, decide_eq_false (show ¬ n = 0 by omega), w64 (n := k * 7) (by omega) (by omega)]
      refine ⟨_, rfl, ?_, fun _ => ?_⟩ <;> rw [Int.tmod_eq_emod_of_nonneg (by omega)]
      · exact Int.emod_nonneg _ (by omega)
      · exact Int.emod_lt_of_pos _ (by omega)
    · have ht : ∀ m : Int, 0 ≤ m → 0 ≤ m.tmod (l.length : Int) ∧ m.tmod (l.length : Int) < (l.length : Int) := fun m hm => by
        rw [Int.tmod_eq_emod_of_nonneg hm]
        exact ⟨Int.emod_nonneg _ (by omega), Int.emod_lt_of_pos _ (by omega)⟩
      have hby : ∀ m : Int, 0 ≤ m → m < (l.length : Int) → ∃ v : Int, rd (τ := .int .u8) l m = v ∧ 0 ≤ v ∧ v ≤ 255 := fun m hm hm' => by
        obtain ⟨j, rfl⟩ : ∃ j : Nat, m = j := ⟨m.toNat, by omega⟩
        rw [rd_nat (τ := .int .u8) l j (by omega)]
        exact ⟨_, rfl, hb _ (List.getElem_mem _)⟩
      obtain ⟨t1, t2⟩ := ht k hk.1
      obtain ⟨t3, t4⟩ := ht (k + 1) (by omega)
      obtain ⟨A, eA, r1, r2⟩ := hby _ t1 t2
      obtain ⟨B, eB, r3, r4⟩ := hby _ t3 t4
      have hd : 0 ≤ k.tdiv (l.length : Int) ∧ k.tdiv (l.length : Int) ≤ k := by
        rw [Int.tdiv_eq_ediv_of_nonneg hk.1]
        exact ⟨Int.ediv_nonneg hk.1 (by omega), Int.ediv_le_self _ hk.1⟩
      rw [decide_eq_false h0, decide_eq_false (show ¬ n = 0 by omega), w64 (n := k + 1) (by omega) (by omega), inL_true t1 t2, inL_true t3 t4]
      simp only [cond_false, cond_true]
      rw [eA, eB]
      generalize k.tdiv (l.length : Int) = D at *
      rw [w64 (n := A) (by omega) (by omega), w64 (n := B) (by omega) (by omega), w64 (n := A * 31) (by omega) (by omega), w64 (n := A * 31 + B) (by omega) (by omega), w64 (n := D) (by omega) (by omega), w64 (n := A * 31 + B + D) (by omega) (by omega)]
      refine ⟨_, rfl, ?_, fun _ => ?_⟩ <;> rw [Int.tmod_eq_emod_of_nonneg (by omega)]
      · exact Int.emod_nonneg _ (by omega)
      · exact Int.emod_lt_of_pos _ (by omega)
theorem entOK_i (e : Ent) : impl_Entry_ok e = some (entOKV e) := by
  rw [impl_Entry_ok_eq]
  unfold entOKV
  rw [name_i, codeAt_val, in_i, in_i, frame_i]
  unfold codeAtV kindV
  simp only [Option.bind_some]
  cases nameV e.1 <;> cases (decide ((0 : Int) ≤ e.2.2.1) && decide (e.2.2.1 ≤ 1048575)) <;> cases decide (e.2.2.1.tmod 4 = 0) <;> cases inR e.2.2.2.1 1 1024 <;> cases inR e.2.2.2.2.2 0 6 <;> cases decide (e.2.1 = 1) <;> cases frameV e.2.2.2.2.1 <;> cases decide (e.2.1 = 2) <;> rfl
theorem ent_i (l : List Ent) (name : ByteArray) (hl : l.length ≤ 1048576) : impl_entryNamed l name = some (entV l name) := by
  rw [impl_entryNamed_eq, slices_IndexFunc_impl_Entry_impl_entryNamed_1_eq]
  unfold entV
  rw [loop_find0 (L := slices_IndexFunc_impl_Entry_impl_entryNamed_1.l1010 name l (l.length : Int)) (fun i => decide ((rd (τ := TEnt) l (i : Int)).1 = name)) l.length ?_ fun i hi => ?_]
  · rfl
  · rw [slices_IndexFunc_impl_Entry_impl_entryNamed_1.l1010_eq, lt_nat]; simp
  · rw [slices_IndexFunc_impl_Entry_impl_entryNamed_1.l1010_eq, lt_nat, inL_nat, decide_eq_true hi, w64_succ i l.length hi (by omega), impl_entryNamed_1_eq, strEq_dec]
    simp only [cond_true, Option.bind_some]
theorem table_i (l : List Ent) : impl_TableOK l = some (tabV l) := by
  rw [impl_TableOK_eq]
  unfold tabV
  rcases Nat.lt_or_ge 64 l.length with h | h
  · rw [show decide ((l.length : Int) > 64) = true by simp; omega, decide_eq_false (show ¬ l.length ≤ 64 by omega)]; rfl
  rw [show decide ((l.length : Int) > 64) = false by simp; omega, decide_eq_true h, cond_false, Bool.true_and]
  refine loop_all0 (L := impl_TableOK.l11010 l l (l.length : Int)) (tabP l) l.length ?_ fun i hi => ?_
  · rw [impl_TableOK.l11010_eq, lt_nat]; simp
  · rw [impl_TableOK.l11010_eq, lt_nat, inL_nat, decide_eq_true hi, w64_succ i l.length hi (by omega), entOK_i, take_drop0, range_true i _ (by omega), ent_i _ _ (by simp; omega)]
    unfold tabP
    rw [lt_not_ge]
    simp only [cond_true, Option.bind_some]
    cases entOKV (rd (τ := TEnt) l i) <;> cases decide (entV (l.take i) (rd (τ := TEnt) l i).1 ≥ 0) <;> rfl
theorem place_i (s : Sym) : impl_Symbol_address s = some (plS s) := by
  rw [impl_Symbol_address_eq]
  unfold plS
  cases decide (s.2.1 = 1) <;> rfl
theorem imgT_i (im : Img) (hn : im.2.2.length ≤ 16) : impl_imageTable im = some (imgT im) := by
  rw [impl_imageTable_eq, loop_map0 (L := fun acc i => impl_imageTable.l11010 acc im.2.2 (im.2.2.length : Int) i) (entI im) im.2.2.length [] fun acc i hi ha => ?_]
  · rw [impl_imageTable.l11010_eq, lt_nat, decide_eq_false (Nat.lt_irrefl _), cond_false, List.nil_append]; rfl
  · show impl_imageTable.l11010 acc im.2.2 (im.2.2.length : Int) (i : Int) = _
    rw [impl_imageTable.l11010_eq, lt_nat, inL_nat, decide_eq_true hi, w64_succ i _ hi (by omega), place_i]
    simp only [cond_true, Option.bind_some]
    rw [room56 _ (by simp at ha ⊢; omega)]; rfl
theorem imgT_length (im : Img) : (imgT im).length = im.2.2.length := mapB_length _ _ _
theorem ImgD.tab {im : Img} {gs : List Fn} {w c : Int} (h : ImgD im gs w c) : tabV (imgT im) = true := tabV_iff.2 (imgT_tab h.imgok0)
theorem BL_ok : lOK BL = true := by decide +kernel
theorem memBL_ok (F : Int → Int) : impl_MemoryOK (memF F BL) = some true := by rw [memory_i, memV_memF, BL_ok]
theorem own_threads (l : List Thr) (h : l.length ≤ 1048576) (hb : ∀ x ∈ l, x.2.2.1.length ≤ 1048576) : impl_ownThreads l = some l := by
  have : ownOK l = true := by
    unfold ownOK
    rw [room_le (by omega) (by omega), Bool.true_and, List.all_eq_true]
    intro x hx
    have := hb x hx
    exact room_le (by omega) (by omega)
  rw [impl_ownThreads_eq, this]; rfl
theorem hart_i (h : List Int × Int) : impl_HartOK h = some (hartV h) := by rw [impl_HartOK_eq]; rfl
theorem thr_i (t : Thr) : impl_Thread_ok t = some (thrV t) := by
  rw [impl_Thread_ok_eq, within_val, within_val, hart_i]
  unfold thrV joinB inR
  simp only [Option.bind_some]
  cases decide (1 ≤ t.1) && decide (t.1 ≤ 3) <;> cases hartV t.2.1 <;> cases decide ((t.2.2.1.length : Int) ≤ 32) <;> cases decide (t.1 = 3) <;> rfl
theorem threads_i (l : List Thr) : impl_threadsOK l = some (thrsV l) := by
  rw [impl_threadsOK_eq, within_val]
  unfold thrsV
  show (some (inR (l.length : Int) 1 4)).bind _ = _
  simp only [Option.bind_some]
  cases h : inR (l.length : Int) 1 4 with
  | false => rfl
  | true =>
    have hl : l.length ≤ 4 := by rw [inR_iff] at h; omega
    rw [slices_ContainsFunc_impl_Thread_impl_threadsOK_1_eq, slices_IndexFunc_impl_Thread_impl_threadsOK_1_eq, loop_find0 (L := slices_IndexFunc_impl_Thread_impl_threadsOK_1.l1010 l (l.length : Int)) (fun i => !thrV (rd (τ := TThr) l (i : Int))) l.length ?_ fun i hi => ?_]
    · simp only [Option.bind_some, cond_true, Bool.true_and]
      rw [find_all]; simp
    · rw [slices_IndexFunc_impl_Thread_impl_threadsOK_1.l1010_eq, lt_nat]; simp
    · rw [slices_IndexFunc_impl_Thread_impl_threadsOK_1.l1010_eq, lt_nat, inL_nat, decide_eq_true hi, w64_succ i l.length hi (by omega), impl_threadsOK_1_eq, thr_i]
      simp only [cond_true, Option.bind_some]
theorem thrs_of {l : List Thr} (h : 1 ≤ l.length ∧ l.length ≤ 4) (ht : ∀ t ∈ l, thrV t = true) : thrsV l = true := by
  unfold thrsV
  rw [Bool.and_eq_true, inR_iff, allB_iff]
  exact ⟨by omega, fun j h1 h2 => ht _ (rd_mem_list (τ := TThr) l j (by omega))⟩
/-- The machine of an image with other threads. -/
noncomputable def mkM (im : Img) (T : List Thr) : Mac := (memF (F0 im) BL, T, imgT im, [])
theorem mkM_ok {im : Img} {gs : List Fn} {w c : Int} (h : ImgD im gs w c) {T : List Thr} (hT : thrsV T = true) : impl_MachineOK (mkM im T) = some true := by
  unfold mkM
  rw [impl_MachineOK_eq]
  simp only
  rw [memBL_ok, table_i, h.tab, impl_ShadowsOK_eq, impl_ShadowsOK.l11010_eq, threads_i, hT]
  rfl
theorem mkM_own {im : Img} {gs : List Fn} {w c : Int} (h : ImgD im gs w c) {T : List Thr} (h1 : T.length ≤ 4) (h2 : ∀ t ∈ T, t.2.2.1.length ≤ 32) : impl_Machine_own (mkM im T) = some (mkM im T) := by
  have hz := h.sz.n
  have hl := imgT_length im
  have hm : (memF (F0 im) BL).length = 36 := by simp [memF, BL_len]
  unfold mkM
  rw [impl_Machine_own_eq, impl_Memory_own_eq]
  simp only
  rw [slices_Clone_impl_Page_eq, room_le (by omega) (by omega), own_threads T (by omega) (fun x hx => by have := h2 x hx; omega), slices_Clone_impl_Entry_eq, room_le (by omega) (by omega), slices_Clone_impl_Shadow_eq, room_le (by simp) (by simp)]
  rfl
theorem new_i {im : Img} {gs : List Fn} {w c : Int} (h : ImgD im gs w c) : ∃ pc : Int, impl_NewMachine im = some (mkM im [(1, ((List.replicate 32 0).set 2 33280, pc), [], 0)], 0) := by
  have hz := h.sz
  have h0 := h.hn
  have hs := h.slen
  refine ⟨plS (rd (τ := TSym) im.2.2 0), ?_⟩
  rw [impl_NewMachine_eq, h.ok_i]
  simp only [Option.bind_some, Bool.not_true, cond_false]
  rw [impl_newMachine_eq, impl_loaded im hz.c hz.d, imgT_i im hz.n, place_i, impl_stackTop_eq, inL_true (i := 0) (by omega) (by omega)]
  simp only [Option.bind_some, cond_true]
  rw [impl_NewHart_eq]
  rfl
theorem rd0 {τ : Ty} (x : τ.den) (l : List τ.den) : rd (τ := τ) (x :: l) 0 = x := rfl
theorem inL0 {α : Type} (x : α) (l : List α) : inL 0 (x :: l).length = true := inL_true (by omega) (by simp only [List.length_cons]; omega)
theorem run_i {im : Img} {t : Thr} {T : List Thr} (ht : t.1 = 1) (hl : T.length ≤ 3) : impl_Machine_isRunning (mkM im (t :: T)) 0 = some 0 := by
  unfold mkM
  rw [impl_Machine_isRunning_eq]
  simp only
  rw [within_val, w64 (n := (((t :: T).length : Nat) : Int) - 1) (by simp only [List.length_cons]; omega) (by simp only [List.length_cons]; omega), decide_eq_true (show (0 : Int) ≤ (((t :: T).length : Nat) : Int) - 1 by simp only [List.length_cons]; omega), inL0, rd0, ht]
  rfl
theorem ecall_of {im : Img} {gs : List Fn} {w c : Int} (h : ImgD im gs w c) {t : Thr} {T : List Thr} {M : Mac} (hl : T.length ≤ 3) (hT : ∀ x ∈ t :: T, thrV x = true) (ho : ∀ x ∈ t :: T, x.2.2.1.length ≤ 32) (ht : t.1 = 1) (he : impl_Machine_ecall (mkM im (t :: T)) 0 = some M) :
    impl_EcallOf (mkM im (t :: T)) 0 = some (M, 0) := by
  rw [impl_EcallOf_eq, mkM_ok h (thrs_of (by simp; omega) hT), mkM_own h (by simp; omega) ho, run_i ht hl]
  simp only [Option.bind_some, Bool.not_true, cond_false, decide_true, cond_true]
  rw [he]; rfl
theorem ec_1 (im : Img) (R out : List Int) (pc tr : Int) (T : List Thr) (hR : R.getD 17 0 = 1) : impl_Machine_ecall (mkM im ((1, (R, pc), out, tr) :: T)) 0 = some (mkM im ((2, (R, pc), out, tr) :: T)) := by
  unfold mkM
  rw [impl_Machine_ecall_eq]
  simp only
  rw [inL0, rd0]
  simp only [cond_true, show inL 10 32 = true from rfl, show inL 17 32 = true from rfl, decide_true]
  rw [show rd (τ := .int .i64) R 17 = (1 : Int) from hR]
  rfl
theorem ec_5 (im : Img) (R out : List Int) (pc tr : Int) (T : List Thr) (hR : R.getD 17 0 = 5) : impl_Machine_ecall (mkM im ((1, (R, pc), out, tr) :: T)) 0 = some (mkM im ((1, (R.set 10 0, IntKind.wrap .i64 (pc + 4)), out, tr) :: T)) := by
  unfold mkM
  rw [impl_Machine_ecall_eq]
  simp only
  rw [inL0, rd0]
  simp only [cond_true, show inL 10 32 = true from rfl, show inL 17 32 = true from rfl, decide_true]
  rw [show rd (τ := .int .i64) R 17 = (5 : Int) from hR]
  rfl
theorem stop_i (im : Img) (t : Thr) (T : List Thr) (k : Int) : impl_Machine_stop (mkM im (t :: T)) 0 k = some (mkM im ((3, t.2.1, t.2.2.1, k) :: T)) := by
  unfold mkM
  rw [impl_Machine_stop_eq]
  simp only
  rw [inL0]
  simp only [cond_true]
  rw [show inL 0 ((t :: T).set (Int.toNat 0) (3, (rd (τ := TThr) (t :: T) 0).2)).length = true from inL0 _ _]
  rfl
theorem ec_bad (im : Img) (R out : List Int) (pc tr : Int) (T : List Thr) (c : Int) (hR : R.getD 17 0 = c) (hc : c < 1 ∨ 10 < c) : impl_Machine_ecall (mkM im ((1, (R, pc), out, tr) :: T)) 0 = some (mkM im ((3, (R, pc), out, 15) :: T)) := by
  have hs := stop_i im (1, (R, pc), out, tr) T 15
  unfold mkM at hs ⊢
  rw [impl_Machine_ecall_eq]
  simp only
  rw [inL0, rd0]
  simp only [cond_true, show inL 10 32 = true from rfl, show inL 17 32 = true from rfl, decide_true]
  rw [show rd (τ := .int .i64) R 17 = c from hR]
  simp only [joinB]
  rw [decide_eq_false (show ¬ c = 1 by omega), decide_eq_false (show ¬ c = 2 by omega), decide_eq_false (show ¬ c = 3 by omega), decide_eq_false (show ¬ c = 4 by omega), decide_eq_false (show ¬ c = 5 by omega), decide_eq_false (show ¬ c = 6 by omega), decide_eq_false (show ¬ c = 7 by omega), decide_eq_false (show ¬ c = 8 by omega), decide_eq_false (show ¬ c = 9 by omega), decide_eq_false (show ¬ c = 10 by omega)]
  simp only [cond_false]
  rw [hs]; rfl
theorem ec_3 (im : Img) (R out : List Int) (pc tr : Int) (T : List Thr) (hR : R.getD 17 0 = 3) (ho : out.length < 32) : impl_Machine_ecall (mkM im ((1, (R, pc), out, tr) :: T)) 0 = some (mkM im ((1, (R, IntKind.wrap .i64 (pc + 4)), out ++ [R.getD 10 0], tr) :: T)) := by
  unfold mkM
  rw [impl_Machine_ecall_eq]
  simp only
  rw [inL0, rd0]
  simp only [cond_true, show inL 10 32 = true from rfl, show inL 17 32 = true from rfl, decide_true]
  rw [show rd (τ := .int .i64) R 17 = (3 : Int) from hR, decide_eq_false (show ¬ (out.length : Int) = 32 by omega), room_le (by simp; omega) (by simp; omega)]
  rfl
theorem ec_full (im : Img) (R out : List Int) (pc tr : Int) (T : List Thr) (hR : R.getD 17 0 = 3) (ho : out.length = 32) : impl_Machine_ecall (mkM im ((1, (R, pc), out, tr) :: T)) 0 = some (mkM im ((3, (R, pc), out, 7) :: T)) := by
  have hs := stop_i im (1, (R, pc), out, tr) T 7
  unfold mkM at hs ⊢
  rw [impl_Machine_ecall_eq]
  simp only
  rw [inL0, rd0]
  simp only [cond_true, show inL 10 32 = true from rfl, show inL 17 32 = true from rfl, decide_true]
  rw [show rd (τ := .int .i64) R 17 = (3 : Int) from hR, decide_eq_true (show (out.length : Int) = 32 by omega)]
  have e : ((1, (R, pc), out, tr) :: T : List Thr).set (Int.toNat 0) (1, (R, pc), out, tr) = (1, (R, pc), out, tr) :: T := rfl
  rw [e]
  show (impl_Machine_stop _ 0 7).bind _ = _
  rw [hs]; rfl
theorem thrV_run {R out : List Int} {pc : Int} (h0 : R.getD 0 0 = 0) (ho : out.length ≤ 32) : thrV (1, (R, pc), out, 0) = true := by
  unfold thrV hartV
  simp only
  rw [show rd (τ := .int .i64) R 0 = (0 : Int) from h0, decide_eq_true (show (out.length : Int) ≤ 32 by omega)]
  rfl
theorem thrV_done {R out : List Int} {pc : Int} (h0 : R.getD 0 0 = 0) (ho : out.length ≤ 32) : thrV (2, (R, pc), out, 0) = true := by
  unfold thrV hartV
  simp only
  rw [show rd (τ := .int .i64) R 0 = (0 : Int) from h0, decide_eq_true (show (out.length : Int) ≤ 32 by omega)]
  rfl
theorem thrV_trap {R out : List Int} {pc k : Int} (h0 : R.getD 0 0 = 0) (ho : out.length ≤ 32) (hk : 1 ≤ k ∧ k ≤ 31) : thrV (3, (R, pc), out, k) = true := by
  unfold thrV hartV
  simp only
  rw [show rd (τ := .int .i64) R 0 = (0 : Int) from h0, decide_eq_true (show (out.length : Int) ≤ 32 by omega), show inR k 1 31 = true from inR_iff.2 hk]
  rfl
theorem getD_set_ne {R : List Int} {i j : Nat} {v : Int} (h : i ≠ j) : (R.set i v).getD j 0 = R.getD j 0 := by
  rw [List.getD_eq_getElem?_getD, List.getD_eq_getElem?_getD, List.getElem?_set_ne h]
theorem getD_set_eq {R : List Int} {i : Nat} {v : Int} (h : i < R.length) : (R.set i v).getD i 0 = v := by
  rw [List.getD_eq_getElem?_getD, List.getElem?_set_self h]; rfl
theorem mkM_1 (im : Img) (T : List Thr) : (mkM im T).1 = memF (F0 im) BL := rfl
theorem mkM_T (im : Img) (T : List Thr) : (mkM im T).2.1 = T := rfl
theorem mkM_r (im : Img) (T : List Thr) : (mkM im T).2.2 = (imgT im, []) := rfl
theorem set0 {α : Type} (x y : α) (l : List α) : (x :: l).set (Int.toNat 0) y = y :: l := rfl
theorem len1 {α : Type} (x : α) : (([x].length : Nat) : Int) = 1 := rfl
theorem join_false {A : (Bool → Option Bool) → Option Bool} {K : Bool → Option Bool} (hA : ∀ K, A K = K false) (hK : K false = some true) : joinB A K = some true := (hA K).trans hK
theorem one_ecall {im : Img} {gs : List Fn} {w c : Int} (h : ImgD im gs w c) {R out : List Int} {pc : Int} {M : Mac} (h0 : R.getD 0 0 = 0) (ho : out.length ≤ 32) (he : impl_Machine_ecall (mkM im [(1, (R, pc), out, 0)]) 0 = some M) :
    impl_EcallOf (memF (F0 im) BL, [(1, (R, pc), out, 0)], imgT im, []) 0 = some (M, 0) :=
  ecall_of h (by simp) (fun x hx => by rw [List.mem_singleton] at hx; subst hx; exact thrV_run h0 ho) (fun x hx => by rw [List.mem_singleton] at hx; subst hx; exact ho) rfl he
theorem one_no {im : Img} {gs : List Fn} {w c : Int} (h : ImgD im gs w c) {t : Thr} (ht : thrV t = true) (ho : t.2.2.1.length ≤ 32) : (t.1 ≠ 1 → impl_EcallOf (mkM im [t]) 0 = some (mkM im [t], 31)) ∧ impl_EcallOf (mkM im [t]) 1 = some (mkM im [t], 5) := by
  have hk := mkM_ok h (T := [t]) (thrs_of (by simp) (fun x hx => by rw [List.mem_singleton] at hx; subst hx; exact ht))
  have hw := mkM_own h (T := [t]) (by simp) (fun x hx => by rw [List.mem_singleton] at hx; subst hx; exact ho)
  constructor
  · intro h1
    rw [impl_EcallOf_eq, hk, hw, impl_Machine_isRunning_eq]
    simp only [Option.bind_some, Bool.not_true, cond_false, mkM_T]
    rw [within_val, len1, inL0]
    show (bif !decide (t.1 = 1) then some (31 : Int) else some 0).bind _ = _
    rw [decide_eq_false h1]
    rfl
  · rw [impl_EcallOf_eq, hk, hw, impl_Machine_isRunning_eq]
    simp only [Option.bind_some, Bool.not_true, cond_false, mkM_T]
    rw [within_val, len1]
    rfl
theorem env_end {im : Img} {gs : List Fn} {w c : Int} (h : ImgD im gs w c) (b : List Int) (hb : BytP b) (hbl : b.length ≤ 1048576) (v : Int) (n : Nat) (hn : n ≤ 32) (R out : List Int) (pc : Int) (hR : R.length = 32) (h0 : R.getD 0 0 = 0) (ho : out.length = n) (h17 : R.getD 17 0 = if n = 0 then 0 else 3) :
    laws_FnEnvironment.l111111010 b (mkM im [(1, (R, pc), out, 0)]) v n n = some true := by
  have hox : out.length ≤ 32 := by omega
  obtain ⟨M, hM, hM2⟩ : ∃ M, impl_Machine_ecall (mkM im [(1, (R, pc), out, 0)]) 0 = some M ∧ (n = 32 → M = mkM im [(3, (R, pc), out, 7)]) := by
    by_cases h1 : n = 0
    · rw [if_pos h1] at h17
      exact ⟨_, ec_bad im R out pc 0 [] 0 h17 (by omega), fun e => by omega⟩
    · rw [if_neg h1] at h17
      by_cases h2 : n = 32
      · exact ⟨_, ec_full im R out pc 0 [] h17 (by omega), fun _ => rfl⟩
      · exact ⟨_, ec_3 im R out pc 0 [] h17 (by omega), fun e => absurd e h2⟩
  have e0 : impl_EcallOf (mkM im [(1, (R, pc), out, 0)]) 0 = some (M, 0) := one_ecall h h0 hox hM
  obtain ⟨q, eq, q1, q2⟩ := at_ok b hb hbl 1 1000 (by decide) (by decide)
  have q2 := q2 (by decide)
  have a0 : (R.set (Int.toNat 17) 5).getD 0 0 = 0 := by rw [getD_set_ne (by decide)]; exact h0
  have b0 : ((R.set (Int.toNat 17) 5).set (Int.toNat 17) 1).getD 0 0 = 0 := by rw [getD_set_ne (by decide)]; exact a0
  have c0 : (((R.set (Int.toNat 17) 5).set (Int.toNat 17) 1).set (Int.toNat 17) (11 + q)).getD 0 0 = 0 := by rw [getD_set_ne (by decide)]; exact b0
  have e5 := one_ecall h (pc := pc) a0 hox (ec_5 im (R.set (Int.toNat 17) 5) out pc 0 [] (getD_set_eq (by rw [hR]; decide)))
  have e1 := one_ecall h (pc := pc) b0 hox (ec_1 im ((R.set (Int.toNat 17) 5).set (Int.toNat 17) 1) out pc 0 [] (getD_set_eq (by rw [List.length_set, hR]; decide)))
  have ex := one_ecall h (pc := pc) c0 hox (ec_bad im (((R.set (Int.toNat 17) 5).set (Int.toNat 17) 1).set (Int.toNat 17) (11 + q)) out pc 0 [] (11 + q) (getD_set_eq (by rw [List.length_set, List.length_set, hR]; decide)) (by omega))
  have n1 := (one_no h (t := (3, ((((R.set (Int.toNat 17) 5).set (Int.toNat 17) 1).set (Int.toNat 17) (11 + q)), pc), out, 15)) (thrV_trap c0 hox (by decide)) hox).1 (show (3 : Int) ≠ 1 by decide)
  have n2 := (one_no h (t := (2, (((R.set (Int.toNat 17) 5).set (Int.toNat 17) 1), pc), out, 0)) (thrV_done b0 hox) hox).2
  have h10 : rd (τ := .int .i64) ((R.set (Int.toNat 17) 5).set 10 0) 10 = (0 : Int) := getD_set_eq (by rw [List.length_set, hR]; decide)
  rw [laws_FnEnvironment.l111111010_eq, decide_eq_false (show ¬ (n : Int) < (n : Int) by omega), cond_false, e0]
  simp only [Option.bind_some]
  refine join_false (fun K => ?_) ?_
  · by_cases h2 : n = 32
    · rw [decide_eq_true (show (n : Int) = 32 by omega), hM2 h2]; rfl
    · rw [decide_eq_false (show ¬ (n : Int) = 32 by omega)]; rfl
  simp only [mkM_T, mkM_1, mkM_r, inL0, set0, letB, cond_true, show inL 17 32 = true from rfl, show inL 10 32 = true from rfl]
  show (impl_EcallOf (memF (F0 im) BL, [(1, (R.set (Int.toNat 17) 5, pc), out, 0)], imgT im, []) 0).bind _ = some true
  rw [e5]
  simp only [Option.bind_some]
  show (impl_EcallOf (memF (F0 im) BL, [(1, ((R.set (Int.toNat 17) 5).set (Int.toNat 17) 1, pc), out, 0)], imgT im, []) 0).bind _ = some true
  rw [e1]
  simp only [Option.bind_some]
  rw [eq]
  simp only [Option.bind_some]
  rw [w64 (n := 11 + q) (by omega) (by omega)]
  show (impl_EcallOf (memF (F0 im) BL, [(1, (((R.set (Int.toNat 17) 5).set (Int.toNat 17) 1).set (Int.toNat 17) (11 + q), pc), out, 0)], imgT im, []) 0).bind _ = some true
  rw [ex]
  simp only [Option.bind_some]
  rw [n1, n2]
  simp only [Option.bind_some, mkM_T, len1, inL0, cond_true, decide_true]
  show (bif decide (rd (τ := .int .i64) ((R.set (Int.toNat 17) 5).set 10 0) 10 = (0 : Int)) then some true else some false) = some true
  rw [h10]
  rfl
theorem env_loop {im : Img} {gs : List Fn} {w c : Int} (h : ImgD im gs w c) (b : List Int) (hb : BytP b) (hbl : b.length ≤ 1048576) (v : Int) (n : Nat) (hn : n ≤ 32) : ∀ (k i : Nat) (R out : List Int) (pc : Int), i + k = n → R.length = 32 → R.getD 0 0 = 0 → out.length = i → (R.getD 17 0 = if i = 0 then 0 else 3) →
    laws_FnEnvironment.l111111010 b (mkM im [(1, (R, pc), out, 0)]) v n i = some true := by
  intro k
  induction k with
  | zero =>
    intro i R out pc hi hR h0 ho h17
    have : i = n := by omega
    subst this
    exact env_end h b hb hbl v i hn R out pc hR h0 ho h17
  | succ k ih =>
    intro i R out pc hi hR h0 ho h17
    obtain ⟨u, hu⟩ : ∃ u, laws_plus v i = some u := ⟨_, laws_plus_eq _ _⟩
    have a0 : ((R.set (Int.toNat 17) 3).set (Int.toNat 10) u).getD 0 0 = 0 := by rw [getD_set_ne (by decide), getD_set_ne (by decide)]; exact h0
    have a17 : ((R.set (Int.toNat 17) 3).set (Int.toNat 10) u).getD 17 0 = 3 := by rw [getD_set_ne (by decide)]; exact getD_set_eq (by rw [hR]; decide)
    have a10 : ((R.set (Int.toNat 17) 3).set (Int.toNat 10) u).getD 10 0 = u := getD_set_eq (by rw [List.length_set, hR]; decide)
    have e3 := one_ecall h (pc := pc) a0 (by omega) (ec_3 im ((R.set (Int.toNat 17) 3).set (Int.toNat 10) u) out pc 0 [] a17 (by omega))
    rw [a10] at e3
    have hrd : rd (τ := .int .i64) (out ++ [u]) (i : Int) = u := by
      rw [rd_nat (τ := .int .i64) _ i (by simp; omega), List.getElem_append_right (by omega)]; simp [ho]
    rw [laws_FnEnvironment.l111111010_eq, decide_eq_true (show (i : Int) < (n : Int) by omega)]
    simp only [mkM_T, mkM_1, mkM_r, inL0, set0, letB, cond_true, show inL 17 32 = true from rfl, show inL 10 32 = true from rfl]
    rw [hu]
    show (impl_EcallOf (memF (F0 im) BL, [(1, ((R.set (Int.toNat 17) 3).set (Int.toNat 10) u, pc), out, 0)], imgT im, []) 0).bind _ = some true
    rw [e3]
    simp only [Option.bind_some, mkM_T, mkM_1, mkM_r, len1, inL0, set0, cond_true, cond_false, decide_true, Bool.not_true]
    show (bif !decide ((((out ++ [u]).length : Nat) : Int) = IntKind.wrap .i64 ((i : Int) + 1)) then some false else (bif inL (i : Int) (out ++ [u]).length then (bif !decide (rd (τ := .int .i64) (out ++ [u]) (i : Int) = u) then some false else laws_FnEnvironment.l111111010 b (mkM im [(1, ((R.set (Int.toNat 17) 3).set (Int.toNat 10) u, IntKind.wrap .i64 (pc + 4)), out ++ [u], 0)]) v n (IntKind.wrap .i64 ((i : Int) + 1))) else none)) = some true
    rw [w64 (n := (i : Int) + 1) (by omega) (by omega), decide_eq_true (show (((out ++ [u]).length : Nat) : Int) = (i : Int) + 1 by simp; omega), inL_true (i := (i : Int)) (by omega) (by simp; omega)]
    simp only [Bool.not_true, cond_false, cond_true]
    rw [hrd, decide_eq_true rfl]
    have := ih (i + 1) ((R.set (Int.toNat 17) 3).set (Int.toNat 10) u) (out ++ [u]) (IntKind.wrap .i64 (pc + 4)) (by omega) (by rw [List.length_set, List.length_set, hR]) a0 (by simp; omega) (by rw [a17, if_neg (by omega)])
    rw [show ((i + 1 : Nat) : Int) = (i : Int) + 1 by omega] at this
    exact this
theorem number_ok (a : List Int) (ha : BytP a) (hn : a.length ≤ 1048576) : ∃ v, spec_NumberOf a = some v := by
  obtain ⟨s, e, hs⟩ := source_ok a ha hn
  obtain ⟨v, t, e2, _⟩ := wide_ok (K := 0) (s := s) (hs.mono (by decide))
  refine ⟨v, ?_⟩
  rw [spec_NumberOf_eq, e]
  simp only [Option.bind_some, optC]
  rw [e2]; rfl
theorem environment_law (a b : List Int) (ha : BytP a) (hb : BytP b) : laws_FnEnvironment a b = some true := by
  rw [laws_FnEnvironment_eq]
  simp only [joinB]
  by_cases h1 : (a.length : Int) > 1048576
  · rw [decide_eq_true h1]; rfl
  rw [decide_eq_false h1]
  simp only [cond_false]
  by_cases h2 : (b.length : Int) > 1048576
  · rw [decide_eq_true h2]; rfl
  rw [decide_eq_false h2]
  simp only [cond_false]
  obtain ⟨im, gs, w, c, e1, h⟩ := imageDrawn_ok a ha (by omega)
  obtain ⟨pc, e2⟩ := new_i h
  obtain ⟨v, e3⟩ := number_ok b hb (by omega)
  obtain ⟨n0, e4, n1, n2⟩ := at_ok b hb (by omega) 0 33 (by decide) (by decide)
  have n2 := n2 (by decide)
  obtain ⟨n, rfl⟩ : ∃ n : Nat, n0 = n := ⟨n0.toNat, by omega⟩
  rw [e1]
  simp only [Option.bind_some]
  rw [e2]
  simp only [Option.bind_some, mkM_T, len1, decide_true, Bool.not_true, cond_false]
  rw [e3]
  simp only [Option.bind_some]
  rw [e4]
  exact env_loop h b hb (by omega) v n (by omega) n 0 _ [] pc (by omega) (by simp) (by decide) rfl (by decide)
end Go.Proofs.YtbdaphohbocmhaaGreat.S
