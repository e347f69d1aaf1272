/- Pure sides: what the functions come to (numbers and lists alone). -/
import Derived.Test.YtbdaphohbocmhaaGreatSxP
namespace Go.Proofs.YtbdaphohbocmhaaGreat.S
open Go.Ps
set_option linter.unusedVariables false
set_option maxRecDepth 100000
theorem impl_lint_funL {f a : Int} {calls : List Int} {C : Int → Int → Prop} {D : Int → Prop} (hD : ∀ d, D d → DatP d) (hC : ∀ i m, C i m → rightV (3, 1, 0, 0, m) = true ∧ a + 4 * i + m ∈ calls) (hf : FrmP f) {b : List Ins} (h : Dpcs f C D 2 b) (hb : b.length ≤ 59) (ha : codeAtV a = true) (hc : calls.length ≤ 1048576) :
    impl_lint (codeOf (funL f b)) a f calls = some (0, 0) := by
  have hfr := hf.range
  have har := codeAtV_range ha
  have hn := funL_length f b
  have hright := funL_right hD (fun i m q => (hC i m q).1) hf h
  have hsz : funcSizeV (codeOf (funL f b)).size = true := by
    rw [codeOf_size]; unfold funcSizeV codeSizeV
    rw [show decide (((4 * (funL f b).length : Nat) : Int).tmod 4 = 0) = true from decide_eq_true (Int.tmod_eq_zero_of_dvd (by omega)), cond_true, decide_eq_true (show ((4 * (funL f b).length : Nat) : Int) ≤ 256 by omega), cond_true]
    exact decide_eq_true (by omega)
  obtain ⟨b0, b1⟩ := funL_begin f b
  obtain ⟨_, _, b2⟩ := funL_end f b
  have hp : ([(22, 2, 2, 0, (IntKind.wrap .i64 (0 - f))), (21, 0, 2, 1, (IntKind.wrap .i64 (f - 8)))] : List Ins) = proL f := by rw [w64 (n := 0 - f) (by omega) (by omega), w64 (n := f - 8) (by omega) (by omega)]; rfl
  have p0 : rd (τ := TIns) (proL f) 0 = (22, 2, 2, 0, 0 - f) := rfl
  have p1 : rd (τ := TIns) (proL f) 1 = (21, 0, 2, 1, f - 8) := rfl
  have q0 : impl_isCodeAt a = some true := by rw [codeAt_val, ha]
  rw [impl_lint_eq, q0, frame_i, hf.ok, funcSize_i, hsz, instrs_i _ (by omega) hright, impl_prologue_eq, hp]
  simp only [Option.bind_some, Bool.not_true, cond_false]
  rw [show (((proL f).length : Nat) : Int) = 2 from rfl, impl_lint.l1111010_eq, b0, p0]
  simp only [show decide ((0 : Int) < 2) = true from rfl, cond_true]
  rw [inL_true (i := 0) (by omega) (by simp [proL]), inL_true (i := 0) (by omega) (by omega), show eqD TIns (((22, 2, 2, 0, 0 - f) : Ins)) ((22, 2, 2, 0, 0 - f) : Ins) = true by rw [eqD_ins]; simp]
  simp only [cond_true, Bool.not_true, cond_false]
  rw [show IntKind.wrap .i64 (0 + 1) = 1 by rfl, impl_lint.l1111010_eq, b1, p1]
  simp only [show decide ((1 : Int) < 2) = true from rfl, cond_true]
  rw [inL_true (i := 1) (by omega) (by simp [proL]), inL_true (i := 1) (by omega) (by omega), show eqD TIns (((21, 0, 2, 1, f - 8) : Ins)) ((21, 0, 2, 1, f - 8) : Ins) = true by rw [eqD_ins]; simp]
  simp only [cond_true, Bool.not_true, cond_false]
  rw [show IntKind.wrap .i64 (1 + 1) = 2 by rfl, impl_lint.l1111010_eq]
  have hl1 : IntKind.wrap .i64 (((funL f b).length : Int) - 1) = ((b.length + 4 : Nat) : Int) := by rw [w64 (by omega) (by omega)]; omega
  simp only [show decide ((2 : Int) < 2) = false from rfl, cond_false, joinB]
  rw [hl1, b2, inL_true (by omega) (by omega)]
  simp only [cond_true]
  rw [Int.toNat_natCast, room_le (by omega) (by omega), decide_eq_true (show (0 : Int) ≤ ((funL f b).length : Int) by omega)]
  simp only [cond_true, Bool.and_self]
  obtain ⟨E, hE0, e⟩ := lint_ends a calls (funL f b) f ⟨hfr.1, hfr.2.1⟩ (by omega) (by omega) ((funL f b).length - 4) 2 (List.replicate (funL f b).length 0) (by omega) (by omega) ⟨by simp, fun j hj => by
    rw [List.getElem?_replicate, if_pos hj]
    unfold endV
    have z : ∀ m : Int, m < ((2 : Nat) : Int) → endsI (funL f b) f m = false := by
      intro m hm
      unfold endsI
      rw [show decide (2 ≤ m) = false by simp; omega]; simp
    rw [if_neg (fun h => by rw [z _ h.1] at h; cases h.2), if_neg (fun h => by rw [z _ h.1] at h; cases h.2), if_neg (fun h => by rw [z _ h.1] at h; cases h.2)]⟩
  rw [show ((2 : Nat) : Int) = 2 by rfl] at e
  rw [e]
  have loop : ∀ (k i : Nat), i + k = b.length + 5 → 2 ≤ i → impl_lint.l111111111010 (funL f b) (funL f b, f, a, calls, E) (i : Int) = some (0, 0) := by
    intro k
    induction k with
    | zero =>
      intro i hi _
      rw [impl_lint.l111111111010_eq, decide_eq_false (by omega)]; rfl
    | succ k ih =>
      intro i hi h2
      obtain ⟨x, hx, hr⟩ := rd_get (xs := funL f b) (i := i) (by omega)
      have hE := ends_funL hD hf h
      have hrule : impl_linting_fault (funL f b, f, a, calls, E) (i : Int) = some 0 := by
        have R := fault_zero (funL f b) f a calls E hE0 ⟨hfr.1, hfr.2.1⟩ har (by omega) hc i (by omega) (by omega) x hr (right_ins (hright x (List.mem_of_getElem? hx)))
        rcases funL_cases f b i x hx with ⟨hi', rfl⟩ | ⟨hi', rfl⟩ | ⟨j, hi', hj, hb⟩ | ⟨hi', rfl⟩ | ⟨hi', rfl⟩ | ⟨hi', rfl⟩
        · omega
        · omega
        · rcases h.ins hD hf j x hb with ⟨m, rfl, hm⟩ | ⟨_, g3, g4, g5, g6, g7, g8⟩
          · refine R (fun e => by simp at e) (fun _ => ⟨rfl, ?_⟩) (fun e => by simp at e) (fun e => absurd rfl e) (fun e => absurd rfl e) (fun e => by simp at e)
            have e2 : a + 4 * (i : Int) + m = a + 4 * (2 + (j : Int)) + m := by omega
            show a + 4 * (i : Int) + m ∈ calls
            rw [e2]; exact (hC _ _ hm).2
          · refine R (fun e => absurd e g4) (fun e => absurd e g3) (fun e e' => ?_) (fun _ _ e => absurd e g5) (fun _ _ e => absurd e g6) (fun e e' e2 => .inr (g8 e e' e2))
            obtain ⟨t1, t2, t3⟩ := g7 e e'
            rw [hE, hE]
            exact ⟨t1, by omega, by omega, decide_eq_false (by omega), decide_eq_false (by omega)⟩
        · exact R (fun e => by simp at e) (fun e => by simp at e) (fun _ e => by simp at e) (fun _ _ _ => by rw [hE]; exact decide_eq_true (by omega)) (fun _ _ e => by simp at e) (fun _ _ _ => .inl (by rw [hE]; exact decide_eq_true (by omega)))
        · exact R (fun e => by simp at e) (fun e => by simp at e) (fun _ e => by simp at e) (fun _ _ e => by simp at e) (fun _ _ _ => by rw [hE]; exact decide_eq_true (by omega)) (fun _ e => by simp at e)
        · exact R (fun _ => by rw [hE]; exact decide_eq_true (by omega)) (fun e => by simp at e) (fun e => by simp at e) (fun _ e => absurd rfl e) (fun _ e => absurd rfl e) (fun e => by simp at e)
      rw [impl_lint.l111111111010_eq, decide_eq_true (by omega), hrule, w64_succ i (b.length + 5) (by omega) (by omega)]
      simp only [cond_true, Option.bind_some, decide_true, Bool.not_true, cond_false]
      exact ih (i + 1) (by omega) (by omega)
  exact loop (b.length + 3) 2 (by omega) (by omega)
theorem ImgD.entries_i {im : Img} {gs : List Fn} {w c : Int} (h : ImgD im gs w c) : ∃ l, impl_Image_functions im = some l ∧ l.length ≤ 16 ∧ ∀ t : Nat, t < gs.length → 4096 + 4 * (offF gs t : Int) ∈ l := by
  have hz := h.sz
  have ht := h.total
  have key : ∀ (k i : Nat) (l : List Int), i + k = im.2.2.length → l.length ≤ i → (∀ t : Nat, t < gs.length → t < i → 4096 + 4 * (offF gs t : Int) ∈ l) → ∃ l', impl_Image_functions.l11010 l im.2.2 (im.2.2.length : Int) (i : Int) = some l' ∧ l'.length ≤ im.2.2.length ∧ ∀ t : Nat, t < gs.length → 4096 + 4 * (offF gs t : Int) ∈ l' := by
    intro k
    induction k with
    | zero =>
      intro i l hi hl hm
      rw [impl_Image_functions.l11010_eq, lt_nat, decide_eq_false (by omega)]
      have := h.slen
      exact ⟨l, rfl, by omega, fun t ht => hm t ht (by omega)⟩
    | succ k ih =>
      intro i l hi hl hm
      have hil : i < im.2.2.length := by omega
      have hn := hz.n
      rw [impl_Image_functions.l11010_eq, lt_nat, decide_eq_true hil, inL_nat, decide_eq_true hil, w64_succ i _ hil (by omega)]
      simp only [cond_true]
      by_cases hg : i < gs.length
      · have ho := offF_mono gs i
        rw [h.rd_f i gs[i] (by simp [hg]), impl_Symbol_address_eq]
        simp only [decide_true, cond_true, Option.bind_some]
        rw [w64 (n := 4096 + 4 * (offF gs i : Int)) (by omega) (by omega), room_le (by simp; omega) (by simp; omega)]
        exact ih (i + 1) _ (by omega) (by simp; omega) (fun t ht hti => by
          by_cases e : t = i
          · subst e; simp
          · exact List.mem_append_left _ (hm t ht (by omega)))
      · rw [decide_eq_false (show ¬ (rd (τ := TSym) im.2.2 (i : Int)).2.1 = 1 by rw [h.rd_d i (by omega) hil]; decide)]
        exact ih (i + 1) l (by omega) (by omega) (fun t ht hti => hm t ht (by omega))
  obtain ⟨l, h1, h2, h3⟩ := key im.2.2.length 0 [] (by omega) (by simp) (by simp)
  exact ⟨l, (impl_Image_functions_eq _).trans h1, by have := hz.n; omega, h3⟩
theorem ImgD.at_ok {im : Img} {gs : List Fn} {w c : Int} (h : ImgD im gs w c) (i : Nat) : codeAtV (4096 + 4 * (offF gs i : Int)) = true := by
  have ht := h.total
  have ho := offF_mono gs i
  unfold codeAtV
  rw [show (decide (0 ≤ 4096 + 4 * (offF gs i : Int)) && decide (4096 + 4 * (offF gs i : Int) ≤ 1048575)) = true by simp only [Bool.and_eq_true, decide_eq_true_eq]; omega, cond_true]
  exact decide_eq_true (Int.tmod_eq_zero_of_dvd (by omega))
theorem ImgD.fun_lint_i {im : Img} {gs : List Fn} {w c : Int} (h : ImgD im gs w c) (calls : List Int) (hl : calls.length ≤ 16) (hc : ∀ t : Nat, t < gs.length → 4096 + 4 * (offF gs t : Int) ∈ calls) (i : Nat) (p : Fn) (hp : gs[i]? = some p) : impl_lint (codeOf p.2) (4096 + 4 * (offF gs i : Int)) p.1 calls = some (0, 0) := by
  obtain ⟨hf, b, e, hd, h1, h2⟩ := h.funs i p hp
  have ht := h.total
  have ho := offF_mono gs i
  rw [e]
  refine impl_lint_funL (D := DatW w) (C := fun k m => CalG gs i k m ∧ 2 ≤ k ∧ k < 2 + b.length) (fun d hd => hd.ok h.hw.2) (fun k m hm => ?_) hf hd.bound (by omega) (h.at_ok i) (by omega)
  obtain ⟨⟨t, ht', rfl⟩, hk1, hk2⟩ := hm
  have hot := offF_mono gs t
  refine ⟨rjal (by decide) (by omega), ?_⟩
  have : 4096 + 4 * (offF gs i : Int) + 4 * k + (4 * (offF gs t : Int) - 4 * (offF gs i : Int) - 4 * k) = 4096 + 4 * (offF gs t : Int) := by omega
  rw [this]; exact hc t ht'
theorem ImgD.lint_i {im : Img} {gs : List Fn} {w c : Int} (h : ImgD im gs w c) : impl_LintImage im = some (0, 0, 0) := by
  have hz := h.sz
  obtain ⟨hn, hcs, hds⟩ := h.sz
  have ht := h.total
  have hsz := h.size
  have hsl := h.slen
  have h0 := h.hn.1
  have hE := h.chain
  rw [impl_LintImage_eq, decide_eq_false (by omega), decide_eq_false (show ¬ (im.1.size : Int) > 1024 by omega), decide_eq_false (show ¬ (im.2.1.size : Int) > 256 by omega)]
  simp only [cond_false]
  obtain ⟨l, e1, e2, e3⟩ := h.entries_i
  have funs : ∀ (k i : Nat), i + k = im.2.2.length → impl_LintImage.l111111010 im l im.2.2 (im.2.2.length : Int) (i : Int) = some (0, 0, 0) := by
    intro k
    induction k with
    | zero =>
      intro i hi
      rw [impl_LintImage.l111111010_eq, lt_nat, decide_eq_false (by omega)]; rfl
    | succ k ih =>
      intro i hi
      have hil : i < im.2.2.length := by omega
      rw [impl_LintImage.l111111010_eq, lt_nat, decide_eq_true hil, inL_nat, decide_eq_true hil, w64_succ i _ hil (by omega)]
      simp only [cond_true]
      by_cases hg : i < gs.length
      · have hgi : gs[i]? = some gs[i] := by simp [hg]
        obtain ⟨t1, t2⟩ := off_total gs i gs[i] hgi
        have hcut := h.cut i gs[i] hgi
        rw [h.rd_f i gs[i] hgi]
        simp only [decide_true, Bool.not_true, cond_false]
        rw [w64 (n := 4 * (offF gs i : Int) + 4 * (gs[i].2.length : Int)) (by omega) (by omega), show (decide (0 ≤ 4 * (offF gs i : Int)) && decide (4 * (offF gs i : Int) ≤ 4 * (offF gs i : Int) + 4 * (gs[i].2.length : Int)) && decide (4 * (offF gs i : Int) + 4 * (gs[i].2.length : Int) ≤ (im.1.size : Int))) = true by simp only [Bool.and_eq_true, decide_eq_true_eq]; omega, impl_Symbol_address_eq]
        simp only [decide_true, cond_true, Option.bind_some]
        rw [w64 (n := 4096 + 4 * (offF gs i : Int)) (by omega) (by omega), show (4 * (offF gs i : Int)).toNat = 4 * offF gs i by omega, show (4 * (offF gs i : Int) + 4 * (gs[i].2.length : Int)).toNat = 4 * offF gs i + 4 * gs[i].2.length by omega, hcut, h.fun_lint_i l e2 e3 i gs[i] hgi]
        exact ih (i + 1) (by omega)
      · rw [decide_eq_false (show ¬ (rd (τ := TSym) im.2.2 (i : Int)).2.1 = 1 by rw [h.rd_d i (by omega) hil]; decide)]
        exact ih (i + 1) (by omega)
  have key : ∀ (k i : Nat), i + k = im.2.2.length → impl_LintImage.l111010 im (endE gs w c i) (im.2.2.length : Int) (i : Int) = some (0, 0, 0) := by
    intro k
    induction k with
    | zero =>
      intro i hi
      have : i = im.2.2.length := by omega
      subst this
      rw [impl_LintImage.l111010_eq, lt_nat, decide_eq_false (Nat.lt_irrefl _), decide_eq_false (show ¬ (im.2.2.length : Int) = 0 by omega), inL_true (i := 0) (by omega) (by omega), decide_eq_true h.first, decide_eq_true h.end, e1]
      exact funs im.2.2.length 0 (by omega)
    | succ k ih =>
      intro i hi
      have hl : i < im.2.2.length := by omega
      rw [impl_LintImage.l111010_eq, lt_nat, decide_eq_true hl, impl_lintS im hz i hl (endE gs w c i) (hE.2.1 i (by omega)), hE.2.2 i hl hl, w64_succ i _ hl (by omega)]
      exact ih (i + 1) (by omega)
  have := key im.2.2.length 0 (by omega)
  rw [hE.1] at this
  exact this
theorem ImgD.imgok0 {im : Img} {gs : List Fn} {w c : Int} (h : ImgD im gs w c) : ImgOK0 im := by
  refine ⟨h.sz, ⟨endE gs w c, h.chain, h.end⟩, by have := h.slen; have := h.hn.1; omega, h.first, fun j hj => ?_⟩
  intro hk
  by_cases hg : j < gs.length
  · have e := h.sym_f j gs[j] (by simp [hg])
    rw [List.getElem?_eq_getElem hj] at e
    have e := Option.some.inj e
    rw [e]
    have hl := (h.funs j gs[j] (by simp [hg])).len
    refine ⟨h.at_ok j, (h.funs j gs[j] (by simp [hg])).1.ok, ?_⟩
    simp only
    rw [show (4 * (gs[j].2.length : Int)).toNat = 4 * gs[j].2.length by omega]
    unfold funcSizeV codeSizeV
    rw [show decide (((4 * gs[j].2.length : Nat) : Int).tmod 4 = 0) = true from decide_eq_true (Int.tmod_eq_zero_of_dvd (by omega)), cond_true, decide_eq_true (show ((4 * gs[j].2.length : Nat) : Int) ≤ 256 by omega), cond_true]
    exact decide_eq_true (by omega)
  · have := h.rd_d j (by omega) hj
    rw [rd_nat (τ := TSym) im.2.2 j hj] at this
    rw [this] at hk; cases hk
theorem ImgD.ok_i {im : Img} {gs : List Fn} {w c : Int} (h : ImgD im gs w c) : impl_ImageOK im = some true := by rw [impl_ImageOK_eq, h.lint_i]; rfl
theorem at_ok (l : List Int) (hb : BytP l) (hl : l.length ≤ 1048576) (k n : Int) (hk : 0 ≤ k ∧ k ≤ 1000) (hn : n ≤ 1000000) : ∃ v, laws_at l k n = some v ∧ 0 ≤ v ∧ (1 ≤ n → v < n) := by
  rw [laws_at_eq]
  by_cases h1 : n ≤ 1
  · rw [decide_eq_true h1]; exact ⟨0, rfl, by omega, by omega⟩
  · rw [decide_eq_false h1]
    simp only [cond_false]
    by_cases h0 : (l.length : Int) = 0
    · rw [decide_eq_true h0, decide_eq_false (show ¬ n = 0 by omega), w64 (n := k * 7) (by omega) (by omega)]
      refine ⟨_, rfl, ?_, fun _ => ?_⟩ <;> rw [Int.tmod_eq_emod_of_nonneg (by omega)]
      · exact Int.emod_nonneg _ (by omega)
      · exact Int.emod_lt_of_pos _ (by omega)
    · have ht : ∀ m : Int, 0 ≤ m → 0 ≤ m.tmod (l.length : Int) ∧ m.tmod (l.length : Int) < (l.length : Int) := fun m hm => by
        rw [Int.tmod_eq_emod_of_nonneg hm]
        exact ⟨Int.emod_nonneg _ (by omega), Int.emod_lt_of_pos _ (by omega)⟩
      have hby : ∀ m : Int, 0 ≤ m → m < (l.length : Int) → ∃ v : Int, rd (τ := .int .u8) l m = v ∧ 0 ≤ v ∧ v ≤ 255 := fun m hm hm' => by
        obtain ⟨j, rfl⟩ : ∃ j : Nat, m = j := ⟨m.toNat, by omega⟩
        rw [rd_nat (τ := .int .u8) l j (by omega)]
        exact ⟨_, rfl, hb _ (List.getElem_mem _)⟩
      obtain ⟨t1, t2⟩ := ht k hk.1
      obtain ⟨t3, t4⟩ := ht (k + 1) (by omega)
      obtain ⟨A, eA, r1, r2⟩ := hby _ t1 t2
      obtain ⟨B, eB, r3, r4⟩ := hby _ t3 t4
      have hd : 0 ≤ k.tdiv (l.length : Int) ∧ k.tdiv (l.length : Int) ≤ k := by
        rw [Int.tdiv_eq_ediv_of_nonneg hk.1]
        exact ⟨Int.ediv_nonneg hk.1 (by omega), Int.ediv_le_self _ hk.1⟩
      rw [decide_eq_false h0, decide_eq_false (show ¬ n = 0 by omega), w64 (n := k + 1) (by omega) (by omega), inL_true t1 t2, inL_true t3 t4]
      simp only [cond_false, cond_true]
      rw [eA, eB]
      generalize k.tdiv (l.length : Int) = D at *
      rw [w64 (n := A) (by omega) (by omega), w64 (n := B) (by omega) (by omega), w64 (n := A * 31) (by omega) (by omega), w64 (n := A * 31 + B) (by omega) (by omega), w64 (n := D) (by omega) (by omega), w64 (n := A * 31 + B + D) (by omega) (by omega)]
      refine ⟨_, rfl, ?_, fun _ => ?_⟩ <;> rw [Int.tmod_eq_emod_of_nonneg (by omega)]
      · exact Int.emod_nonneg _ (by omega)
      · exact Int.emod_lt_of_pos _ (by omega)
theorem entOK_i (e : Ent) : impl_Entry_ok e = some (entOKV e) := by
  rw [impl_Entry_ok_eq]
  unfold entOKV
  rw [name_i, codeAt_val, in_i, in_i, frame_i]
  unfold codeAtV kindV
  simp only [Option.bind_some]
  cases nameV e.1 <;> cases (decide ((0 : Int) ≤ e.2.2.1) && decide (e.2.2.1 ≤ 1048575)) <;> cases decide (e.2.2.1.tmod 4 = 0) <;> cases inR e.2.2.2.1 1 1024 <;> cases inR e.2.2.2.2.2 0 6 <;> cases decide (e.2.1 = 1) <;> cases frameV e.2.2.2.2.1 <;> cases decide (e.2.1 = 2) <;> rfl
theorem ent_i (l : List Ent) (name : ByteArray) (hl : l.length ≤ 1048576) : impl_entryNamed l name = some (entV l name) := by
  rw [impl_entryNamed_eq, slices_IndexFunc_impl_Entry_impl_entryNamed_1_eq]
  unfold entV
  rw [loop_find0 (L := slices_IndexFunc_impl_Entry_impl_entryNamed_1.l1010 name l (l.length : Int)) (fun i => decide ((rd (τ := TEnt) l (i : Int)).1 = name)) l.length ?_ fun i hi => ?_]
  · rfl
  · rw [slices_IndexFunc_impl_Entry_impl_entryNamed_1.l1010_eq, lt_nat]; simp
  · rw [slices_IndexFunc_impl_Entry_impl_entryNamed_1.l1010_eq, lt_nat, inL_nat, decide_eq_true hi, w64_succ i l.length hi (by omega), impl_entryNamed_1_eq, strEq_dec]
    simp only [cond_true, Option.bind_some]
theorem table_i (l : List Ent) : impl_TableOK l = some (tabV l) := by
  rw [impl_TableOK_eq]
  unfold tabV
  rcases Nat.lt_or_ge 64 l.length with h | h
  · rw [show decide ((l.length : Int) > 64) = true by simp; omega, decide_eq_false (show ¬ l.length ≤ 64 by omega)]; rfl
  rw [show decide ((l.length : Int) > 64) = false by simp; omega, decide_eq_true h, cond_false, Bool.true_and]
  refine loop_all0 (L := impl_TableOK.l11010 l l (l.length : Int)) (tabP l) l.length ?_ fun i hi => ?_
  · rw [impl_TableOK.l11010_eq, lt_nat]; simp
  · rw [impl_TableOK.l11010_eq, lt_nat, inL_nat, decide_eq_true hi, w64_succ i l.length hi (by omega), entOK_i, take_drop0, range_true i _ (by omega), ent_i _ _ (by simp; omega)]
    unfold tabP
    rw [lt_not_ge]
    simp only [cond_true, Option.bind_some]
    cases entOKV (rd (τ := TEnt) l i) <;> cases decide (entV (l.take i) (rd (τ := TEnt) l i).1 ≥ 0) <;> rfl
theorem place_i (s : Sym) : impl_Symbol_address s = some (plS s) := by
  rw [impl_Symbol_address_eq]
  unfold plS
  cases decide (s.2.1 = 1) <;> rfl
theorem imgT_i (im : Img) (hn : im.2.2.length ≤ 16) : impl_imageTable im = some (imgT im) := by
  rw [impl_imageTable_eq, loop_map0 (L := fun acc i => impl_imageTable.l11010 acc im.2.2 (im.2.2.length : Int) i) (entI im) im.2.2.length [] fun acc i hi ha => ?_]
  · rw [impl_imageTable.l11010_eq, lt_nat, decide_eq_false (Nat.lt_irrefl _), cond_false, List.nil_append]; rfl
  · show impl_imageTable.l11010 acc im.2.2 (im.2.2.length : Int) (i : Int) = _
    rw [impl_imageTable.l11010_eq, lt_nat, inL_nat, decide_eq_true hi, w64_succ i _ hi (by omega), place_i]
    simp only [cond_true, Option.bind_some]
    rw [room56 _ (by simp at ha ⊢; omega)]; rfl
theorem imgT_length (im : Img) : (imgT im).length = im.2.2.length := mapB_length _ _ _
theorem rd_imgT (im : Img) (i : Nat) (hi : i < im.2.2.length) : rd (τ := TEnt) (imgT im) (i : Int) = entI im i := by
  rw [rd_nat (τ := TEnt) _ i (by rw [imgT_length]; exact hi)]
  unfold imgT
  rw [mapB_get, Nat.zero_add]
theorem ImgD.tab {im : Img} {gs : List Fn} {w c : Int} (h : ImgD im gs w c) : tabV (imgT im) = true := tabV_iff.2 (imgT_tab h.imgok0)
theorem BL_ok : lOK BL = true := by decide +kernel
theorem memBL_ok (F : Int → Int) : impl_MemoryOK (memF F BL) = some true := by rw [memory_i, memV_memF, BL_ok]
theorem set_rd {τ : Ty} (l : List τ.den) (i : Nat) (h : i < l.length) : l.set i (rd (τ := τ) l (i : Int)) = l := by
  rw [rd_nat _ _ h]
  apply List.ext_getElem
  · simp
  · intro j h1 h2
    rw [List.getElem_set]
    split
    · rename_i e; subst e; rfl
    · rfl
theorem own_threads (l : List Thr) (h : l.length ≤ 1048576) (hb : ∀ x ∈ l, x.2.2.1.length ≤ 1048576) : impl_ownThreads l = some l := by
  have : ownOK l = true := by
    unfold ownOK
    rw [room_le (by omega) (by omega), Bool.true_and, List.all_eq_true]
    intro x hx
    have := hb x hx
    exact room_le (by omega) (by omega)
  rw [impl_ownThreads_eq, this]; rfl
theorem hart_i (h : List Int × Int) : impl_HartOK h = some (hartV h) := by rw [impl_HartOK_eq]; rfl
theorem thr_i (t : Thr) : impl_Thread_ok t = some (thrV t) := by
  rw [impl_Thread_ok_eq, within_val, within_val, hart_i]
  unfold thrV joinB inR
  simp only [Option.bind_some]
  cases decide (1 ≤ t.1) && decide (t.1 ≤ 3) <;> cases hartV t.2.1 <;> cases decide ((t.2.2.1.length : Int) ≤ 32) <;> cases decide (t.1 = 3) <;> rfl
theorem threads_i (l : List Thr) : impl_threadsOK l = some (thrsV l) := by
  rw [impl_threadsOK_eq, within_val]
  unfold thrsV
  show (some (inR (l.length : Int) 1 4)).bind _ = _
  simp only [Option.bind_some]
  cases h : inR (l.length : Int) 1 4 with
  | false => rfl
  | true =>
    have hl : l.length ≤ 4 := by rw [inR_iff] at h; omega
    rw [slices_ContainsFunc_impl_Thread_impl_threadsOK_1_eq, slices_IndexFunc_impl_Thread_impl_threadsOK_1_eq, loop_find0 (L := slices_IndexFunc_impl_Thread_impl_threadsOK_1.l1010 l (l.length : Int)) (fun i => !thrV (rd (τ := TThr) l (i : Int))) l.length ?_ fun i hi => ?_]
    · simp only [Option.bind_some, cond_true, Bool.true_and]
      rw [find_all]; simp
    · rw [slices_IndexFunc_impl_Thread_impl_threadsOK_1.l1010_eq, lt_nat]; simp
    · rw [slices_IndexFunc_impl_Thread_impl_threadsOK_1.l1010_eq, lt_nat, inL_nat, decide_eq_true hi, w64_succ i l.length hi (by omega), impl_threadsOK_1_eq, thr_i]
      simp only [cond_true, Option.bind_some]
theorem thrs_of {l : List Thr} (h : 1 ≤ l.length ∧ l.length ≤ 4) (ht : ∀ t ∈ l, thrV t = true) : thrsV l = true := by
  unfold thrsV
  rw [Bool.and_eq_true, inR_iff, allB_iff]
  exact ⟨by omega, fun j h1 h2 => ht _ (rd_mem_list (τ := TThr) l j (by omega))⟩
/-- The machine of an image with other threads. -/
noncomputable def mkM (im : Img) (T : List Thr) : Mac := (memF (F0 im) BL, T, imgT im, [])
theorem mkM_ok {im : Img} {gs : List Fn} {w c : Int} (h : ImgD im gs w c) {T : List Thr} (hT : thrsV T = true) : impl_MachineOK (mkM im T) = some true := by
  unfold mkM
  rw [impl_MachineOK_eq]
  simp only
  rw [memBL_ok, table_i, h.tab, impl_ShadowsOK_eq, impl_ShadowsOK.l11010_eq, threads_i, hT]
  rfl
theorem mkM_own {im : Img} {gs : List Fn} {w c : Int} (h : ImgD im gs w c) {T : List Thr} (h1 : T.length ≤ 4) (h2 : ∀ t ∈ T, t.2.2.1.length ≤ 32) : impl_Machine_own (mkM im T) = some (mkM im T) := by
  have hz := h.sz.n
  have hl := imgT_length im
  have hm : (memF (F0 im) BL).length = 36 := by simp [memF, BL_len]
  unfold mkM
  rw [impl_Machine_own_eq, impl_Memory_own_eq]
  simp only
  rw [slices_Clone_impl_Page_eq, room_le (by omega) (by omega), own_threads T (by omega) (fun x hx => by have := h2 x hx; omega), slices_Clone_impl_Entry_eq, room_le (by omega) (by omega), slices_Clone_impl_Shadow_eq, room_le (by simp) (by simp)]
  rfl
theorem new_i {im : Img} {gs : List Fn} {w c : Int} (h : ImgD im gs w c) : ∃ pc : Int, impl_NewMachine im = some (mkM im [(1, ((List.replicate 32 0).set 2 33280, pc), [], 0)], 0) := by
  have hz := h.sz
  have h0 := h.hn
  have hs := h.slen
  refine ⟨plS (rd (τ := TSym) im.2.2 0), ?_⟩
  rw [impl_NewMachine_eq, h.ok_i]
  simp only [Option.bind_some, Bool.not_true, cond_false]
  rw [impl_newMachine_eq, impl_loaded im hz.c hz.d, imgT_i im hz.n, place_i, impl_stackTop_eq, inL_true (i := 0) (by omega) (by omega)]
  simp only [Option.bind_some, cond_true]
  rw [impl_NewHart_eq]
  rfl
theorem rd0 {τ : Ty} (x : τ.den) (l : List τ.den) : rd (τ := τ) (x :: l) 0 = x := rfl
theorem inL0 {α : Type} (x : α) (l : List α) : inL 0 (x :: l).length = true := inL_true (by omega) (by simp only [List.length_cons]; omega)
theorem run_i {im : Img} {t : Thr} {T : List Thr} (ht : t.1 = 1) (hl : T.length ≤ 3) : impl_Machine_isRunning (mkM im (t :: T)) 0 = some 0 := by
  unfold mkM
  rw [impl_Machine_isRunning_eq]
  simp only
  rw [within_val, w64 (n := (((t :: T).length : Nat) : Int) - 1) (by simp only [List.length_cons]; omega) (by simp only [List.length_cons]; omega), decide_eq_true (show (0 : Int) ≤ (((t :: T).length : Nat) : Int) - 1 by simp only [List.length_cons]; omega), inL0, rd0, ht]
  rfl
theorem ecall_of {im : Img} {gs : List Fn} {w c : Int} (h : ImgD im gs w c) {t : Thr} {T : List Thr} {M : Mac} (hl : T.length ≤ 3) (hT : ∀ x ∈ t :: T, thrV x = true) (ho : ∀ x ∈ t :: T, x.2.2.1.length ≤ 32) (ht : t.1 = 1) (he : impl_Machine_ecall (mkM im (t :: T)) 0 = some M) :
    impl_EcallOf (mkM im (t :: T)) 0 = some (M, 0) := by
  rw [impl_EcallOf_eq, mkM_ok h (thrs_of (by simp; omega) hT), mkM_own h (by simp; omega) ho, run_i ht hl]
  simp only [Option.bind_some, Bool.not_true, cond_false, decide_true, cond_true]
  rw [he]; rfl
theorem thrV_run {R out : List Int} {pc : Int} (h0 : R.getD 0 0 = 0) (ho : out.length ≤ 32) : thrV (1, (R, pc), out, 0) = true := by
  unfold thrV hartV
  simp only
  rw [show rd (τ := .int .i64) R 0 = (0 : Int) from h0, decide_eq_true (show (out.length : Int) ≤ 32 by omega)]
  rfl
theorem getD_set_ne {R : List Int} {i j : Nat} {v : Int} (h : i ≠ j) : (R.set i v).getD j 0 = R.getD j 0 := by
  rw [List.getD_eq_getElem?_getD, List.getD_eq_getElem?_getD, List.getElem?_set_ne h]
theorem getD_set_eq {R : List Int} {i : Nat} {v : Int} (h : i < R.length) : (R.set i v).getD i 0 = v := by
  rw [List.getD_eq_getElem?_getD, List.getElem?_set_self h]; rfl
theorem mkM_1 (im : Img) (T : List Thr) : (mkM im T).1 = memF (F0 im) BL := rfl
theorem mkM_T (im : Img) (T : List Thr) : (mkM im T).2.1 = T := rfl
theorem mkM_r (im : Img) (T : List Thr) : (mkM im T).2.2 = (imgT im, []) := rfl
theorem set0 {α : Type} (x y : α) (l : List α) : (x :: l).set (Int.toNat 0) y = y :: l := rfl
theorem len1 {α : Type} (x : α) : (([x].length : Nat) : Int) = 1 := rfl
theorem join_false {A : (Bool → Option Bool) → Option Bool} {K : Bool → Option Bool} (hA : ∀ K, A K = K false) (hK : K false = some true) : joinB A K = some true := (hA K).trans hK
theorem number_ok (a : List Int) (ha : BytP a) (hn : a.length ≤ 1048576) : ∃ v, spec_NumberOf a = some v := by
  obtain ⟨s, e, hs⟩ := source_ok a ha hn
  obtain ⟨v, t, e2, _⟩ := wide_ok (K := 0) (s := s) (hs.mono (by decide))
  refine ⟨v, ?_⟩
  rw [spec_NumberOf_eq, e]
  simp only [Option.bind_some, optC]
  rw [e2]; rfl
def stkV (n : Int) : Int := IntKind.wrap .i64 (IntKind.wrap .i64 (32768 + IntKind.wrap .i64 (1024 * n)) + 512)
def hartN (a n v : Int) : List Int × Int := ((([0, 0, 0, 0, 0, 0, 0, 0, 0, 0, 0, 0, 0, 0, 0, 0, 0, 0, 0, 0, 0, 0, 0, 0, 0, 0, 0, 0, 0, 0, 0, 0] : List Int).set (Int.toNat 2) (stkV n)).set (Int.toNat 10) v, a)
theorem ent_kind {im : Img} (k : Nat) (hk : k < im.2.2.length) : (rd (τ := TEnt) (imgT im) (k : Int)).2.1 = (rd (τ := TSym) im.2.2 (k : Int)).2.1 ∧ (rd (τ := TEnt) (imgT im) (k : Int)).2.2.1 = plS (rd (τ := TSym) im.2.2 (k : Int)) := by
  rw [rd_imgT im k hk]; exact ⟨rfl, rfl⟩
theorem spawn_no {im : Img} {gs : List Fn} {w c : Int} (h : ImgD im gs w c) (k : Nat) (hk : k < im.2.2.length) (v : Int) (T : List Thr) (hc : T.length = 4 ∨ (rd (τ := TSym) im.2.2 (k : Int)).2.1 ≠ 1) : impl_Machine_spawn (mkM im T) k v = some (-1, mkM im T) := by
  have hz := h.sz.n
  have hl := imgT_length im
  unfold mkM
  rw [impl_Machine_spawn_eq]
  simp only [joinB]
  by_cases h4 : (T.length : Int) = 4
  · rw [decide_eq_true h4]; rfl
  · have hc : (rd (τ := TSym) im.2.2 (k : Int)).2.1 ≠ 1 := hc.resolve_left (by omega)
    rw [decide_eq_false h4, within_val, w64 (n := ((imgT im).length : Int) - 1) (by omega) (by omega), decide_eq_true (show (0 : Int) ≤ (k : Int) by omega), decide_eq_true (show (k : Int) ≤ ((imgT im).length : Int) - 1 by omega), inL_true (i := (k : Int)) (by omega) (by omega)]
    simp only [cond_false, Option.bind_some, Bool.and_self, Bool.not_true, cond_true]
    rw [(ent_kind k hk).1, decide_eq_false hc]; rfl
theorem spawn_yes {im : Img} {gs : List Fn} {w c : Int} (h : ImgD im gs w c) (k : Nat) (hk : k < im.2.2.length) (v : Int) (T : List Thr) (hT : T.length ≤ 3) (hc : (rd (τ := TSym) im.2.2 (k : Int)).2.1 = 1) :
    impl_Machine_spawn (mkM im T) k v = some ((T.length : Int), mkM im (T ++ [(1, hartN (plS (rd (τ := TSym) im.2.2 (k : Int))) T.length v, [], 0)])) := by
  have hz := h.sz.n
  have hl := imgT_length im
  obtain ⟨e1, e2⟩ := ent_kind (im := im) k hk
  have hs : (T ++ [((0, ((List.replicate 32 0), 0), [], 0) : Thr)]).set T.length (1, hartN (plS (rd (τ := TSym) im.2.2 (k : Int))) T.length v, [], 0) = T ++ [(1, hartN (plS (rd (τ := TSym) im.2.2 (k : Int))) T.length v, [], 0)] := by
    rw [List.set_append_right _ _ (Nat.le_refl _), Nat.sub_self]; rfl
  unfold mkM
  rw [impl_Machine_spawn_eq]
  simp only [joinB]
  rw [decide_eq_false (show ¬ (T.length : Int) = 4 by omega), within_val, w64 (n := ((imgT im).length : Int) - 1) (by omega) (by omega), decide_eq_true (show (0 : Int) ≤ (k : Int) by omega), decide_eq_true (show (k : Int) ≤ ((imgT im).length : Int) - 1 by omega), inL_true (i := (k : Int)) (by omega) (by omega)]
  simp only [cond_false, Option.bind_some, Bool.and_self, Bool.not_true, cond_true]
  rw [e1, decide_eq_true hc, impl_stackTop_eq]
  simp only [Bool.not_true, cond_false, Option.bind_some]
  rw [e2, impl_NewHart_eq]
  show ((impl_Hart_set ((([0, 0, 0, 0, 0, 0, 0, 0, 0, 0, 0, 0, 0, 0, 0, 0, 0, 0, 0, 0, 0, 0, 0, 0, 0, 0, 0, 0, 0, 0, 0, 0] : List Int).set (Int.toNat 2) (stkV T.length)), plS (rd (τ := TSym) im.2.2 (k : Int))) 10 v).bind _) = _
  rw [impl_Hart_set_eq, decide_eq_false (show ¬ (10 : Int) = 0 by decide)]
  simp only [Bool.not_false, cond_true, show inL 10 32 = true from rfl, Option.bind_some]
  rw [room_le (by simp; omega) (by simp; omega), cond_true]
  show some _ = some _
  congr 1
  refine Prod.ext rfl (Prod.ext rfl (Prod.ext hs rfl))
theorem ec_4 {im : Img} (R out : List Int) (pc tr : Int) (T U : List Thr) (u : Thr) (n : Int) (hR : R.getD 17 0 = 4) (hs : impl_Machine_spawn (mkM im ((1, (R, pc), out, tr) :: T)) (R.getD 10 0) (R.getD 11 0) = some (n, mkM im (u :: U))) :
    impl_Machine_ecall (mkM im ((1, (R, pc), out, tr) :: T)) 0 = some (mkM im ((u.1, (R.set (Int.toNat 10) n, IntKind.wrap .i64 (pc + 4)), u.2.2) :: U)) := by
  unfold mkM at hs ⊢
  rw [impl_Machine_ecall_eq]
  simp only
  rw [inL0, rd0]
  simp only [cond_true, show inL 10 32 = true from rfl, show inL 17 32 = true from rfl, show inL 11 32 = true from rfl, decide_true]
  rw [show rd (τ := .int .i64) R 17 = (4 : Int) from hR]
  show ((impl_Machine_spawn _ (R.getD 10 0) (R.getD 11 0)).bind _) = _
  rw [hs]
  simp only [Option.bind_some]
  rw [inL0]
  rfl
theorem join_true {A : (Bool → Option Bool) → Option Bool} {K : Bool → Option Bool} (hA : ∀ K, A K = K true) (hK : K true = some true) : joinB A K = some true := (hA K).trans hK
theorem zip_refl : ∀ l : List Int, ((l.zip l).all fun p => eqD (.int .i64) p.1 p.2) = true
  | [] => rfl
  | x :: l => by
    rw [List.zip_cons_cons, List.all_cons, zip_refl l, Bool.and_true]
    exact decide_eq_true rfl
theorem hart_refl (a : List Int × Int) : eqD THart a a = true := by
  show (((a.1.zip a.1).all fun p => eqD (.int .i64) p.1 p.2) && decide (a.2 = a.2)) = true
  rw [zip_refl, decide_eq_true rfl]; rfl
theorem hartN_0 (a n v : Int) : (hartN a n v).1.getD 0 0 = 0 := rfl
theorem thrs_cons {R : List Int} {pc : Int} {T : List Thr} (h0 : R.getD 0 0 = 0) (hT : ∀ x ∈ T, thrV x = true ∧ x.2.2.1.length ≤ 32) : (∀ x ∈ ((1, (R, pc), [], 0) : Thr) :: T, thrV x = true) ∧ ∀ x ∈ ((1, (R, pc), [], 0) : Thr) :: T, x.2.2.1.length ≤ 32 := by
  constructor
  · intro x hx
    rcases List.mem_cons.1 hx with rfl | hx
    · exact thrV_run h0 (by simp)
    · exact (hT x hx).1
  · intro x hx
    rcases List.mem_cons.1 hx with rfl | hx
    · simp
    · exact (hT x hx).2
theorem spawn_loop {im : Img} {gs : List Fn} {w c : Int} (h : ImgD im gs w c) (k : Nat) (hk : k < im.2.2.length) (v : Int) : ∀ (n i : Nat) (R : List Int) (pc : Int) (T : List Thr), i + n = 5 → 1 ≤ i → R.length = 32 → R.getD 0 0 = 0 → (∀ x ∈ T, thrV x = true ∧ x.2.2.1.length ≤ 32) → T.length ≤ 3 → ((rd (τ := TSym) im.2.2 (k : Int)).2.1 = 1 → T.length + 1 = min i 4) →
    laws_FnSpawn.l1111111010 im (mkM im ((1, (R, pc), [], 0) :: T)) k v i = some true := by
  have hz := h.sz.n
  intro n
  induction n with
  | zero =>
    intro i R pc T hi h1 hR h0 hT hl hs
    rw [laws_FnSpawn.l1111111010_eq, decide_eq_false (show ¬ (i : Int) ≤ 4 by omega), mkM_ok h (thrs_of (by simp; omega) (thrs_cons h0 hT).1)]
    rfl
  | succ n ih =>
    intro i R pc T hi h1 hR h0 hT hl hs
    have a0 : (((R.set (Int.toNat 17) 4).set (Int.toNat 10) (k : Int)).set (Int.toNat 11) v).getD 0 0 = 0 := by rw [getD_set_ne (by decide), getD_set_ne (by decide), getD_set_ne (by decide)]; exact h0
    have a17 : (((R.set (Int.toNat 17) 4).set (Int.toNat 10) (k : Int)).set (Int.toNat 11) v).getD 17 0 = 4 := by rw [getD_set_ne (by decide), getD_set_ne (by decide)]; exact getD_set_eq (by rw [hR]; decide)
    have a10 : (((R.set (Int.toNat 17) 4).set (Int.toNat 10) (k : Int)).set (Int.toNat 11) v).getD 10 0 = (k : Int) := by rw [getD_set_ne (by decide)]; exact getD_set_eq (by rw [List.length_set, hR]; decide)
    have a11 : (((R.set (Int.toNat 17) 4).set (Int.toNat 10) (k : Int)).set (Int.toNat 11) v).getD 11 0 = v := getD_set_eq (by rw [List.length_set, List.length_set, hR]; decide)
    obtain ⟨Q, hQ⟩ : ∃ Q, ((R.set (Int.toNat 17) 4).set (Int.toNat 10) (k : Int)).set (Int.toNat 11) v = Q := ⟨_, rfl⟩
    have hQl : Q.length = 32 := by rw [← hQ, List.length_set, List.length_set, List.length_set, hR]
    rw [laws_FnSpawn.l1111111010_eq, decide_eq_true (show (i : Int) ≤ 4 by omega)]
    simp only [mkM_T, mkM_1, mkM_r, inL0, set0, letB, cond_true, show inL 17 32 = true from rfl, show inL 10 32 = true from rfl, show inL 11 32 = true from rfl]
    rw [hQ] at a0 a17 a10 a11
    show ((impl_EcallOf (memF (F0 im) BL, ((1, (((R.set (Int.toNat 17) 4).set (Int.toNat 10) (k : Int)).set (Int.toNat 11) v, pc), [], 0) : Thr) :: T, imgT im, []) 0).bind _) = some true
    rw [hQ]
    have tc := thrs_cons (pc := pc) a0 hT
    have hq10 : ∀ m : Int, rd (τ := .int .i64) (Q.set (Int.toNat 10) m) 10 = m := fun m => getD_set_eq (by rw [hQl]; decide)
    have hq0 : ∀ m : Int, (Q.set (Int.toNat 10) m).getD 0 0 = 0 := fun m => by rw [getD_set_ne (by decide)]; exact a0
    have hkl : inL (k : Int) im.2.2.length = true := inL_true (by omega) (by omega)
    by_cases hy : (rd (τ := TSym) im.2.2 (k : Int)).2.1 = 1 ∧ i < 4
    · obtain ⟨hy, hi4⟩ := hy
      have hTl := hs hy
      have es := spawn_yes h k hk v (((1, (Q, pc), [], 0) : Thr) :: T) (by simp; omega) hy
      rw [show ((((((1, (Q, pc), [], 0) : Thr) :: T).length : Nat) : Int)) = (i : Int) by simp; omega] at es
      have ec0 := ec_4 (im := im) Q [] pc 0 T (T ++ [(1, hartN (plS (rd (τ := TSym) im.2.2 (k : Int))) (i : Int) v, [], 0)]) (1, (Q, pc), [], 0) (i : Int) a17 (by rw [a10, a11]; exact es)
      have hnew : ∀ x ∈ T ++ [((1, hartN (plS (rd (τ := TSym) im.2.2 (k : Int))) (i : Int) v, [], 0) : Thr)], thrV x = true ∧ x.2.2.1.length ≤ 32 := fun x hx => by
        rcases List.mem_append.1 hx with hx | hx
        · exact hT x hx
        · rw [List.mem_singleton] at hx; subst hx
          exact ⟨thrV_run (R := (hartN (plS (rd (τ := TSym) im.2.2 (k : Int))) (i : Int) v).1) (pc := plS (rd (τ := TSym) im.2.2 (k : Int))) (hartN_0 (plS (rd (τ := TSym) im.2.2 (k : Int))) (i : Int) v) (by simp), by simp⟩
      have hIH := ih (i + 1) (Q.set (Int.toNat 10) (i : Int)) (IntKind.wrap .i64 (pc + 4)) (T ++ [(1, hartN (plS (rd (τ := TSym) im.2.2 (k : Int))) (i : Int) v, [], 0)]) (by omega) (by omega) (by rw [List.length_set, hQl]) (hq0 _) hnew (by simp; omega) (fun _ => by simp; omega)
      obtain ⟨L, hL⟩ : ∃ L, ((1, (Q.set (Int.toNat 10) (i : Int), IntKind.wrap .i64 (pc + 4)), [], 0) : Thr) :: (T ++ [(1, hartN (plS (rd (τ := TSym) im.2.2 (k : Int))) (i : Int) v, [], 0)]) = L := ⟨_, rfl⟩
      have ec : impl_Machine_ecall (mkM im (((1, (Q, pc), [], 0) : Thr) :: T)) 0 = some (mkM im L) := by rw [← hL]; exact ec0
      have eE : impl_EcallOf (memF (F0 im) BL, ((1, (Q, pc), [], 0) : Thr) :: T, imgT im, []) 0 = some (mkM im L, 0) := ecall_of h hl tc.1 tc.2 rfl ec
      rw [hL] at hIH
      have hLl : L.length = i + 1 := by rw [← hL]; simp; omega
      have hLi : rd (τ := TThr) L (i : Int) = (1, hartN (plS (rd (τ := TSym) im.2.2 (k : Int))) (i : Int) v, [], 0) := by
        rw [rd_nat (τ := TThr) L i (by omega)]
        subst hL
        have : i = T.length + 1 := by omega
        subst this
        simp
      have hL0 : rd (τ := TThr) L 0 = (1, (Q.set (Int.toNat 10) (i : Int), IntKind.wrap .i64 (pc + 4)), [], 0) := by rw [← hL]; rfl
      have eA : impl_AddressOf im (k : Int) = some (plS (rd (τ := TSym) im.2.2 (k : Int)), 0) := by
        rw [impl_AddressOf_eq, h.ok_i, w64 (n := (im.2.2.length : Int) - 1) (by omega) (by omega)]
        simp only [Option.bind_some, Bool.not_true, cond_false]
        rw [within_val, decide_eq_true (show (0 : Int) ≤ (k : Int) by omega), decide_eq_true (show (k : Int) ≤ (im.2.2.length : Int) - 1 by omega)]
        simp only [Option.bind_some, Bool.and_self, Bool.not_true, cond_false]
        rw [hkl, place_i]; rfl
      have eT : impl_StackTop (i : Int) = some (stkV i, 0) := by
        rw [impl_StackTop_eq, within_val, decide_eq_true (show (0 : Int) ≤ (i : Int) by omega), decide_eq_true (show (i : Int) ≤ 3 by omega), impl_stackTop_eq]; rfl
      have iL0 : inL 0 L.length = true := inL_true (by omega) (by omega)
      have iLi : inL (i : Int) L.length = true := inL_true (by omega) (by omega)
      have hset : L.set (Int.toNat (i : Int)) (rd (τ := TThr) L (i : Int)) = L := by rw [Int.toNat_natCast]; exact set_rd (τ := TThr) L i (by omega)
      rw [eE]
      simp only [Option.bind_some, mkM_T, mkM_1, mkM_r]
      refine join_false (fun K => ?_) ?_
      · show (bif !decide ((0 : Int) = 0) then K true else (bif decide (((L.length : Nat) : Int) = 0) then K true else (bif inL 0 L.length then K (!decide ((rd (τ := TThr) L 0).2.1.2 = IntKind.wrap .i64 (pc + 4))) else none))) = K false
        rw [decide_eq_false (show ¬ ((L.length : Nat) : Int) = 0 by omega), iL0, hL0]
        simp only
        simp only [decide_true]; rfl
      · simp only [cond_false]
        rw [iL0]
        simp only [cond_true]
        refine join_false (fun K => ?_) ?_
        · rw [hkl, decide_eq_true hy, decide_eq_false (show ¬ (i : Int) = 4 by omega)]; rfl
        · simp only [cond_false]
          rw [eA]
          simp only [Option.bind_some]
          rw [eT]
          simp only [Option.bind_some]
          refine join_false (fun K => ?_) ?_
          · show (bif !decide (rd (τ := .int .i64) (rd (τ := TThr) L 0).2.1.1 10 = (i : Int)) then K true else (bif !decide (((L.length : Nat) : Int) = IntKind.wrap .i64 ((i : Int) + 1)) then K true else (bif !decide ((0 : Int) = 0) then K true else K (!decide ((0 : Int) = 0))))) = K false
            rw [hL0]
            simp only
            rw [hq10, decide_eq_true rfl, w64 (n := (i : Int) + 1) (by omega) (by omega), decide_eq_true (show ((L.length : Nat) : Int) = (i : Int) + 1 by omega)]; rfl
          · simp only [cond_false]
            rw [iLi, impl_NewHart_eq]
            show (bif !decide ((rd (τ := TThr) L (i : Int)).1 = 1) then some false else (bif (!(eqD THart ((rd (τ := TThr) L (i : Int)).2.1) (hartN (plS (rd (τ := TSym) im.2.2 (k : Int))) (i : Int) v))) then some false else (bif (!decide ((((rd (τ := TThr) L (i : Int)).2.2.1).length : Int) = 0)) then some false else laws_FnSpawn.l1111111010 im ((memF (F0 im) BL), (L.set (Int.toNat (i : Int)) (rd (τ := TThr) L (i : Int))), imgT im, []) (k : Int) v (IntKind.wrap .i64 ((i : Int) + 1))))) = some true
            rw [hset, hLi]
            simp only
            rw [hart_refl, w64 (n := (i : Int) + 1) (by omega) (by omega), show (i : Int) + 1 = ((i + 1 : Nat) : Int) by omega]
            exact hIH
    · have hno : (((1, (Q, pc), [], 0) : Thr) :: T).length = 4 ∨ (rd (τ := TSym) im.2.2 (k : Int)).2.1 ≠ 1 := by
        by_cases hk1 : (rd (τ := TSym) im.2.2 (k : Int)).2.1 = 1
        · have := hs hk1
          left
          have : ¬ i < 4 := fun hi4 => hy ⟨hk1, hi4⟩
          simp; omega
        · exact .inr hk1
      have es := spawn_no h k hk v (((1, (Q, pc), [], 0) : Thr) :: T) hno
      have ec0 := ec_4 (im := im) Q [] pc 0 T T (1, (Q, pc), [], 0) (-1) a17 (by rw [a10, a11]; exact es)
      have hIH := ih (i + 1) (Q.set (Int.toNat 10) (-1)) (IntKind.wrap .i64 (pc + 4)) T (by omega) (by omega) (by rw [List.length_set, hQl]) (hq0 _) hT hl (fun hk1 => by
        have := hs hk1
        have : ¬ i < 4 := fun hi4 => hy ⟨hk1, hi4⟩
        omega)
      obtain ⟨L, hL⟩ : ∃ L, ((1, (Q.set (Int.toNat 10) (-1), IntKind.wrap .i64 (pc + 4)), [], 0) : Thr) :: T = L := ⟨_, rfl⟩
      have ec : impl_Machine_ecall (mkM im (((1, (Q, pc), [], 0) : Thr) :: T)) 0 = some (mkM im L) := by rw [← hL]; exact ec0
      have eE : impl_EcallOf (memF (F0 im) BL, ((1, (Q, pc), [], 0) : Thr) :: T, imgT im, []) 0 = some (mkM im L, 0) := ecall_of h hl tc.1 tc.2 rfl ec
      rw [hL] at hIH
      have hLl : L.length = T.length + 1 := by rw [← hL]; simp
      have hL0 : rd (τ := TThr) L 0 = (1, (Q.set (Int.toNat 10) (-1), IntKind.wrap .i64 (pc + 4)), [], 0) := by rw [← hL]; rfl
      have iL0 : inL 0 L.length = true := inL_true (by omega) (by omega)
      rw [eE]
      simp only [Option.bind_some, mkM_T, mkM_1, mkM_r]
      refine join_false (fun K => ?_) ?_
      · show (bif !decide ((0 : Int) = 0) then K true else (bif decide (((L.length : Nat) : Int) = 0) then K true else (bif inL 0 L.length then K (!decide ((rd (τ := TThr) L 0).2.1.2 = IntKind.wrap .i64 (pc + 4))) else none))) = K false
        rw [decide_eq_false (show ¬ ((L.length : Nat) : Int) = 0 by omega), iL0, hL0]
        simp only
        simp only [decide_true]; rfl
      · simp only [cond_false]
        rw [iL0]
        simp only [cond_true]
        refine join_true (fun K => ?_) ?_
        · rw [hkl]
          by_cases hk1 : (rd (τ := TSym) im.2.2 (k : Int)).2.1 = 1
          · have : ¬ i < 4 := fun hi4 => hy ⟨hk1, hi4⟩
            rw [decide_eq_true hk1, decide_eq_true (show (i : Int) = 4 by omega)]; rfl
          · rw [decide_eq_false hk1]; rfl
        · simp only [cond_true]
          show (bif !decide (rd (τ := .int .i64) (rd (τ := TThr) L 0).2.1.1 10 = (-1 : Int)) then some false else (bif !decide (((L.length : Nat) : Int) = (((((1, (Q, pc), [], 0) : Thr) :: T).length : Nat) : Int)) then some false else laws_FnSpawn.l1111111010 im (mkM im L) (k : Int) v (IntKind.wrap .i64 ((i : Int) + 1)))) = some true
          rw [hL0]
          simp only
          rw [hq10, decide_eq_true rfl, decide_eq_true (show ((L.length : Nat) : Int) = (((((1, (Q, pc), [], 0) : Thr) :: T).length : Nat) : Int) by simp; omega), w64 (n := (i : Int) + 1) (by omega) (by omega), show (i : Int) + 1 = ((i + 1 : Nat) : Int) by omega]
          exact hIH
theorem spawn_law (a b : List Int) (ha : BytP a) (hb : BytP b) : laws_FnSpawn a b = some true := by
  rw [laws_FnSpawn_eq]
  simp only [joinB]
  by_cases h1 : (a.length : Int) > 1048576
  · rw [decide_eq_true h1]; rfl
  rw [decide_eq_false h1]
  simp only [cond_false]
  by_cases h2 : (b.length : Int) > 1048576
  · rw [decide_eq_true h2]; rfl
  rw [decide_eq_false h2]
  simp only [cond_false]
  obtain ⟨im, gs, w, c, e1, h⟩ := imageDrawn_ok a ha (by omega)
  have hz := h.sz.n
  have h0 := h.hn
  have hsl := h.slen
  obtain ⟨pc, e2⟩ := new_i h
  obtain ⟨v, e3⟩ := number_ok b hb (by omega)
  obtain ⟨k0, e4, k1, k2⟩ := at_ok b hb (by omega) 0 (im.2.2.length : Int) (by decide) (by omega)
  have k2 := k2 (by omega)
  obtain ⟨k, rfl⟩ : ∃ k : Nat, k0 = k := ⟨k0.toNat, by omega⟩
  rw [e1]
  simp only [Option.bind_some]
  rw [e2]
  simp only [Option.bind_some, mkM_T, mkM_r, len1, decide_true, Bool.not_true, cond_false]
  show (bif !decide ((((imgT im).length : Nat) : Int) = ((im.2.2.length : Nat) : Int)) then some false else ((laws_at b 0 (im.2.2.length : Int)).bind _)) = some true
  rw [imgT_length, decide_eq_true rfl, e4]
  simp only [Option.bind_some, Bool.not_true, cond_false]
  rw [e3]
  exact spawn_loop h k (by omega) v 4 1 _ pc [] (by omega) (by omega) (by simp) (by decide) (by simp) (by simp) (fun _ => rfl)
end Go.Proofs.YtbdaphohbocmhaaGreat.S
