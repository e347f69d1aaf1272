/- Pure sides: what the functions come to (numbers and lists alone). -/
import Derived.Test.YthkkaoggieganaaSxP
namespace Go.Proofs.Ythkkaoggieganaa.S
open Go.Ps
set_option linter.unusedVariables false
set_option maxRecDepth 100000
theorem fixS_off (S : List Sym) : ∀ (r : List Fn) (i t : Nat), offF (fixS S i r) t = offF r t
  | [], _, _ => rfl
  | q :: r, i, 0 => by simp [offF, lenS]
  | q :: r, i, t + 1 => by
    have := fixS_off S r (i + 1) t
    simp only [offF, fixS, List.take_succ_cons, lenS, fixL_length] at this ⊢
    rw [this]
theorem symA_place (fs : List Fn) (h5 : fs.length ≤ 5) (hl : ∀ p ∈ fs, p.2.length ≤ 29) (t : Nat) (ht : t < fs.length) : (rd (τ := TSym) (symA 0 0 fs) (t : Int)).2.2.1 = 4 * (offF fs t : Int) := by
  have := symA_get fs 0 0 t fs[t] (by simp [ht])
  rw [rd_some (τ := TSym) _ t _ this]
  show ((4 * (0 + offF fs t) : Nat) : Int) = _
  omega
theorem symA_placeR (fs : List Fn) (h5 : fs.length ≤ 5) (hl : ∀ p ∈ fs, p.2.length ≤ 29) : PlaceR (symA 0 0 fs) := by
  refine ⟨by rw [symA_length]; omega, fun j hj => ?_⟩
  rw [symA_length] at hj
  have := offF_le fs 29 j hl
  exact ⟨4 * (offF fs j : Int), symA_place fs h5 hl j hj, by omega, by omega⟩
/-- The calls of a drawn function, once put right: from function j to function t. -/
def CalG (gs : List Fn) (j : Nat) : Int → Int → Prop := fun k m => ∃ t : Nat, t < gs.length ∧ m = 4 * (offF gs t : Int) - 4 * (offF gs j : Int) - 4 * k
/-- A drawn image. -/
structure ImgD (im : Img) (gs : List Fn) (w c : Int) : Prop where
  hn : 1 ≤ gs.length ∧ gs.length ≤ 5
  hw : 0 ≤ w ∧ w ≤ 7
  hc : 1 ≤ c ∧ (w > 0 → c ≤ w)
  code : im.1 = codeOf (catL gs)
  data : (im.2.1.size : Int) = 8 * w
  syms : im.2.2 = symA 0 0 gs ++ dsy w c
  funs : ∀ (j : Nat) (p : Fn), gs[j]? = some p → FnD (CalG gs j) (DatW w) p
theorem FnD.calls {n : Nat} {calls : List Int} {D : Int → Prop} (hD : ∀ d, D d → DatP d) (hc : ∀ c ∈ calls, CalW (n : Int) c) {p : Fn} (h : FnD (calD calls) D p) : CallR n p.2 := by
  obtain ⟨hf, b, e, hp, h1, h2⟩ := h
  intro k x hx h3 h1'
  rw [e] at hx
  rcases funL_cases p.1 b k x hx with ⟨_, rfl⟩ | ⟨_, rfl⟩ | ⟨j, hj, hjb, hb⟩ | ⟨_, rfl⟩ | ⟨_, rfl⟩ | ⟨_, rfl⟩
  · simp at h3
  · simp at h3
  · rcases hp.ins hD hf j x hb with ⟨m, rfl, c, hcm, rfl⟩ | h
    · obtain ⟨t, ht, rfl⟩ := hc c hcm
      exact ⟨t, by omega, by simp only; omega⟩
    · exact absurd h3 h.2.1
  · simp at h3
  · simp at h3
  · simp at h3
theorem FnD.fixed {n : Nat} {calls : List Int} {D : Int → Prop} (hc : ∀ c ∈ calls, CalW (n : Int) c) {S : List Sym} {O : Nat → Int} (hO : ∀ t : Nat, t < n → (rd (τ := TSym) S (t : Int)).2.2.1 = O t) {p : Fn} (h : FnD (calD calls) D p) (j : Nat) (hj : j < n) :
    FnD (fun k m => ∃ t : Nat, t < n ∧ m = O t - O j - 4 * k) D (p.1, fixL S (j : Int) 0 p.2) := by
  obtain ⟨hf, b, e, hp, h1, h2⟩ := h
  refine ⟨hf, fixL S (j : Int) 2 b, by simp only; rw [e, fix_funL], Dpcs.fix (fun k m hm => ?_) hp, by rw [fixL_length]; exact h1, by rw [fixL_length]; exact h2⟩
  obtain ⟨c, hcm, rfl⟩ := hm
  obtain ⟨t, ht, rfl⟩ := hc c hcm
  refine ⟨t, by omega, ?_⟩
  rw [show (1000000 * ((t : Int) + 1) - 0 - 4 * k + 4 * k) / 1000000 - 1 = (t : Int) by omega, hO t (by omega), hO j hj]
theorem image_ok {K : Nat} {s : Src} (h : SrcOK (K + 900) s) : ∃ (im : Img) (gs : List Fn) (w c : Int) (t : Src), spec_l00Src_image s = some (im, t) ∧ ImgD im gs w c ∧ SrcOK K t := by
  obtain ⟨v1, s1, e1, p1, q1, _, h1⟩ := next_ok (h.mono (show K + 897 + 3 ≤ K + 900 by omega)) 5
  obtain ⟨v2, s2, e2, p2, q2, _, h2⟩ := next_ok (h1.mono (show K + 894 + 3 ≤ K + 897 by omega)) 8
  have q1 := q1 (by decide); have q2 := q2 (by decide)
  obtain ⟨n, hn⟩ : ∃ n : Nat, 1 + v1 = n := ⟨(1 + v1).toNat, by omega⟩
  obtain ⟨w, hw⟩ : ∃ w : Nat, v2 = w := ⟨v2.toNat, by omega⟩
  subst hw
  obtain ⟨datas, d1, d2, d3⟩ := image_datas s2 (⟨#[]⟩, ⟨#[]⟩, []) (n : Int) (w : Int) (by omega) w 0 [] (by omega) rfl (by simp)
  obtain ⟨calls, c1, c2, c3⟩ := image_calls s2 (⟨#[]⟩, ⟨#[]⟩, []) (n : Int) (w : Int) datas (by omega) n 0 [] (by omega) rfl (by simp)
  have hdat : ∀ d ∈ datas, DatP d := fun d hd => (d2 d hd).ok (by omega)
  have hcal : ∀ c ∈ calls, CalP c := fun c hc => by obtain ⟨t, ht, rfl⟩ := c2 c hc; unfold CalP; omega
  obtain ⟨fs, s3, f1, f2, f3, f4⟩ := image_funs (⟨#[]⟩, ⟨#[]⟩, []) (n : Int) (w : Int) calls datas (by omega) hcal hdat (by omega) (by omega) (K := K + 100) n 0 s2 [] (by omega) rfl (by simp) (h2.mono (by omega))
  have hlen : ∀ p ∈ fs, p.2.length ≤ 29 := fun p hp => (f2 p hp).len.1
  have hfn : fs.length = n := by omega
  have hSl : (symA 0 0 fs).length = n := by rw [symA_length, hfn]
  have hO : ∀ t : Nat, t < n → (rd (τ := TSym) (symA 0 0 fs) (t : Int)).2.2.1 = 4 * (offF fs t : Int) := fun t ht => symA_place fs (by omega) hlen t (by omega)
  have hfix : ∀ p ∈ fs, ∀ j : Nat, j < n → FnD (fun k m => ∃ t : Nat, t < n ∧ m = 4 * (offF fs t : Int) - 4 * (offF fs j : Int) - 4 * k) (· ∈ datas) (p.1, fixL (symA 0 0 fs) (j : Int) 0 p.2) := fun p hp j hj => (f2 p hp).fixed c2 hO j hj
  have g := image_fixes s3 (⟨#[]⟩, ⟨#[]⟩, []) (n : Int) (w : Int) (symA 0 0 fs) (symA_placeR fs (by omega) hlen) fs [] (by simp; omega) (by rw [symA_length]; simp) (by simp) (fun q hq => ⟨by have := hlen q hq; omega, by rw [hSl]; exact (f2 q hq).calls hdat c2, fun i hi => fn_enc hdat (hfix q hq i (by omega)) fun j m hj hm => by
      obtain ⟨t, ht, rfl⟩ := hm
      have := offF_le fs 29 t hlen
      have := offF_le fs 29 i hlen
      omega⟩)
  obtain ⟨dat, c, s4, k1, k2, k3, k4, k5⟩ := image_data (⟨#[]⟩, ⟨#[]⟩, []) (w : Int) (codeOf (catL (fixS (symA 0 0 fs) 0 fs))) (symA 0 0 fs) (by omega) (by omega) (K := K) w 0 s3 ⟨#[]⟩ (by omega) rfl (f3.mono (by omega))
  refine ⟨(codeOf (catL (fixS (symA 0 0 fs) 0 fs)), dat, symA 0 0 fs ++ dsy (w : Int) c), fixS (symA 0 0 fs) 0 fs, w, c, s4, ?_, ⟨by rw [fixS_length]; omega, by omega, ⟨k2, k3⟩, rfl, k1, by rw [fixS_symA], fun j p hp => ?_⟩, k4⟩
  · rw [spec_l00Src_image_eq, e1]
    simp only [Option.bind_some]
    rw [e2]
    simp only [Option.bind_some]
    rw [w64 (n := 1 + v1) (by omega) (by omega), hn]
    have d3' : spec_l00Src_image.l1111010 s2 (⟨#[]⟩, ⟨#[]⟩, []) (n : Int) (w : Int) [] 0 = _ := d3
    have c3' : spec_l00Src_image.l111111010 s2 (⟨#[]⟩, ⟨#[]⟩, []) (n : Int) (w : Int) datas [] 0 = _ := c3
    have f4' : spec_l00Src_image.l111111111010 s2 (⟨#[]⟩, ⟨#[]⟩, []) (n : Int) (w : Int) datas calls (⟨#[]⟩, ⟨#[]⟩, []) [] 0 = _ := f4
    have g' : spec_l00Src_image.l11111111111010 s3 (⟨#[]⟩, ⟨#[]⟩, []) (n : Int) (w : Int) (⟨#[]⟩, ⟨#[]⟩, symA 0 0 fs) (fs.map (·.2)) 0 = _ := g
    rw [d3', c3', f4', g']
    exact k5
  · have hj : j < fs.length := by
      have := (List.getElem?_eq_some_iff.1 hp).1
      rw [fixS_length] at this; exact this
    have e := fixS_get (symA 0 0 fs) fs 0 j fs[j] (by simp [hj])
    rw [hp] at e
    simp only [Option.some.injEq] at e
    rw [e, Nat.zero_add]
    obtain ⟨hf, b, e1, hp1, r1, r2⟩ := hfix fs[j] (List.getElem_mem hj) j (by omega)
    refine ⟨hf, b, e1, hp1.mono (fun k m hm => ?_) (fun d hd => d2 d hd), r1, r2⟩
    obtain ⟨t, ht, rfl⟩ := hm
    exact ⟨t, by rw [fixS_length]; omega, by rw [fixS_off, fixS_off]⟩
theorem name_loopG (t : ByteArray) (hz : t.size ≤ 20) (h : ∀ i : Nat, i < t.size → 97 ≤ bt t (i : Int) ∧ bt t (i : Int) ≤ 122) : ∀ (k i : Nat), i + k = t.size → impl_NameOK.l11010 t (i : Int) = some true := by
  intro k
  induction k with
  | zero =>
    intro i hi
    rw [impl_NameOK.l11010_eq, lt_nat, decide_eq_false (by omega)]; rfl
  | succ k ih =>
    intro i hi
    obtain ⟨h1, h2⟩ := h i (by omega)
    rw [impl_NameOK.l11010_eq, lt_nat, decide_eq_true (show i < t.size by omega), inL_nat, decide_eq_true (show i < t.size by omega), impl_isLetter_eq, decide_eq_true h1, decide_eq_true h2, w64_succ i t.size (by omega) (by omega)]
    exact ih (i + 1) (by omega)
theorem name_good (t : ByteArray) (h0 : 1 ≤ t.size) (hz : t.size ≤ 20) (h : ∀ i : Nat, i < t.size → 97 ≤ bt t (i : Int) ∧ bt t (i : Int) ≤ 122) : nameV t = true := by
  have e : impl_NameOK t = some true := by
    obtain ⟨h1, h2⟩ := h 0 (by omega)
    have h1' : bt t 0 ≥ 97 := h1
    have h2' : bt t 0 ≤ 122 := h2
    rw [impl_NameOK_eq, impl_within_eq, decide_eq_true (show (1 : Int) ≤ (t.size : Int) by omega), decide_eq_true (show (t.size : Int) ≤ 20 by omega), inL_true (by omega) (by omega), impl_isLetter_eq, decide_eq_true h1', decide_eq_true h2']
    exact name_loopG t hz h (t.size - 1) 1 (by omega)
  unfold nameV
  rw [e]; rfl
def goodB (t : ByteArray) : Bool := decide (1 ≤ t.size) && decide (t.size ≤ 20) && (List.range t.size).all fun i => decide (97 ≤ bt t (i : Int)) && decide (bt t (i : Int) ≤ 122)
theorem name_goodB {t : ByteArray} (h : goodB t = true) : nameV t = true := by
  simp only [goodB, Bool.and_eq_true, decide_eq_true_eq, List.all_eq_true, List.mem_range] at h
  exact name_good t h.1.1 h.1.2 h.2
abbrev cntN : ByteArray := ⟨#[99, 111, 117, 110, 116]⟩
abbrev lstN : ByteArray := ⟨#[108, 105, 115, 116]⟩
theorem names_good : ∀ k : Fin 6, goodB (nmV k) = true := by decide +kernel
theorem dnames_good : goodB cntN = true ∧ goodB lstN = true := by decide +kernel
theorem symA_names : ∀ (l : List Fn) (k a : Nat), (symA k a l).map (·.1) = (List.range' k l.length).map nmV
  | [], _, _ => rfl
  | p :: l, k, a => by simp only [symA, List.map_cons, symA_names l (k + 1), List.length_cons, List.range'_succ]
def dnm (w c : Int) : List ByteArray := if w > 0 then cntN :: (if c < w then [lstN] else []) else []
theorem dsy_names (w c : Int) : (dsy w c).map (·.1) = dnm w c := by
  unfold dsy dnm
  by_cases h : w > 0
  · by_cases h' : c < w <;> simp [h, h']
  · simp [h]
theorem names_nodup (n : Nat) (hn : n ≤ 5) (w c : Int) : ((List.range' 0 n).map nmV ++ dnm w c).Nodup := by
  have key : ∀ n : Fin 6, ((List.range' 0 n).map nmV ++ [cntN, lstN]).Nodup := by decide +kernel
  have h := key ⟨n, by omega⟩
  unfold dnm
  by_cases h1 : w > 0
  · by_cases h2 : c < w
    · simp only [h1, h2, if_true]; exact h
    · simp only [h1, h2, if_true, if_false]
      exact h.sublist (List.Sublist.append (List.Sublist.refl _) (by simp))
  · simp only [h1, if_false]
    exact h.sublist (List.Sublist.append (List.Sublist.refl _) (by simp))
theorem dup_none (l : List Sym) (h : (l.map (·.1)).Nodup) (i : Nat) (hi : i < l.length) : dupV (l.take i) l[i].1 = false := by
  unfold dupV
  rw [List.any_eq_false]
  intro y hy
  simp only [decide_eq_true_eq]
  intro e
  obtain ⟨j, hj, rfl⟩ := List.getElem_of_mem hy
  have hj' : j < i := by simp at hj; omega
  rw [List.getElem_take] at e
  have h2 := List.pairwise_iff_getElem.1 h j i (by simp; omega) (by simpa using hi) hj'
  exact h2 (by simpa using e)
theorem Dpcs.bound {f : Int} {C : Int → Int → Prop} {D : Int → Prop} {s : Int} {b : List Ins} (h : Dpcs f C D s b) : Dpcs f (fun i m => C i m ∧ s ≤ i ∧ i < s + b.length) D s b := by
  induction h with
  | nil i => exact .nil i
  | cons i l m h k ih =>
    have hl := h.len
    refine .cons i l m (h.mono (fun m' hm => ⟨hm, Int.le_refl _, by rw [List.length_append]; omega⟩) fun _ x => x) (ih.mono (fun j m' hm => ⟨hm.1, by omega, by rw [List.length_append]; omega⟩) fun _ x => x)
theorem imm2 {i : Int} (h : -1048576 ≤ i ∧ i ≤ 1048574 ∧ i % 2 = 0) : immR 2 i = true := by simp [immR]; omega
theorem rjal {a i : Int} (ha : 0 ≤ a ∧ a ≤ 31) (h : -1048576 ≤ i ∧ i ≤ 1048574 ∧ i % 2 = 0) : rightV (3, a, 0, 0, i) = true := right_of 2 rfl (by decide) ha (by decide) (by decide) (.inl rfl) (.inr rfl) (.inr rfl) (imm2 h)
theorem lenS_append : ∀ a b : List Fn, lenS (a ++ b) = lenS a + lenS b
  | [], b => by simp [lenS]
  | p :: a, b => by simp only [List.cons_append, lenS, lenS_append a b]; omega
theorem catL_append : ∀ a b : List Fn, catL (a ++ b) = catL a ++ catL b
  | [], b => rfl
  | p :: a, b => by simp only [List.cons_append, catL, catL_append a b, List.append_assoc]
theorem split_at {α : Type} (l : List α) (i : Nat) (x : α) (h : l[i]? = some x) : l = l.take i ++ x :: l.drop (i + 1) := by
  obtain ⟨hi, rfl⟩ := List.getElem?_eq_some_iff.1 h
  rw [← List.drop_eq_getElem_cons hi, List.take_append_drop]
theorem off_total (gs : List Fn) (i : Nat) (p : Fn) (h : gs[i]? = some p) : lenS gs = offF gs i + (p.2.length + lenS (gs.drop (i + 1))) ∧ offF gs (i + 1) = offF gs i + p.2.length := by
  have e := split_at gs i p h
  constructor
  · conv => lhs; rw [e]
    rw [lenS_append]; rfl
  · unfold offF
    rw [List.take_add_one, h, Option.toList_some, lenS_append]
    simp [lenS]
theorem ImgD.len29 {im : Img} {gs : List Fn} {w c : Int} (h : ImgD im gs w c) : ∀ p ∈ gs, p.2.length ≤ 29 := fun p hp => by
  obtain ⟨j, hj⟩ := List.getElem?_of_mem hp
  exact (h.funs j p hj).len.1
theorem dsy_length (w c : Int) : (dsy w c).length ≤ 2 := by unfold dsy; split <;> (try split) <;> simp
theorem ImgD.total {im : Img} {gs : List Fn} {w c : Int} (h : ImgD im gs w c) : lenS gs ≤ 145 := by
  have := lenS_le gs 29 h.len29
  have := h.hn; omega
theorem ImgD.size {im : Img} {gs : List Fn} {w c : Int} (h : ImgD im gs w c) : im.1.size = 4 * lenS gs := by rw [h.code, codeOf_size, catL_length]
theorem ImgD.sz {im : Img} {gs : List Fn} {w c : Int} (h : ImgD im gs w c) : ImgSz im := by
  have h1 := h.total
  have h2 := h.size
  have h3 := dsy_length w c
  have h4 := h.hn
  have h5 := h.hw
  have h6 := h.data
  refine ⟨by rw [h.syms, List.length_append, symA_length]; omega, by omega, by omega⟩
theorem ImgD.slen {im : Img} {gs : List Fn} {w c : Int} (h : ImgD im gs w c) : im.2.2.length = gs.length + (dsy w c).length := by rw [h.syms, List.length_append, symA_length]
theorem ImgD.sym_f {im : Img} {gs : List Fn} {w c : Int} (h : ImgD im gs w c) (i : Nat) (p : Fn) (hp : gs[i]? = some p) : im.2.2[i]? = some (nmV i, 1, 4 * (offF gs i : Int), 4 * (p.2.length : Int), p.1) := by
  have hi := (List.getElem?_eq_some_iff.1 hp).1
  rw [h.syms, List.getElem?_append_left (by rw [symA_length]; exact hi), symA_get gs 0 0 i p hp]
  simp
theorem ImgD.sym_d {im : Img} {gs : List Fn} {w c : Int} (h : ImgD im gs w c) (j : Nat) : im.2.2[gs.length + j]? = (dsy w c)[j]? := by
  rw [h.syms, List.getElem?_append_right (by rw [symA_length]; omega), symA_length, Nat.add_sub_cancel_left]
/-- Where code and data have ended. -/
def endE (gs : List Fn) (w c : Int) (i : Nat) : Int × Int := if i ≤ gs.length then (4 * (offF gs i : Int), 0) else if i = gs.length + 1 then (4 * (lenS gs : Int), 8 * c) else (4 * (lenS gs : Int), 8 * w)
theorem offF_full (gs : List Fn) : offF gs gs.length = lenS gs := by simp [offF]
theorem offF_mono (gs : List Fn) (i : Nat) : offF gs i ≤ lenS gs := by
  unfold offF
  conv => rhs; rw [← List.take_append_drop i gs, lenS_append]
  omega
theorem ImgD.chain {im : Img} {gs : List Fn} {w c : Int} (h : ImgD im gs w c) : ChainTo im im.2.2.length (endE gs w c) := by
  have hsz := h.size
  have hdt := h.data
  have hw := h.hw
  have hc := h.hc
  have hnd : (im.2.2.map (·.1)).Nodup := by
    rw [h.syms, List.map_append, symA_names, dsy_names]
    exact names_nodup _ h.hn.2 w c
  refine ⟨?_, fun i hi => ?_, fun i hi _ => ?_⟩
  · simp [endE, offF, lenS]
  · have := offF_mono gs i
    unfold endE
    split
    · exact ⟨⟨by simp only; omega, by simp only; omega⟩, ⟨by simp, by simp only; omega⟩⟩
    · have hd : w > 0 := by
        rw [h.slen] at hi
        by_cases hd : w > 0
        · exact hd
        · simp [dsy, hd] at hi; omega
      have := hc.2 hd
      split
      · exact ⟨⟨by simp only; omega, by simp only; omega⟩, ⟨by simp only; omega, by simp only; omega⟩⟩
      · exact ⟨⟨by simp only; omega, by simp only; omega⟩, ⟨by simp only; omega, by simp only; omega⟩⟩
  · have hdup := dup_none im.2.2 hnd i hi
    by_cases hg : i < gs.length
    · have hs := h.sym_f i gs[i] (by simp [hg])
      have hs' : im.2.2[i] = (nmV i, 1, 4 * (offF gs i : Int), 4 * (gs[i].2.length : Int), gs[i].1) := by
        rw [List.getElem?_eq_getElem hi] at hs; exact Option.some.inj hs
      rw [hs'] at hdup ⊢
      have hnm : nameV (nmV i) = true := name_goodB (names_good ⟨i, by have := h.hn; omega⟩)
      obtain ⟨t1, t2⟩ := off_total gs i gs[i] (by simp [hg])
      have hl := (h.funs i gs[i] (by simp [hg])).len
      unfold lintS
      simp only [hnm, hdup, Bool.true_eq_false, Bool.false_eq_true, if_false, if_true]
      have e1 : endE gs w c i = (4 * (offF gs i : Int), 0) := by unfold endE; rw [if_pos (by omega)]
      have e2 : endE gs w c (i + 1) = (4 * (offF gs (i + 1) : Int), 0) := by unfold endE; rw [if_pos (by omega)]
      rw [e1, e2]
      simp only
      rw [if_pos ⟨trivial, by omega, by omega⟩, t2]
      congr 2; omega
    · obtain ⟨j, rfl⟩ : ∃ j, i = gs.length + j := ⟨i - gs.length, by omega⟩
      have hd : w > 0 := by
        have hi2 := hi
        rw [h.slen] at hi2
        by_cases hd : w > 0
        · exact hd
        · have h0 : (dsy w c).length = 0 := by unfold dsy; rw [if_neg hd]; rfl
          omega
      have hcw := hc.2 hd
      have hs := h.sym_d j
      rw [List.getElem?_eq_getElem hi] at hs
      have hj : j < 2 := by
        have := dsy_length w c
        have hi2 := hi
        rw [h.slen] at hi2; omega
      match j, hj with
      | 0, _ =>
        have hs' : im.2.2[gs.length + 0] = (cntN, 2, 0, 8 * c, 0) := by
          have e : (dsy w c)[0]? = some (cntN, 2, 0, 8 * c, 0) := by simp [dsy, hd]
          rw [e] at hs; exact Option.some.inj hs
        rw [hs'] at hdup ⊢
        have hnm : nameV cntN = true := name_goodB dnames_good.1
        have e1 : endE gs w c (gs.length + 0) = (4 * (lenS gs : Int), 0) := by unfold endE; rw [if_pos (by omega), Nat.add_zero, offF_full]
        have e2 : endE gs w c (gs.length + 0 + 1) = (4 * (lenS gs : Int), 8 * c) := by unfold endE; rw [if_neg (by omega), if_pos (by omega)]
        unfold lintS
        simp only [hnm, hdup, Bool.true_eq_false, Bool.false_eq_true, if_false, if_true]
        rw [e1, e2]
        simp only
        rw [if_neg (by decide), if_pos ⟨by omega, by omega, by omega, by omega, by omega, by omega⟩]
        congr 2; omega
      | 1, _ =>
        by_cases hcl : c < w
        · have hs' : im.2.2[gs.length + 1] = (lstN, 2, 8 * c, 8 * (w - c), 0) := by
            have e : (dsy w c)[1]? = some (lstN, 2, 8 * c, 8 * (w - c), 0) := by simp [dsy, hd, hcl]
            rw [e] at hs; exact Option.some.inj hs
          rw [hs'] at hdup ⊢
          have hnm : nameV lstN = true := name_goodB dnames_good.2
          have e1 : endE gs w c (gs.length + 1) = (4 * (lenS gs : Int), 8 * c) := by unfold endE; rw [if_neg (by omega), if_pos (by omega)]
          have e2 : endE gs w c (gs.length + 1 + 1) = (4 * (lenS gs : Int), 8 * w) := by unfold endE; rw [if_neg (by omega), if_neg (by omega)]
          unfold lintS
          simp only [hnm, hdup, Bool.true_eq_false, Bool.false_eq_true, if_false, if_true]
          rw [e1, e2]
          simp only
          rw [if_neg (by decide), if_pos ⟨by omega, by omega, by omega, by omega, by omega, by omega⟩]
          congr 2; omega
        · have hi2 := hi
          rw [h.slen] at hi2
          simp [dsy, hd, hcl] at hi2
theorem chain_syms (im : Img) (hz : ImgSz im) (E : Nat → Int × Int) (hE : ChainTo im im.2.2.length E) (h0 : 1 ≤ im.2.2.length) (h1 : (rd (τ := TSym) im.2.2 0).2.1 = 1) (h2 : (E im.2.2.length).1 = (im.1.size : Int)) : spec_l07Symbols im = some (0, 0) := by
  rw [spec_l07Symbols_eq]
  have key : ∀ (k i : Nat), i + k = im.2.2.length → spec_l07Symbols.l111010 im (E i).1 (E i).2 (i : Int) = some (0, 0) := by
    intro k
    induction k with
    | zero =>
      intro i hi
      have : i = im.2.2.length := by omega
      subst this
      rw [spec_l07Symbols.l111010_eq, lt_nat, decide_eq_false (Nat.lt_irrefl _), decide_eq_false (show ¬ (im.2.2.length : Int) = 0 by omega), inL_true (i := 0) (by omega) (by omega), decide_eq_true h1, decide_eq_true h2]; rfl
    | succ k ih =>
      intro i hi
      have hl : i < im.2.2.length := by omega
      rw [spec_lintS im hz i hl (E i) (hE.2.1 i (by omega)), hE.2.2 i hl hl, if_pos rfl]
      exact ih (i + 1) (by omega)
  have := key im.2.2.length 0 (by omega)
  rw [hE.1] at this
  exact this
theorem dsy_kind (w c : Int) (j : Nat) (s : Sym) (h : (dsy w c)[j]? = some s) : s.2.1 = 2 := by
  unfold dsy at h
  split at h
  · split at h
    · match j with
      | 0 => simp at h; rw [← h]
      | 1 => simp at h; rw [← h]
      | j + 2 => simp at h
    · match j with
      | 0 => simp at h; rw [← h]
      | j + 1 => simp at h
  · simp at h
theorem ImgD.rd_f {im : Img} {gs : List Fn} {w c : Int} (h : ImgD im gs w c) (i : Nat) (p : Fn) (hp : gs[i]? = some p) : rd (τ := TSym) im.2.2 (i : Int) = (nmV i, 1, 4 * (offF gs i : Int), 4 * (p.2.length : Int), p.1) := rd_some (τ := TSym) _ i _ (h.sym_f i p hp)
theorem ImgD.rd_d {im : Img} {gs : List Fn} {w c : Int} (h : ImgD im gs w c) (i : Nat) (hi : gs.length ≤ i) (hl : i < im.2.2.length) : (rd (τ := TSym) im.2.2 (i : Int)).2.1 = 2 := by
  obtain ⟨j, rfl⟩ : ∃ j, i = gs.length + j := ⟨i - gs.length, by omega⟩
  have e : im.2.2[gs.length + j]? = some im.2.2[gs.length + j] := by simp [hl]
  rw [rd_some (τ := TSym) _ _ _ e]
  rw [h.sym_d j] at e
  exact dsy_kind w c j _ e
theorem ImgD.entriesSpec {im : Img} {gs : List Fn} {w c : Int} (h : ImgD im gs w c) : ∃ l, spec_l07Entries im.2.2 = some l ∧ l.length ≤ 16 ∧ ∀ t : Nat, t < gs.length → 4096 + 4 * (offF gs t : Int) ∈ l := by
  have hz := h.sz
  have ht := h.total
  have key : ∀ (k i : Nat) (l : List Int), i + k = im.2.2.length → l.length ≤ i → (∀ t : Nat, t < gs.length → t < i → 4096 + 4 * (offF gs t : Int) ∈ l) → ∃ l', spec_l07Entries.l11010 im.2.2 l (i : Int) = some l' ∧ l'.length ≤ im.2.2.length ∧ ∀ t : Nat, t < gs.length → 4096 + 4 * (offF gs t : Int) ∈ l' := by
    intro k
    induction k with
    | zero =>
      intro i l hi hl hm
      rw [spec_l07Entries.l11010_eq, lt_nat, decide_eq_false (by omega)]
      have := h.slen
      exact ⟨l, rfl, by omega, fun t ht => hm t ht (by omega)⟩
    | succ k ih =>
      intro i l hi hl hm
      have hil : i < im.2.2.length := by omega
      have hn := hz.n
      rw [spec_l07Entries.l11010_eq, lt_nat, decide_eq_true hil, inL_nat, decide_eq_true hil, w64_succ i _ hil (by omega)]
      simp only [cond_true]
      by_cases hg : i < gs.length
      · have ho := offF_mono gs i
        rw [h.rd_f i gs[i] (by simp [hg]), spec_l07Place_eq]
        simp only [decide_true, cond_true, Option.bind_some]
        rw [w64 (n := 4096 + 4 * (offF gs i : Int)) (by omega) (by omega), room_le (by simp; omega) (by simp; omega)]
        exact ih (i + 1) _ (by omega) (by simp; omega) (fun t ht hti => by
          by_cases e : t = i
          · subst e; simp
          · exact List.mem_append_left _ (hm t ht (by omega)))
      · rw [decide_eq_false (show ¬ (rd (τ := TSym) im.2.2 (i : Int)).2.1 = 1 by rw [h.rd_d i (by omega) hil]; decide)]
        exact ih (i + 1) l (by omega) (by omega) (fun t ht hti => hm t ht (by omega))
  obtain ⟨l, h1, h2, h3⟩ := key im.2.2.length 0 [] (by omega) (by simp) (by simp)
  exact ⟨l, (spec_l07Entries_eq _).trans h1, by have := hz.n; omega, h3⟩
theorem ImgD.cut {im : Img} {gs : List Fn} {w c : Int} (h : ImgD im gs w c) (i : Nat) (p : Fn) (hp : gs[i]? = some p) : im.1.extract (4 * offF gs i) (4 * offF gs i + 4 * p.2.length) = codeOf p.2 := by
  have e := split_at gs i p hp
  have e2 : catL gs = catL (gs.take i) ++ (p.2 ++ catL (gs.drop (i + 1))) := by
    conv => lhs; rw [e]
    rw [catL_append]; rfl
  rw [h.code, e2, codeOf_append, codeOf_append]
  have h1 : (codeOf (catL (gs.take i))).size = 4 * offF gs i := by rw [codeOf_size, catL_length]; rfl
  have h2 : (codeOf p.2).size = 4 * p.2.length := codeOf_size _
  have := ba_extract_mid (codeOf (catL (gs.take i))) (codeOf p.2) (codeOf (catL (gs.drop (i + 1))))
  rw [h1, h2] at this
  exact this
theorem ImgD.fun_lintSpec {im : Img} {gs : List Fn} {w c : Int} (h : ImgD im gs w c) (calls : List Int) (hl : calls.length ≤ 16) (hc : ∀ t : Nat, t < gs.length → 4096 + 4 * (offF gs t : Int) ∈ calls) (i : Nat) (p : Fn) (hp : gs[i]? = some p) : spec_l06Lint (codeOf p.2) (4096 + 4 * (offF gs i : Int)) p.1 calls = some (0, 0) := by
  obtain ⟨hf, b, e, hd, h1, h2⟩ := h.funs i p hp
  have ht := h.total
  have ho := offF_mono gs i
  rw [e]
  have ha : codeAtV (4096 + 4 * (offF gs i : Int)) = true := by
    unfold codeAtV
    rw [show (decide (0 ≤ 4096 + 4 * (offF gs i : Int)) && decide (4096 + 4 * (offF gs i : Int) ≤ 1048575)) = true by simp only [Bool.and_eq_true, decide_eq_true_eq]; omega, cond_true]
    exact decide_eq_true (Int.tmod_eq_zero_of_dvd (by omega))
  refine spec_lint_funL (D := DatW w) (C := fun k m => CalG gs i k m ∧ 2 ≤ k ∧ k < 2 + b.length) (fun d hd => hd.ok h.hw.2) (fun k m hm => ?_) hf hd.bound (by omega) ha (by omega)
  obtain ⟨⟨t, ht', rfl⟩, hk1, hk2⟩ := hm
  have hot := offF_mono gs t
  refine ⟨rjal (by decide) (by omega), ?_⟩
  have : 4096 + 4 * (offF gs i : Int) + 4 * k + (4 * (offF gs t : Int) - 4 * (offF gs i : Int) - 4 * k) = 4096 + 4 * (offF gs t : Int) := by omega
  rw [this]; exact hc t ht'
theorem ImgD.first {im : Img} {gs : List Fn} {w c : Int} (h : ImgD im gs w c) : (rd (τ := TSym) im.2.2 0).2.1 = 1 := by
  have h0 := h.hn.1
  have := h.rd_f 0 gs[0] (by simp)
  have e : rd (τ := TSym) im.2.2 0 = _ := this
  rw [e]
theorem ImgD.end {im : Img} {gs : List Fn} {w c : Int} (h : ImgD im gs w c) : (endE gs w c im.2.2.length).1 = (im.1.size : Int) := by
  have := h.size
  unfold endE
  split
  · rename_i hl
    have e : im.2.2.length = gs.length := by have := h.slen; omega
    rw [e, offF_full]; simp only; omega
  · split <;> (simp only; omega)
theorem ImgD.lintSpec {im : Img} {gs : List Fn} {w c : Int} (h : ImgD im gs w c) : spec_l07Lint im = some (0, 0, 0) := by
  have hz := h.sz
  obtain ⟨hn, hcs, hds⟩ := hz
  have ht := h.total
  have hsz := h.size
  have hsl := h.slen
  have h0 := h.hn.1
  rw [spec_l07Lint_eq, decide_eq_false (by omega)]
  simp only [cond_false, joinB]
  rw [decide_eq_false (show ¬ (im.1.size : Int) > 1024 by omega), decide_eq_false (show ¬ (im.2.1.size : Int) > 256 by omega)]
  simp only [cond_false]
  rw [chain_syms im h.sz (endE gs w c) h.chain (by omega) h.first h.end]
  obtain ⟨l, e1, e2, e3⟩ := h.entriesSpec
  simp only [Option.bind_some, decide_true, Bool.not_true, cond_false]
  rw [e1]
  simp only [Option.bind_some]
  have key : ∀ (k i : Nat), i + k = im.2.2.length → spec_l07Lint.l11111010 im l (i : Int) = some (0, 0, 0) := by
    intro k
    induction k with
    | zero =>
      intro i hi
      rw [spec_l07Lint.l11111010_eq, lt_nat, decide_eq_false (by omega)]; rfl
    | succ k ih =>
      intro i hi
      have hil : i < im.2.2.length := by omega
      rw [spec_l07Lint.l11111010_eq, lt_nat, decide_eq_true hil, inL_nat, decide_eq_true hil, w64_succ i _ hil (by omega)]
      simp only [cond_true]
      by_cases hg : i < gs.length
      · have hgi : gs[i]? = some gs[i] := by simp [hg]
        obtain ⟨t1, t2⟩ := off_total gs i gs[i] hgi
        have hcut := h.cut i gs[i] hgi
        rw [h.rd_f i gs[i] hgi]
        simp only [decide_true, Bool.not_true, cond_false]
        rw [w64 (n := 4 * (offF gs i : Int) + 4 * (gs[i].2.length : Int)) (by omega) (by omega), show (decide (0 ≤ 4 * (offF gs i : Int)) && decide (4 * (offF gs i : Int) ≤ 4 * (offF gs i : Int) + 4 * (gs[i].2.length : Int)) && decide (4 * (offF gs i : Int) + 4 * (gs[i].2.length : Int) ≤ (im.1.size : Int))) = true by simp only [Bool.and_eq_true, decide_eq_true_eq]; omega, spec_l07Place_eq]
        simp only [decide_true, cond_true, Option.bind_some]
        rw [w64 (n := 4096 + 4 * (offF gs i : Int)) (by omega) (by omega), show (4 * (offF gs i : Int)).toNat = 4 * offF gs i by omega, show (4 * (offF gs i : Int) + 4 * (gs[i].2.length : Int)).toNat = 4 * offF gs i + 4 * gs[i].2.length by omega, hcut, h.fun_lintSpec l e2 e3 i gs[i] hgi]
        exact ih (i + 1) (by omega)
      · rw [decide_eq_false (show ¬ (rd (τ := TSym) im.2.2 (i : Int)).2.1 = 1 by rw [h.rd_d i (by omega) hil]; decide)]
        exact ih (i + 1) (by omega)
  exact key im.2.2.length 0 (by omega)
theorem ImgD.okBoth {im : Img} {gs : List Fn} {w c : Int} (h : ImgD im gs w c) : impl_LintImage im = some (0, 0, 0) ∧ impl_ImageOK im = some true ∧ spec_ImageOK im = some true ∧ ImgOK im := by
  obtain ⟨v, v1, v2, v3⟩ := image_both im
  rw [h.lintSpec] at v2
  simp only [Option.some.injEq] at v2
  subst v2
  refine ⟨v1, ?_, ?_, v3 rfl⟩
  · rw [impl_ImageOK_eq, v1]; rfl
  · rw [spec_ImageOK_eq, h.lintSpec]; rfl
theorem imageDrawn_ok (a : List Int) (hb : BytP a) (hn : a.length ≤ 1048576) : ∃ (im : Img) (gs : List Fn) (w c : Int), spec_ImageDrawn a = some im ∧ ImgD im gs w c := by
  obtain ⟨s, e, hs⟩ := source_ok a hb hn
  obtain ⟨im, gs, w, c, t, e2, hd, _⟩ := image_ok (K := 0) (hs.mono (by decide))
  rw [spec_ImageDrawn_eq, e]
  simp only [Option.bind_some, optC]
  rw [e2]
  exact ⟨im, gs, w, c, rfl, hd⟩
theorem index_i (l : List Int) (n : Int) (hz : l.length ≤ 1048576) : ∀ (k j : Nat), j + k = l.length → ∃ r : Int, slices_Index_int.l1010 l n (l.length : Int) (j : Int) = some r ∧ decide (r ≥ 0) = decide (n ∈ l.drop j) := by
  intro k
  induction k with
  | zero =>
    intro j hj
    rw [slices_Index_int.l1010_eq, lt_nat, decide_eq_false (show ¬ j < l.length by omega), List.drop_eq_nil_of_le (by omega)]
    exact ⟨_, rfl, rfl⟩
  | succ k ih =>
    intro j hj
    have hjl : j < l.length := by omega
    obtain ⟨r, h1, h2⟩ := ih (j + 1) (by omega)
    rw [slices_Index_int.l1010_eq, lt_nat, inL_nat, decide_eq_true hjl, w64_succ j l.length hjl (by omega), rd_nat (τ := .int .i64) l j hjl, List.drop_eq_getElem_cons hjl]
    simp only [cond_true]
    by_cases e : n = l[j]
    · rw [decide_eq_true e, decide_eq_true (show n ∈ l[j] :: l.drop (j + 1) by rw [e]; exact List.mem_cons_self)]
      exact ⟨(j : Int), rfl, by simp⟩
    · have e2 : decide (n ∈ l[j] :: l.drop (j + 1)) = decide (n ∈ l.drop (j + 1)) := by simp only [List.mem_cons, e, false_or]
      rw [e2, decide_eq_false e]
      exact ⟨r, h1, h2⟩
theorem has_i (l : List Int) (n : Int) (hz : l.length ≤ 1048576) : slices_Contains_int l n = some (decide (n ∈ l)) := by
  obtain ⟨r, i1, i2⟩ := index_i l n hz l.length 0 (by omega)
  rw [show ((0 : Nat) : Int) = 0 by rfl] at i1
  rw [slices_Contains_int_eq, slices_Index_int_eq, i1, Option.bind_some, i2, List.drop_zero]
theorem codeSize_i (t : ByteArray) : impl_isCodeSize t = some (codeSizeV t.size) := by
  rw [impl_isCodeSize_eq]
  unfold codeSizeV
  cases decide (((t.size : Nat) : Int).tmod 4 = 0) <;> rfl
theorem funcSize_i (t : ByteArray) : impl_isFuncSize t = some (funcSizeV t.size) := by
  rw [impl_isFuncSize_eq, codeSize_i t]
  simp only [Option.bind_some, funcSizeV]
  cases codeSizeV t.size <;> rfl
theorem instrs_i (l : List Ins) (hl : l.length ≤ 1000) (hr : ∀ x ∈ l, rightV x = true) : impl_instrsOf (codeOf l) = some (l, 0, true) := by
  rw [impl_instrsOf_eq]; exact instrs_loop l hl hr l [] rfl
theorem fault_zero (l : List Ins) (f a : Int) (calls E : List Int) (hE : EndsAre l f l.length E) (hf : 16 ≤ f ∧ f ≤ 128) (ha : 0 ≤ a ∧ a ≤ 1048575) (hl : l.length ≤ 1048576) (hc : calls.length ≤ 1048576) (i : Int) (h : 2 ≤ i) (h' : i < (l.length : Int)) (x : Ins) (hx : rd (τ := TIns) l i = x) (hr : InsR x)
    (c4 : x.1 = 4 → endsI l f (i - 2) = true) (c3 : x.1 = 3 → x.2.1 = 1 ∧ a + 4 * i + x.2.2.2.2 ∈ calls)
    (cb : 5 ≤ x.1 → x.1 ≤ 10 → x.2.2.2.2 % 4 = 0 ∧ 2 ≤ i + x.2.2.2.2 / 4 ∧ i + x.2.2.2.2 / 4 < (l.length : Int) ∧ endsI l f (i + x.2.2.2.2 / 4 - 1) = false ∧ endsI l f (i + x.2.2.2.2 / 4 - 2) = false)
    (c1 : x.1 ≠ 3 → x.1 ≠ 4 → x.2.1 = 1 → endsI l f i = true) (c2 : x.1 ≠ 3 → x.1 ≠ 4 → x.2.1 = 2 → endsI l f (i - 1) = true)
    (cm : 11 ≤ x.1 → x.1 ≤ 21 → x.2.2.1 = 2 → endsI l f i = true ∨ (0 ≤ x.2.2.2.2 ∧ x.2.2.2.2 ≤ f - 8 - (widV x.1).1 ∧ x.2.2.2.2 % (widV x.1).1 = 0)) : impl_linting_fault (l, f, a, calls, E) i = some 0 := by
  have him := hr.imm
  have he := ends_bits hE i (by omega) h'
  have hEi : inL i E.length = true := inL_true (by omega) (by rw [hE.1]; exact h')
  rw [impl_linting_fault_eq]
  dsimp only
  rw [inL_true (by omega) h', hEi, hx, he.1, he.2.1, he.2.2.1, branch_val, load_val, store_val, has_i calls _ hc, w64 (n := 4 * i) (by omega) (by omega), w64 (n := a + 4 * i) (by omega) (by omega), w64 (n := a + 4 * i + x.2.2.2.2) (by omega) (by omega)]
  simp only [cond_true, joinB, Option.bind_some]
  by_cases h4 : x.1 = 4
  · rw [decide_eq_true h4, c4 h4]; rfl
  rw [decide_eq_false h4]
  simp only [cond_false]
  by_cases h3 : x.1 = 3
  · obtain ⟨hd, hm⟩ := c3 h3
    rw [decide_eq_true h3, decide_eq_true hd, decide_eq_true hm]; rfl
  rw [decide_eq_false h3]
  simp only [cond_false]
  by_cases hb : 5 ≤ x.1 ∧ x.1 ≤ 10
  · obtain ⟨m4, t1, t2, t3, t4⟩ := cb hb.1 hb.2
    have mt : x.2.2.2.2.tmod 4 = 0 := Int.tmod_eq_zero_of_dvd (by omega)
    have hp : impl_linting_permitted (l, f, a, calls, E) i = some true := by
      rw [impl_linting_permitted_eq]
      dsimp only
      have he2 := ends_bits hE (i + x.2.2.2.2 / 4) (by omega) t2
      rw [inL_true (by omega) h', hx, decide_eq_true mt, wrap_four _ (by omega) (by omega), tdiv4 _ mt, w64 (n := i + x.2.2.2.2 / 4) (by omega) (by omega), w64 (n := (l.length : Int) - 1) (by omega) (by omega), within_val, decide_eq_true t1, decide_eq_true (show i + x.2.2.2.2 / 4 ≤ (l.length : Int) - 1 by omega)]
      simp only [cond_true, Option.bind_some, Bool.and_self]
      rw [inL_true (by omega) (by rw [hE.1]; exact t2), he2.2.2.2, t3, t4]; rfl
    rw [decide_eq_true hb.1, decide_eq_true hb.2, hp]; rfl
  have hb' : (decide (5 ≤ x.1) && decide (x.1 ≤ 10)) = false := by simp; omega
  rw [hb']
  simp only [cond_false]
  have c1 := c1 h3 h4
  have c2 := c2 h3 h4
  generalize endsI l f i = B0 at *
  generalize endsI l f (i - 1) = B1 at *
  obtain ⟨T, hT⟩ : ∃ T : Option Int, ((impl_widthOf x.1).bind fun r21 => (impl_within x.2.2.2.2 0 (IntKind.wrap .i64 ((IntKind.wrap .i64 (f - 8)) - r21.1))).bind fun r22 => bif (!r22) then some 17 else (bif (decide (r21.1 = 0)) then none else (bif (!decide ((x.2.2.2.2.tmod r21.1) = 0)) then some 17 else some (0 : Int)))) = T := ⟨_, rfl⟩
  have tailT : B0 = false → 11 ≤ x.1 → x.1 ≤ 21 → x.2.2.1 = 2 → T = some 0 := by
    intro q4 q1 q2 q3
    rw [← hT]
    have hw := wid_pos x.1 q1 q2
    rcases cm q1 q2 q3 with he | ⟨m0, m1, m2⟩
    · rw [he] at q4; cases q4
    · have mt : x.2.2.2.2.tmod (widV x.1).1 = 0 := by rw [Int.tmod_eq_emod_of_nonneg m0]; exact m2
      rw [impl_wid _ q1 q2]
      simp only [Option.bind_some]
      rw [within_val, w64 (n := f - 8) (by omega) (by omega), w64 (n := f - 8 - (widV x.1).1) (by omega) (by omega), decide_eq_true m0, decide_eq_true m1, decide_eq_false (show ¬ (widV x.1).1 = 0 by omega), decide_eq_true mt]; rfl
  have rest : (bif (decide (11 ≤ x.1) && decide (x.1 ≤ 17)) then (bif decide (x.2.2.1 = 2) then (bif !B0 then T else some 0) else some 0) else (bif (decide (18 ≤ x.1) && decide (x.1 ≤ 21)) then (bif decide (x.2.2.1 = 2) then (bif !B0 then T else some 0) else some 0) else some 0)) = some 0 := by
    have one : 11 ≤ x.1 → x.1 ≤ 21 → (bif decide (x.2.2.1 = 2) then (bif !B0 then T else some 0) else some 0) = some 0 := by
      intro q1 q2
      by_cases hb2 : x.2.2.1 = 2
      · rw [decide_eq_true hb2]
        cases B0 with
        | false => exact tailT rfl q1 q2 hb2
        | true => rfl
      · rw [decide_eq_false hb2]; rfl
    by_cases q : 11 ≤ x.1 ∧ x.1 ≤ 17
    · rw [show (decide (11 ≤ x.1) && decide (x.1 ≤ 17)) = true by simp; omega, cond_true]
      exact one q.1 (by omega)
    · rw [show (decide (11 ≤ x.1) && decide (x.1 ≤ 17)) = false by simp; omega, cond_false]
      by_cases q' : 18 ≤ x.1 ∧ x.1 ≤ 21
      · rw [show (decide (18 ≤ x.1) && decide (x.1 ≤ 21)) = true by simp; omega, cond_true]
        exact one (by omega) q'.2
      · rw [show (decide (18 ≤ x.1) && decide (x.1 ≤ 21)) = false by simp; omega, cond_false]
  rw [← hT] at rest
  by_cases d1 : x.2.1 = 1
  · rw [decide_eq_true d1, decide_eq_false (show ¬ x.2.1 = 2 by omega)]
    have := c1 d1
    subst this
    exact rest
  · rw [decide_eq_false d1]
    by_cases d2 : x.2.1 = 2
    · rw [decide_eq_true d2]
      have := c2 d2
      subst this
      exact rest
    · rw [decide_eq_false d2]
      exact rest
theorem impl_lint_funL {f a : Int} {calls : List Int} {C : Int → Int → Prop} {D : Int → Prop} (hD : ∀ d, D d → DatP d) (hC : ∀ i m, C i m → rightV (3, 1, 0, 0, m) = true ∧ a + 4 * i + m ∈ calls) (hf : FrmP f) {b : List Ins} (h : Dpcs f C D 2 b) (hb : b.length ≤ 59) (ha : codeAtV a = true) (hc : calls.length ≤ 1048576) :
    impl_lint (codeOf (funL f b)) a f calls = some (0, 0) := by
  have hfr := hf.range
  have har := codeAtV_range ha
  have hn := funL_length f b
  have hright := funL_right hD (fun i m q => (hC i m q).1) hf h
  have hsz : funcSizeV (codeOf (funL f b)).size = true := by
    rw [codeOf_size]; unfold funcSizeV codeSizeV
    rw [show decide (((4 * (funL f b).length : Nat) : Int).tmod 4 = 0) = true from decide_eq_true (Int.tmod_eq_zero_of_dvd (by omega)), cond_true, decide_eq_true (show ((4 * (funL f b).length : Nat) : Int) ≤ 256 by omega), cond_true]
    exact decide_eq_true (by omega)
  obtain ⟨b0, b1⟩ := funL_begin f b
  obtain ⟨_, _, b2⟩ := funL_end f b
  have hp : ([(22, 2, 2, 0, (IntKind.wrap .i64 (0 - f))), (21, 0, 2, 1, (IntKind.wrap .i64 (f - 8)))] : List Ins) = proL f := by rw [w64 (n := 0 - f) (by omega) (by omega), w64 (n := f - 8) (by omega) (by omega)]; rfl
  have p0 : rd (τ := TIns) (proL f) 0 = (22, 2, 2, 0, 0 - f) := rfl
  have p1 : rd (τ := TIns) (proL f) 1 = (21, 0, 2, 1, f - 8) := rfl
  have q0 : impl_isCodeAt a = some true := by rw [codeAt_val, ha]
  rw [impl_lint_eq, q0, frame_i, hf.ok, funcSize_i, hsz, instrs_i _ (by omega) hright, impl_prologue_eq, hp]
  simp only [Option.bind_some, Bool.not_true, cond_false]
  rw [show (((proL f).length : Nat) : Int) = 2 from rfl, impl_lint.l1111010_eq, b0, p0]
  simp only [show decide ((0 : Int) < 2) = true from rfl, cond_true]
  rw [inL_true (i := 0) (by omega) (by simp [proL]), inL_true (i := 0) (by omega) (by omega), show eqD TIns (((22, 2, 2, 0, 0 - f) : Ins)) ((22, 2, 2, 0, 0 - f) : Ins) = true by rw [eqD_ins]; simp]
  simp only [cond_true, Bool.not_true, cond_false]
  rw [show IntKind.wrap .i64 (0 + 1) = 1 by rfl, impl_lint.l1111010_eq, b1, p1]
  simp only [show decide ((1 : Int) < 2) = true from rfl, cond_true]
  rw [inL_true (i := 1) (by omega) (by simp [proL]), inL_true (i := 1) (by omega) (by omega), show eqD TIns (((21, 0, 2, 1, f - 8) : Ins)) ((21, 0, 2, 1, f - 8) : Ins) = true by rw [eqD_ins]; simp]
  simp only [cond_true, Bool.not_true, cond_false]
  rw [show IntKind.wrap .i64 (1 + 1) = 2 by rfl, impl_lint.l1111010_eq]
  have hl1 : IntKind.wrap .i64 (((funL f b).length : Int) - 1) = ((b.length + 4 : Nat) : Int) := by rw [w64 (by omega) (by omega)]; omega
  simp only [show decide ((2 : Int) < 2) = false from rfl, cond_false, joinB]
  rw [hl1, b2, inL_true (by omega) (by omega)]
  simp only [cond_true]
  rw [Int.toNat_natCast, room_le (by omega) (by omega), decide_eq_true (show (0 : Int) ≤ ((funL f b).length : Int) by omega)]
  simp only [cond_true, Bool.and_self]
  obtain ⟨E, hE0, e⟩ := lint_ends a calls (funL f b) f ⟨hfr.1, hfr.2.1⟩ (by omega) (by omega) ((funL f b).length - 4) 2 (List.replicate (funL f b).length 0) (by omega) (by omega) ⟨by simp, fun j hj => by
    rw [List.getElem?_replicate, if_pos hj]
    unfold endV
    have z : ∀ m : Int, m < ((2 : Nat) : Int) → endsI (funL f b) f m = false := by
      intro m hm
      unfold endsI
      rw [show decide (2 ≤ m) = false by simp; omega]; simp
    rw [if_neg (fun h => by rw [z _ h.1] at h; cases h.2), if_neg (fun h => by rw [z _ h.1] at h; cases h.2), if_neg (fun h => by rw [z _ h.1] at h; cases h.2)]⟩
  rw [show ((2 : Nat) : Int) = 2 by rfl] at e
  rw [e]
  have loop : ∀ (k i : Nat), i + k = b.length + 5 → 2 ≤ i → impl_lint.l111111111010 (funL f b) (funL f b, f, a, calls, E) (i : Int) = some (0, 0) := by
    intro k
    induction k with
    | zero =>
      intro i hi _
      rw [impl_lint.l111111111010_eq, decide_eq_false (by omega)]; rfl
    | succ k ih =>
      intro i hi h2
      obtain ⟨x, hx, hr⟩ := rd_get (xs := funL f b) (i := i) (by omega)
      have hE := ends_funL hD hf h
      have hrule : impl_linting_fault (funL f b, f, a, calls, E) (i : Int) = some 0 := by
        have R := fault_zero (funL f b) f a calls E hE0 ⟨hfr.1, hfr.2.1⟩ har (by omega) hc i (by omega) (by omega) x hr (right_ins (hright x (List.mem_of_getElem? hx)))
        rcases funL_cases f b i x hx with ⟨hi', rfl⟩ | ⟨hi', rfl⟩ | ⟨j, hi', hj, hb⟩ | ⟨hi', rfl⟩ | ⟨hi', rfl⟩ | ⟨hi', rfl⟩
        · omega
        · omega
        · rcases h.ins hD hf j x hb with ⟨m, rfl, hm⟩ | ⟨_, g3, g4, g5, g6, g7, g8⟩
          · refine R (fun e => by simp at e) (fun _ => ⟨rfl, ?_⟩) (fun e => by simp at e) (fun e => absurd rfl e) (fun e => absurd rfl e) (fun e => by simp at e)
            have e2 : a + 4 * (i : Int) + m = a + 4 * (2 + (j : Int)) + m := by omega
            show a + 4 * (i : Int) + m ∈ calls
            rw [e2]; exact (hC _ _ hm).2
          · refine R (fun e => absurd e g4) (fun e => absurd e g3) (fun e e' => ?_) (fun _ _ e => absurd e g5) (fun _ _ e => absurd e g6) (fun e e' e2 => .inr (g8 e e' e2))
            obtain ⟨t1, t2, t3⟩ := g7 e e'
            rw [hE, hE]
            exact ⟨t1, by omega, by omega, decide_eq_false (by omega), decide_eq_false (by omega)⟩
        · exact R (fun e => by simp at e) (fun e => by simp at e) (fun _ e => by simp at e) (fun _ _ _ => by rw [hE]; exact decide_eq_true (by omega)) (fun _ _ e => by simp at e) (fun _ _ _ => .inl (by rw [hE]; exact decide_eq_true (by omega)))
        · exact R (fun e => by simp at e) (fun e => by simp at e) (fun _ e => by simp at e) (fun _ _ e => by simp at e) (fun _ _ _ => by rw [hE]; exact decide_eq_true (by omega)) (fun _ e => by simp at e)
        · exact R (fun _ => by rw [hE]; exact decide_eq_true (by omega)) (fun e => by simp at e) (fun e => by simp at e) (fun _ e => absurd rfl e) (fun _ e => absurd rfl e) (fun e => by simp at e)
      rw [impl_lint.l111111111010_eq, decide_eq_true (by omega), hrule, w64_succ i (b.length + 5) (by omega) (by omega)]
      simp only [cond_true, Option.bind_some, decide_true, Bool.not_true, cond_false]
      exact ih (i + 1) (by omega) (by omega)
  exact loop (b.length + 3) 2 (by omega) (by omega)
theorem ImgD.entries_i {im : Img} {gs : List Fn} {w c : Int} (h : ImgD im gs w c) : ∃ l, impl_Image_functions im = some l ∧ l.length ≤ 16 ∧ ∀ t : Nat, t < gs.length → 4096 + 4 * (offF gs t : Int) ∈ l := by
  have hz := h.sz
  have ht := h.total
  have key : ∀ (k i : Nat) (l : List Int), i + k = im.2.2.length → l.length ≤ i → (∀ t : Nat, t < gs.length → t < i → 4096 + 4 * (offF gs t : Int) ∈ l) → ∃ l', impl_Image_functions.l11010 l im.2.2 (im.2.2.length : Int) (i : Int) = some l' ∧ l'.length ≤ im.2.2.length ∧ ∀ t : Nat, t < gs.length → 4096 + 4 * (offF gs t : Int) ∈ l' := by
    intro k
    induction k with
    | zero =>
      intro i l hi hl hm
      rw [impl_Image_functions.l11010_eq, lt_nat, decide_eq_false (by omega)]
      have := h.slen
      exact ⟨l, rfl, by omega, fun t ht => hm t ht (by omega)⟩
    | succ k ih =>
      intro i l hi hl hm
      have hil : i < im.2.2.length := by omega
      have hn := hz.n
      rw [impl_Image_functions.l11010_eq, lt_nat, decide_eq_true hil, inL_nat, decide_eq_true hil, w64_succ i _ hil (by omega)]
      simp only [cond_true]
      by_cases hg : i < gs.length
      · have ho := offF_mono gs i
        rw [h.rd_f i gs[i] (by simp [hg]), impl_Symbol_address_eq]
        simp only [decide_true, cond_true, Option.bind_some]
        rw [w64 (n := 4096 + 4 * (offF gs i : Int)) (by omega) (by omega), room_le (by simp; omega) (by simp; omega)]
        exact ih (i + 1) _ (by omega) (by simp; omega) (fun t ht hti => by
          by_cases e : t = i
          · subst e; simp
          · exact List.mem_append_left _ (hm t ht (by omega)))
      · rw [decide_eq_false (show ¬ (rd (τ := TSym) im.2.2 (i : Int)).2.1 = 1 by rw [h.rd_d i (by omega) hil]; decide)]
        exact ih (i + 1) l (by omega) (by omega) (fun t ht hti => hm t ht (by omega))
  obtain ⟨l, h1, h2, h3⟩ := key im.2.2.length 0 [] (by omega) (by simp) (by simp)
  exact ⟨l, (impl_Image_functions_eq _).trans h1, by have := hz.n; omega, h3⟩
theorem ImgD.at_ok {im : Img} {gs : List Fn} {w c : Int} (h : ImgD im gs w c) (i : Nat) : codeAtV (4096 + 4 * (offF gs i : Int)) = true := by
  have ht := h.total
  have ho := offF_mono gs i
  unfold codeAtV
  rw [show (decide (0 ≤ 4096 + 4 * (offF gs i : Int)) && decide (4096 + 4 * (offF gs i : Int) ≤ 1048575)) = true by simp only [Bool.and_eq_true, decide_eq_true_eq]; omega, cond_true]
  exact decide_eq_true (Int.tmod_eq_zero_of_dvd (by omega))
theorem ImgD.fun_lint_i {im : Img} {gs : List Fn} {w c : Int} (h : ImgD im gs w c) (calls : List Int) (hl : calls.length ≤ 16) (hc : ∀ t : Nat, t < gs.length → 4096 + 4 * (offF gs t : Int) ∈ calls) (i : Nat) (p : Fn) (hp : gs[i]? = some p) : impl_lint (codeOf p.2) (4096 + 4 * (offF gs i : Int)) p.1 calls = some (0, 0) := by
  obtain ⟨hf, b, e, hd, h1, h2⟩ := h.funs i p hp
  have ht := h.total
  have ho := offF_mono gs i
  rw [e]
  refine impl_lint_funL (D := DatW w) (C := fun k m => CalG gs i k m ∧ 2 ≤ k ∧ k < 2 + b.length) (fun d hd => hd.ok h.hw.2) (fun k m hm => ?_) hf hd.bound (by omega) (h.at_ok i) (by omega)
  obtain ⟨⟨t, ht', rfl⟩, hk1, hk2⟩ := hm
  have hot := offF_mono gs t
  refine ⟨rjal (by decide) (by omega), ?_⟩
  have : 4096 + 4 * (offF gs i : Int) + 4 * k + (4 * (offF gs t : Int) - 4 * (offF gs i : Int) - 4 * k) = 4096 + 4 * (offF gs t : Int) := by omega
  rw [this]; exact hc t ht'
theorem ImgD.lint_i {im : Img} {gs : List Fn} {w c : Int} (h : ImgD im gs w c) : impl_LintImage im = some (0, 0, 0) := by
  have hz := h.sz
  obtain ⟨hn, hcs, hds⟩ := h.sz
  have ht := h.total
  have hsz := h.size
  have hsl := h.slen
  have h0 := h.hn.1
  have hE := h.chain
  rw [impl_LintImage_eq, decide_eq_false (by omega), decide_eq_false (show ¬ (im.1.size : Int) > 1024 by omega), decide_eq_false (show ¬ (im.2.1.size : Int) > 256 by omega)]
  simp only [cond_false]
  obtain ⟨l, e1, e2, e3⟩ := h.entries_i
  have funs : ∀ (k i : Nat), i + k = im.2.2.length → impl_LintImage.l111111010 im l im.2.2 (im.2.2.length : Int) (i : Int) = some (0, 0, 0) := by
    intro k
    induction k with
    | zero =>
      intro i hi
      rw [impl_LintImage.l111111010_eq, lt_nat, decide_eq_false (by omega)]; rfl
    | succ k ih =>
      intro i hi
      have hil : i < im.2.2.length := by omega
      rw [impl_LintImage.l111111010_eq, lt_nat, decide_eq_true hil, inL_nat, decide_eq_true hil, w64_succ i _ hil (by omega)]
      simp only [cond_true]
      by_cases hg : i < gs.length
      · have hgi : gs[i]? = some gs[i] := by simp [hg]
        obtain ⟨t1, t2⟩ := off_total gs i gs[i] hgi
        have hcut := h.cut i gs[i] hgi
        rw [h.rd_f i gs[i] hgi]
        simp only [decide_true, Bool.not_true, cond_false]
        rw [w64 (n := 4 * (offF gs i : Int) + 4 * (gs[i].2.length : Int)) (by omega) (by omega), show (decide (0 ≤ 4 * (offF gs i : Int)) && decide (4 * (offF gs i : Int) ≤ 4 * (offF gs i : Int) + 4 * (gs[i].2.length : Int)) && decide (4 * (offF gs i : Int) + 4 * (gs[i].2.length : Int) ≤ (im.1.size : Int))) = true by simp only [Bool.and_eq_true, decide_eq_true_eq]; omega, impl_Symbol_address_eq]
        simp only [decide_true, cond_true, Option.bind_some]
        rw [w64 (n := 4096 + 4 * (offF gs i : Int)) (by omega) (by omega), show (4 * (offF gs i : Int)).toNat = 4 * offF gs i by omega, show (4 * (offF gs i : Int) + 4 * (gs[i].2.length : Int)).toNat = 4 * offF gs i + 4 * gs[i].2.length by omega, hcut, h.fun_lint_i l e2 e3 i gs[i] hgi]
        exact ih (i + 1) (by omega)
      · rw [decide_eq_false (show ¬ (rd (τ := TSym) im.2.2 (i : Int)).2.1 = 1 by rw [h.rd_d i (by omega) hil]; decide)]
        exact ih (i + 1) (by omega)
  have key : ∀ (k i : Nat), i + k = im.2.2.length → impl_LintImage.l111010 im (endE gs w c i) (im.2.2.length : Int) (i : Int) = some (0, 0, 0) := by
    intro k
    induction k with
    | zero =>
      intro i hi
      have : i = im.2.2.length := by omega
      subst this
      rw [impl_LintImage.l111010_eq, lt_nat, decide_eq_false (Nat.lt_irrefl _), decide_eq_false (show ¬ (im.2.2.length : Int) = 0 by omega), inL_true (i := 0) (by omega) (by omega), decide_eq_true h.first, decide_eq_true h.end, e1]
      exact funs im.2.2.length 0 (by omega)
    | succ k ih =>
      intro i hi
      have hl : i < im.2.2.length := by omega
      rw [impl_LintImage.l111010_eq, lt_nat, decide_eq_true hl, impl_lintS im hz i hl (endE gs w c i) (hE.2.1 i (by omega)), hE.2.2 i hl hl, w64_succ i _ hl (by omega)]
      exact ih (i + 1) (by omega)
  have := key im.2.2.length 0 (by omega)
  rw [hE.1] at this
  exact this
theorem ImgD.ok_i {im : Img} {gs : List Fn} {w c : Int} (h : ImgD im gs w c) : impl_ImageOK im = some true := by rw [impl_ImageOK_eq, h.lint_i]; rfl
theorem at_ok (l : List Int) (hb : BytP l) (hl : l.length ≤ 1048576) (k n : Int) (hk : 0 ≤ k ∧ k ≤ 1000) (hn : n ≤ 1000000) : ∃ v, laws_at l k n = some v ∧ 0 ≤ v ∧ (1 ≤ n → v < n) := by
  rw [laws_at_eq]
  by_cases h1 : n ≤ 1
  · rw [decide_eq_true h1]; exact ⟨0, rfl, by omega, by omega⟩
  · rw [decide_eq_false h1]
    simp only [cond_false]
    by_cases h0 : (l.length : Int) = 0
    · rw [decide_eq_true h0, decide_eq_false (show ¬ n = 0 by omega), w64 (n := k * 7) (by omega) (by omega)]
      refine ⟨_, rfl, ?_, fun _ => ?_⟩ <;> rw [Int.tmod_eq_emod_of_nonneg (by omega)]
      · exact Int.emod_nonneg _ (by omega)
      · exact Int.emod_lt_of_pos _ (by omega)
    · have ht : ∀ m : Int, 0 ≤ m → 0 ≤ m.tmod (l.length : Int) ∧ m.tmod (l.length : Int) < (l.length : Int) := fun m hm => by
        rw [Int.tmod_eq_emod_of_nonneg hm]
        exact ⟨Int.emod_nonneg _ (by omega), Int.emod_lt_of_pos _ (by omega)⟩
      have hby : ∀ m : Int, 0 ≤ m → m < (l.length : Int) → ∃ v : Int, rd (τ := .int .u8) l m = v ∧ 0 ≤ v ∧ v ≤ 255 := fun m hm hm' => by
        obtain ⟨j, rfl⟩ : ∃ j : Nat, m = j := ⟨m.toNat, by omega⟩
        rw [rd_nat (τ := .int .u8) l j (by omega)]
        exact ⟨_, rfl, hb _ (List.getElem_mem _)⟩
      obtain ⟨t1, t2⟩ := ht k hk.1
      obtain ⟨t3, t4⟩ := ht (k + 1) (by omega)
      obtain ⟨A, eA, r1, r2⟩ := hby _ t1 t2
      obtain ⟨B, eB, r3, r4⟩ := hby _ t3 t4
      have hd : 0 ≤ k.tdiv (l.length : Int) ∧ k.tdiv (l.length : Int) ≤ k := by
        rw [Int.tdiv_eq_ediv_of_nonneg hk.1]
        exact ⟨Int.ediv_nonneg hk.1 (by omega), Int.ediv_le_self _ hk.1⟩
      rw [decide_eq_false h0, decide_eq_false (show ¬ n = 0 by omega), w64 (n := k + 1) (by omega) (by omega), inL_true t1 t2, inL_true t3 t4]
      simp only [cond_false, cond_true]
      rw [eA, eB]
      generalize k.tdiv (l.length : Int) = D at *
      rw [w64 (n := A) (by omega) (by omega), w64 (n := B) (by omega) (by omega), w64 (n := A * 31) (by omega) (by omega), w64 (n := A * 31 + B) (by omega) (by omega), w64 (n := D) (by omega) (by omega), w64 (n := A * 31 + B + D) (by omega) (by omega)]
      refine ⟨_, rfl, ?_, fun _ => ?_⟩ <;> rw [Int.tmod_eq_emod_of_nonneg (by omega)]
      · exact Int.emod_nonneg _ (by omega)
      · exact Int.emod_lt_of_pos _ (by omega)
abbrev noN : ByteArray := ⟨#[110, 111, 95, 115, 117, 99, 104]⟩
theorem name_small : ∀ k : Fin 6, (nmV k).size ≤ 20 ∧ nmV k ≠ noN := by decide +kernel
theorem dname_small : (cntN.size ≤ 20 ∧ cntN ≠ noN) ∧ (lstN.size ≤ 20 ∧ lstN ≠ noN) := by decide +kernel
theorem ImgD.mem_name {im : Img} {gs : List Fn} {w c : Int} (h : ImgD im gs w c) (i : Nat) (hi : i < im.2.2.length) : (rd (τ := TSym) im.2.2 (i : Int)).1.size ≤ 20 ∧ (rd (τ := TSym) im.2.2 (i : Int)).1 ≠ noN := by
  have hm : (rd (τ := TSym) im.2.2 (i : Int)).1 ∈ im.2.2.map (·.1) := by
    rw [rd_nat (τ := TSym) im.2.2 i hi]
    exact List.mem_map.2 ⟨_, List.getElem_mem hi, rfl⟩
  generalize (rd (τ := TSym) im.2.2 (i : Int)).1 = N at hm ⊢
  rw [h.syms, List.map_append, symA_names, dsy_names] at hm
  rcases List.mem_append.1 hm with hm | hm
  · obtain ⟨k, hk, e⟩ := List.mem_map.1 hm
    rw [← e]
    have := h.hn
    rw [List.mem_range'_1] at hk
    exact name_small ⟨k, by omega⟩
  · unfold dnm at hm
    split at hm
    · split at hm
      · simp only [List.mem_cons, List.not_mem_nil, or_false] at hm
        rcases hm with e | e
        · rw [e]; exact dname_small.1
        · rw [e]; exact dname_small.2
      · simp only [List.mem_singleton] at hm
        rw [hm]; exact dname_small.1
    · cases hm
def symB (s : Sym) : ByteArray := ((((bytesOf (leB (s.1.size : Int) 1) ++ s.1) ++ bytesOf (leB s.2.1 1)) ++ bytesOf (leB s.2.2.1 2)) ++ bytesOf (leB s.2.2.2.1 2)) ++ bytesOf (leB s.2.2.2.2 1)
def symsB : List Sym → ByteArray
  | [] => ByteArray.empty
  | s :: l => symB s ++ symsB l
def imgH (im : Img) : ByteArray := (((((⟨#[80, 73, 77, 49]⟩ : ByteArray) ++ bytesOf (leB (im.1.size : Int) 2)) ++ im.1) ++ bytesOf (leB (im.2.1.size : Int) 2)) ++ im.2.1) ++ bytesOf (leB (im.2.2.length : Int) 1)
def imgB (im : Img) : ByteArray := imgH im ++ symsB im.2.2
theorem size4 : (⟨#[80, 73, 77, 49]⟩ : ByteArray).size = 4 := rfl
theorem symB_size (s : Sym) : (symB s).size = s.1.size + 7 := by
  unfold symB; simp only [ByteArray.size_append, bytesOf_size, leB_length]; omega
theorem symsB_size : ∀ l : List Sym, (∀ s ∈ l, s.1.size ≤ 20) → (symsB l).size ≤ 27 * l.length
  | [], _ => Nat.le_refl _
  | s :: l, h => by
    have h1 := symsB_size l fun x hx => h x (List.mem_cons_of_mem _ hx)
    have h2 := h s (List.mem_cons_self ..)
    simp only [symsB, ByteArray.size_append, symB_size, List.length_cons]; omega
theorem imgH_size (im : Img) : (imgH im).size = 9 + im.1.size + im.2.1.size := by
  unfold imgH; simp only [ByteArray.size_append, bytesOf_size, leB_length, size4]; omega
theorem szc {a b : ByteArray} (h : a.size + b.size ≤ 4194304) : decide (a.size + b.size ≤ 9223372036854775807) = true := decide_eq_true (by omega)
theorem put1 (v : Int) : impl_putLittle v 1 = some (bytesOf (leB v 1)) := put_little v 1 (by decide)
theorem put2 (v : Int) : impl_putLittle v 2 = some (bytesOf (leB v 2)) := put_little v 2 (by decide)
theorem lit1 (v : Int) : spec_l01Little v 1 = some (bytesOf (leB v 1)) := spec_little v 1 (by decide)
theorem lit2 (v : Int) : spec_l01Little v 2 = some (bytesOf (leB v 2)) := spec_little v 2 (by decide)
theorem lit4 (v : Int) : spec_l01Little v 4 = some (bytesOf (leB v 4)) := spec_little v 4 (by decide)
theorem l07Name_val (n : ByteArray) (h : n.size ≤ 4096) : spec_l07Name n = some (bytesOf (leB (n.size : Int) 1) ++ n) := by
  have e : bytesOf [IntKind.wrap .u8 (n.size : Int)] = bytesOf (leB (n.size : Int) 1) := by rw [wrap_u8]; rfl
  rw [spec_l07Name_eq, e, szc (by rw [bytesOf_size, leB_length]; omega)]; rfl
theorem impl_text_loop (l : List Sym) (hl : l.length ≤ 16) (hn : ∀ s ∈ l, s.1.size ≤ 20) : ∀ (k i : Nat) (x : ByteArray), i + k = l.length → x.size ≤ 4000 + 27 * i → impl_ImageText.l111010 x l (l.length : Int) (i : Int) = (impl_withSum (x ++ symsB (l.drop i))).bind fun r => some (r, 0) := by
  intro k
  induction k with
  | zero =>
    intro i x h hx
    have : i = l.length := by omega
    subst this
    rw [impl_ImageText.l111010_eq, lt_nat, decide_eq_false (Nat.lt_irrefl _), List.drop_length, symsB, ByteArray.append_empty]; rfl
  | succ k ih =>
    intro i x h hx
    have hi : i < l.length := by omega
    have hs := hn _ (List.getElem_mem hi)
    rw [impl_ImageText.l111010_eq, lt_nat, decide_eq_true hi, inL_nat, decide_eq_true hi, rd_nat (τ := TSym) l i hi, w64_succ i _ hi (by omega), List.drop_eq_getElem_cons hi, symsB, ← ByteArray.append_assoc]
    generalize hS : l[i] = s at hs
    simp only [cond_true, put1, put2, Option.bind_some]
    have e : ∀ y : ByteArray, y = symB s → (bif decide (x.size + y.size ≤ 9223372036854775807) then impl_ImageText.l111010 (x ++ y) l (l.length : Int) ((i + 1 : Nat) : Int) else none) = (impl_withSum (x ++ symB s ++ symsB (l.drop (i + 1)))).bind fun r => some (r, 0) := by
      intro y hy
      subst hy
      have hz := symB_size s
      rw [szc (by omega), cond_true]
      exact ih (i + 1) _ (by omega) (by rw [ByteArray.size_append]; omega)
    rw [szc, szc, szc, szc, szc]
    · exact e _ rfl
    all_goals simp only [ByteArray.size_append, bytesOf_size, leB_length]; omega
theorem spec_text_loop (im : Img) (hl : im.2.2.length ≤ 16) (hn : ∀ s ∈ im.2.2, s.1.size ≤ 20) : ∀ (k i : Nat) (x : ByteArray), i + k = im.2.2.length → x.size ≤ 4000 + 27 * i → spec_l07Text.l11010 im x (i : Int) = (impl_withSum (x ++ symsB (im.2.2.drop i))) := by
  intro k
  induction k with
  | zero =>
    intro i x h hx
    have : i = im.2.2.length := by omega
    subst this
    obtain ⟨v, h1, h2, h3, h4⟩ := withSum_val x (by omega)
    rw [spec_l07Text.l11010_eq, lt_nat, decide_eq_false (Nat.lt_irrefl _), List.drop_length, symsB, ByteArray.append_empty, h4, h1]
    simp only [cond_false, lit4, Option.bind_some]
    rw [szc (by rw [bytesOf_size, leB_length]; omega)]; rfl
  | succ k ih =>
    intro i x h hx
    have hi : i < im.2.2.length := by omega
    have hs := hn _ (List.getElem_mem hi)
    rw [spec_l07Text.l11010_eq, lt_nat, decide_eq_true hi, inL_nat, decide_eq_true hi, rd_nat (τ := TSym) im.2.2 i hi, w64_succ i _ hi (by omega), List.drop_eq_getElem_cons hi, symsB, ← ByteArray.append_assoc]
    generalize hS : im.2.2[i] = s at hs
    rw [l07Name_val _ (by omega)]
    simp only [cond_true, lit1, lit2, Option.bind_some]
    have e : ∀ y : ByteArray, y = symB s → (bif decide (x.size + y.size ≤ 9223372036854775807) then spec_l07Text.l11010 im (x ++ y) ((i + 1 : Nat) : Int) else none) = (impl_withSum (x ++ symB s ++ symsB (im.2.2.drop (i + 1)))) := by
      intro y hy
      subst hy
      have hz := symB_size s
      rw [szc (by omega), cond_true]
      exact ih (i + 1) _ (by omega) (by rw [ByteArray.size_append]; omega)
    rw [szc, szc, szc, szc]
    · exact e _ rfl
    all_goals simp only [ByteArray.size_append, bytesOf_size, leB_length]; omega
/-- An image whose parts fit the fields of a text. -/
structure TxtR (im : Img) : Prop where
  n : im.2.2.length ≤ 16
  c : im.1.size ≤ 1024
  d : im.2.1.size ≤ 256
  s : ∀ s ∈ im.2.2, s.1.size ≤ 20
  oki : impl_ImageOK im = some true
  oks : spec_ImageOK im = some true
theorem text_i {im : Img} (h : TxtR im) : impl_ImageText im = (impl_withSum (imgB im)).bind fun r => some (r, 0) := by
  have hn := h.n
  have hc := h.c
  have hd := h.d
  rw [impl_ImageText_eq, h.oki]
  simp only [Option.bind_some, Bool.not_true, cond_false, put1, put2]
  rw [szc, szc, szc, szc, szc]
  · have hz := imgH_size im
    exact impl_text_loop im.2.2 hn h.s im.2.2.length 0 (imgH im) (by omega) (by omega)
  all_goals simp only [ByteArray.size_append, bytesOf_size, leB_length, size4]; omega
theorem text_l07 {im : Img} (h : TxtR im) : spec_l07Text im = impl_withSum (imgB im) := by
  have hn := h.n
  have hc := h.c
  have hd := h.d
  rw [spec_l07Text_eq]
  simp only [Option.bind_some, lit1, lit2]
  rw [szc, szc, szc, szc, szc]
  · have hz := imgH_size im
    exact spec_text_loop im hn h.s im.2.2.length 0 (imgH im) (by omega) (by omega)
  all_goals simp only [ByteArray.size_append, bytesOf_size, leB_length, size4]; omega
theorem tk_bytes (s rest : ByteArray) (n : Int) (hn : n = (s.size : Int)) : impl_taker_bytes (s ++ rest, false) n = some (s, rest, false) := by
  subst hn
  rw [impl_taker_bytes_eq]
  simp only [joinB, cond_false, ByteArray.size_append]
  rw [decide_eq_false (show ¬ (s.size : Int) > ((s.size + rest.size : Nat) : Int) by omega), decide_eq_true (show (0 : Int) ≤ (s.size : Int) by omega), decide_eq_true (show (s.size : Int) ≤ ((s.size + rest.size : Nat) : Int) by omega), decide_eq_true (show ((s.size + rest.size : Nat) : Int) ≤ ((s.size + rest.size : Nat) : Int) by omega)]
  simp only [Nat.le_refl, decide_true, Bool.and_self, cond_true, cond_false, Int.toNat_natCast]
  rw [show Int.toNat 0 = 0 by rfl, ByteArray.extract_append_eq_left rfl, ByteArray.extract_append_eq_right rfl rfl]
theorem tk_num (v : Int) (n : Nat) (rest : ByteArray) (hn : n ≤ 4) (h0 : 0 ≤ v) (h1 : v < 256 ^ n) : impl_taker_number (bytesOf (leB v n) ++ rest, false) (n : Int) = some (v, rest, false) := by
  have hs : (bytesOf (leB v n)).size = n := by rw [bytesOf_size, leB_length]
  have hl := leN_leB n v [] h0 (by simp)
  rw [List.nil_append, List.length_nil, Int.emod_eq_of_lt h0 h1] at hl
  have hb : (256 : Int) ^ n ≤ 256 ^ 4 := by
    have := Nat.pow_le_pow_right (n := 256) (by decide) hn
    exact_mod_cast this
  have e4 : (256 : Int) ^ 4 = 4294967296 := by decide
  rw [impl_taker_number_eq, tk_bytes _ rest _ (by rw [hs])]
  simp only [Option.bind_some]
  rw [impl_take_val _ (by omega), hs, hl, w64 (by omega) (by omega)]; rfl
theorem tk_num1 (v : Int) (rest : ByteArray) (h0 : 0 ≤ v) (h1 : v < 256) : impl_taker_number (bytesOf (leB v 1) ++ rest, false) 1 = some (v, rest, false) := tk_num v 1 rest (by decide) h0 (by simpa using h1)
theorem tk_num2 (v : Int) (rest : ByteArray) (h0 : 0 ≤ v) (h1 : v < 65536) : impl_taker_number (bytesOf (leB v 2) ++ rest, false) 2 = some (v, rest, false) := by
  have e : (256 : Int) ^ 2 = 65536 := by decide
  exact tk_num v 2 rest (by decide) h0 (by omega)
theorem tk_text1 (s rest : ByteArray) (h1 : s.size < 256) : impl_taker_text (bytesOf (leB (s.size : Int) 1) ++ (s ++ rest), false) 1 = some (s, rest, false) := by
  rw [impl_taker_text_eq, tk_num1 _ _ (by omega) (by omega)]
  simp only [Option.bind_some]
  rw [tk_bytes s rest _ rfl]; rfl
theorem tk_text2 (s rest : ByteArray) (h1 : s.size < 65536) : impl_taker_text (bytesOf (leB (s.size : Int) 2) ++ (s ++ rest), false) 2 = some (s, rest, false) := by
  rw [impl_taker_text_eq, tk_num2 _ _ (by omega) (by omega)]
  simp only [Option.bind_some]
  rw [tk_bytes s rest _ rfl]; rfl
def SymE (s : Sym) : Prop := s.1.size ≤ 20 ∧ (0 ≤ s.2.1 ∧ s.2.1 < 256) ∧ (0 ≤ s.2.2.1 ∧ s.2.2.1 < 65536) ∧ (0 ≤ s.2.2.2.1 ∧ s.2.2.2.1 < 65536) ∧ (0 ≤ s.2.2.2.2 ∧ s.2.2.2.2 < 256)
theorem read_syms (z : Img) (c d : ByteArray) : ∀ (l acc : List Sym), (∀ s ∈ l, SymE s) → acc.length + l.length ≤ 16 → impl_ImageOK (c, d, acc ++ l) = some true →
    impl_ReadImage.l11111010 z (symsB l, false) (c, d, acc) (l.length : Int) = some ((c, d, acc ++ l), 0)
  | [], acc, _, _, hok => by
    rw [impl_ReadImage.l11111010_eq]
    simp only [joinB, List.length_nil]
    rw [decide_eq_false (show ¬ ((0 : Nat) : Int) > 0 by omega)]
    simp only [cond_false]
    rw [impl_taker_done_eq, strEq_dec, decide_eq_true (show symsB [] = (⟨#[]⟩ : ByteArray) from rfl)]
    rw [List.append_nil] at hok ⊢
    simp only [cond_false, Bool.not_true, Option.bind_some, decide_true]
    rw [hok]; rfl
  | s :: l, acc, h, hl, hok => by
    obtain ⟨h1, ⟨k0, k1⟩, ⟨a0, a1⟩, ⟨z0, z1⟩, ⟨f0, f1⟩⟩ := h s (List.mem_cons_self ..)
    rw [List.length_cons] at hl
    have hb : symsB (s :: l) = bytesOf (leB (s.1.size : Int) 1) ++ (s.1 ++ (bytesOf (leB s.2.1 1) ++ (bytesOf (leB s.2.2.1 2) ++ (bytesOf (leB s.2.2.2.1 2) ++ (bytesOf (leB s.2.2.2.2 1) ++ symsB l))))) := by
      simp only [symsB, symB, ByteArray.append_assoc]
    rw [hb, impl_ReadImage.l11111010_eq]
    simp only [joinB, List.length_cons]
    rw [decide_eq_true (show ((l.length + 1 : Nat) : Int) > 0 by omega)]
    simp only [cond_true, Bool.not_false]
    rw [tk_text1 _ _ (by omega)]
    simp only [Option.bind_some]
    rw [tk_num1 _ _ k0 k1]
    simp only [Option.bind_some]
    rw [tk_num2 _ _ a0 a1]
    simp only [Option.bind_some]
    rw [tk_num2 _ _ z0 z1]
    simp only [Option.bind_some]
    rw [tk_num1 _ _ f0 f1]
    simp only [Option.bind_some]
    rw [room_le (by simp; omega) (by simp; omega), cond_true, w64 (n := ((l.length + 1 : Nat) : Int) - 1) (by omega) (by omega), show ((l.length + 1 : Nat) : Int) - 1 = (l.length : Int) by omega]
    have := read_syms z c d l (acc ++ [s]) (fun x hx => h x (List.mem_cons_of_mem _ hx)) (by simp; omega) (by simpa using hok)
    simpa using this
/-- A text with its sum. -/
def wsB (b : ByteArray) (v : Int) : ByteArray := b ++ bytesOf (leB v 4)
theorem wsB_size (b : ByteArray) (v : Int) : (wsB b v).size = b.size + 4 := by unfold wsB; rw [ByteArray.size_append, bytesOf_size, leB_length]
def hdI : ByteArray := ⟨#[80, 73, 77, 49]⟩
theorem read_back {im : Img} (h : TxtR im) (hs : ∀ s ∈ im.2.2, SymE s) (v : Int) (hv : impl_withSum (imgB im) = some (wsB (imgB im) v)) : impl_ReadImage (wsB (imgB im) v) = some (im, 0) := by
  have hn := h.n
  have hc := h.c
  have hd := h.d
  have hz := imgH_size im
  have hy := symsB_size im.2.2 h.s
  have hbz : (imgB im).size = 9 + im.1.size + im.2.1.size + (symsB im.2.2).size := by unfold imgB; rw [ByteArray.size_append, hz]
  have hw := wsB_size (imgB im) v
  obtain ⟨B, hB⟩ : ∃ B, imgB im = B := ⟨_, rfl⟩
  have hB2 : B = hdI ++ (bytesOf (leB (im.1.size : Int) 2) ++ (im.1 ++ (bytesOf (leB (im.2.1.size : Int) 2) ++ (im.2.1 ++ (bytesOf (leB (im.2.2.length : Int) 1) ++ symsB im.2.2))))) := by
    rw [← hB]; simp only [imgB, imgH, hdI, ByteArray.append_assoc]
  rw [hB] at hw hv hbz ⊢
  rw [impl_ReadImage_eq, impl_isLong_eq, decide_eq_false (show ¬ ((wsB B v).size : Int) > 65536 by omega)]
  simp only [Option.bind_some, cond_false]
  have e0 : (wsB B v).extract 0 B.size = B := ByteArray.extract_append_eq_left rfl
  have e1 : (wsB B v).extract 0 4 = hdI := by
    unfold wsB; rw [hB2, ByteArray.append_assoc]; exact ByteArray.extract_append_eq_left rfl
  have e2 : (wsB B v).extract 4 B.size = (bytesOf (leB (im.1.size : Int) 2) ++ (im.1 ++ (bytesOf (leB (im.2.1.size : Int) 2) ++ (im.2.1 ++ (bytesOf (leB (im.2.2.length : Int) 1) ++ symsB im.2.2))))) := by
    have : (wsB B v).extract 4 B.size = B.extract 4 B.size := by
      apply bt_ext
      · simp only [ByteArray.size_extract]; omega
      · intro i hi
        simp only [ByteArray.size_extract] at hi
        rw [bt_extract _ _ _ _ (by omega) (by omega), bt_extract _ _ _ _ (by omega) (by omega)]
        unfold wsB; rw [bt_append, if_pos (by omega)]
    rw [this]
    conv => lhs; rw [hB2]
    exact ByteArray.extract_append_eq_right rfl (by rw [← ByteArray.size_append])
  have et : impl_take (wsB B v) (⟨#[80, 73, 77, 49]⟩ : ByteArray) = some (some ((wsB B v).extract 4 B.size, false), 0) := by
    rw [impl_take_eq, decide_eq_false (by omega), strings_HasPrefix_eq, internal_stringslite_HasPrefix_eq, size4, decide_eq_true (show ((wsB B v).size : Int) ≥ ((4 : Nat) : Int) by omega), decide_eq_true (show (0 : Int) ≤ ((4 : Nat) : Int) by omega), w64 (n := ((wsB B v).size : Int) - 4) (by omega) (by omega), show ((wsB B v).size : Int) - 4 = (B.size : Int) by omega, decide_eq_true (show (0 : Int) ≤ (B.size : Int) by omega), decide_eq_true (show (B.size : Int) ≤ ((wsB B v).size : Int) by omega), decide_eq_true (show (4 : Int) ≤ (B.size : Int) by omega)]
    simp only [Nat.le_refl, Nat.zero_le, decide_true, Bool.and_self, cond_true, cond_false, Option.bind_some, Int.toNat_natCast]
    rw [show (Int.toNat 0) = 0 by rfl, show (Int.toNat 4) = 4 by rfl, e1, e0, strEq_dec, decide_eq_true (show hdI = (⟨#[80, 73, 77, 49]⟩ : ByteArray) from rfl), hv]
    simp only [Option.bind_some, Bool.not_true, cond_false]
    rw [strEq_dec, decide_eq_true rfl]; rfl
  rw [et, e2]
  simp only [Option.bind_some, optC, decide_true, Bool.not_true, cond_false]
  rw [tk_text2 _ _ (by omega)]
  simp only [Option.bind_some]
  rw [tk_text2 _ _ (by omega)]
  simp only [Option.bind_some]
  rw [tk_num1 _ _ (by omega) (by omega)]
  simp only [Option.bind_some]
  have := read_syms ((⟨#[]⟩ : ByteArray), (⟨#[]⟩ : ByteArray), []) im.1 im.2.1 im.2.2 [] hs (by simpa using hn) (by simpa using h.oki)
  simpa using this
def sumN (t : ByteArray) : Nat → Nat → Int → Int
  | 0, _, x => x
  | k + 1, i, x => sumN t k (i + 1) ((31 * x + bt t (i : Int)) % 65521)
theorem sumN_val (t : ByteArray) (ht : t.size ≤ 1048576) : ∀ (k i : Nat) (x : Int), i + k = t.size → 0 ≤ x → x < 65521 → spec_l01Sum.l11010 t x i = some (sumN t k i x) := by
  intro k
  induction k with
  | zero =>
    intro i x hi h0 h1
    rw [spec_l01Sum.l11010_eq, lt_nat, decide_eq_false (by omega)]; rfl
  | succ k ih =>
    intro i x hi h0 h1
    have hb := bt_range t (i : Int)
    rw [spec_l01Sum.l11010_eq, lt_nat, inL_nat, decide_eq_true (show i < t.size by omega), w64 (n := bt t (i : Int)) (by omega) (by omega), w64 (n := 31 * x) (by omega) (by omega), w64 (n := 31 * x + bt t (i : Int)) (by omega) (by omega), w64_succ i t.size (by omega) (by omega), Int.tmod_eq_emod_of_nonneg (by omega)]
    simp only [cond_true]
    exact ih (i + 1) _ (by omega) (by omega) (by omega)
theorem sumN_all (t : ByteArray) (ht : t.size ≤ 1048576) : spec_l01Sum t = some (sumN t t.size 0 1) :=
  (spec_l01Sum_eq t).trans (sumN_val t ht t.size 0 1 (by omega) (by omega) (by omega))
theorem sumN_ne (a b : ByteArray) : ∀ (k i : Nat) (x y : Int), (∀ j : Nat, i ≤ j → j < i + k → bt a (j : Int) = bt b (j : Int)) → 0 ≤ x → x < 65521 → 0 ≤ y → y < 65521 → x ≠ y → sumN a k i x ≠ sumN b k i y := by
  intro k
  induction k with
  | zero => intro i x y _ _ _ _ _ h; exact h
  | succ k ih =>
    intro i x y h x0 x1 y0 y1 hne
    rw [sumN, sumN, h i (by omega) (by omega)]
    generalize bt b (i : Int) = c
    exact ih (i + 1) _ _ (fun j h1 h2 => h j (by omega) (by omega)) (by omega) (by omega) (by omega) (by omega) (by omega)
theorem sumN_bent (a b : ByteArray) (m : Nat) (hm : bt a (m : Int) ≠ bt b (m : Int)) (h : ∀ j : Nat, j ≠ m → bt a (j : Int) = bt b (j : Int)) : ∀ (k i : Nat) (x : Int), i ≤ m → m < i + k → 0 ≤ x → x < 65521 → sumN a k i x ≠ sumN b k i x := by
  intro k
  induction k with
  | zero => intro i x h1 h2; omega
  | succ k ih =>
    intro i x h1 h2 x0 x1
    rw [sumN, sumN]
    by_cases e : i = m
    · subst e
      have ha := bt_range a (i : Int)
      have hb := bt_range b (i : Int)
      refine sumN_ne a b k (i + 1) _ _ (fun j h3 h4 => h j (by omega)) (by omega) (by omega) (by omega) (by omega) ?_
      generalize bt a (i : Int) = p at *
      generalize bt b (i : Int) = q at *
      omega
    · rw [h i e]
      exact ih (i + 1) _ (by omega) (by omega) (by omega) (by omega)
theorem leB_inj4 {v w : Int} (hv : 0 ≤ v ∧ v < 65521) (hw : 0 ≤ w ∧ w < 65521) (h : bytesOf (leB v 4) = bytesOf (leB w 4)) : v = w := by
  have h1 := leN_leB 4 v [] hv.1 (by simp)
  have h2 := leN_leB 4 w [] hw.1 (by simp)
  rw [List.nil_append] at h1 h2
  rw [h] at h1
  have e : (256 : Int) ^ 4 = 4294967296 := by decide
  rw [e] at h1 h2
  have := h1.symm.trans h2
  omega
/-- A text whose one byte is bent is refused: 3 in the head, 9 behind it. -/
theorem take_bent (T T' : ByteArray) (m : Nat) (hz : T.size ≤ 65536) (h8 : 8 ≤ T.size) (hz' : T'.size = T.size) (hm : m < T.size) (hne : bt T' (m : Int) ≠ bt T (m : Int)) (h : ∀ j : Nat, j ≠ m → bt T' (j : Int) = bt T (j : Int))
    (hd : T.extract 0 4 = hdI) (v : Int) (hv : 0 ≤ v ∧ v < 65521) (hsum : spec_l01Sum (T.extract 0 (T.size - 4)) = some v) (hT : T = T.extract 0 (T.size - 4) ++ bytesOf (leB v 4)) :
    impl_take T' hdI = some (none, if m < 4 then 3 else 9) := by
  rw [impl_take_eq, hz', decide_eq_false (by omega), strings_HasPrefix_eq, internal_stringslite_HasPrefix_eq, hz', show hdI.size = 4 by rfl, decide_eq_true (show (T.size : Int) ≥ ((4 : Nat) : Int) by omega), decide_eq_true (show (0 : Int) ≤ ((4 : Nat) : Int) by omega), w64 (n := (T.size : Int) - 4) (by omega) (by omega), show (T.size : Int) - 4 = ((T.size - 4 : Nat) : Int) by omega, decide_eq_true (show (0 : Int) ≤ ((T.size - 4 : Nat) : Int) by omega), decide_eq_true (show ((T.size - 4 : Nat) : Int) ≤ (T.size : Int) by omega), decide_eq_true (show (4 : Int) ≤ ((T.size - 4 : Nat) : Int) by omega)]
  simp only [Nat.le_refl, Nat.zero_le, decide_true, Bool.and_self, cond_true, cond_false, Option.bind_some, Int.toNat_natCast]
  rw [show (Int.toNat 0) = 0 by rfl, show (Int.toNat 4) = 4 by rfl, strEq_dec]
  by_cases h4 : m < 4
  · rw [if_pos h4, decide_eq_false]
    · rfl
    · intro e
      rw [← hd] at e
      have : bt (T'.extract 0 4) (m : Int) = bt (T.extract 0 4) (m : Int) := by rw [e]
      rw [bt_extract _ _ _ _ (by omega) (by omega), bt_extract _ _ _ _ (by omega) (by omega), Nat.zero_add] at this
      exact hne this
  · have e4 : T'.extract 0 4 = hdI := by
      rw [← hd]
      apply bt_ext
      · simp only [ByteArray.size_extract, hz']
      · intro i hi
        simp only [ByteArray.size_extract] at hi
        rw [bt_extract _ _ _ _ (by omega) (by omega), bt_extract _ _ _ _ (by omega) (by omega)]
        exact h _ (by omega)
    obtain ⟨v', s1, s2, s3, s4⟩ := withSum_val (T'.extract 0 (T.size - 4)) (by simp only [ByteArray.size_extract]; omega)
    rw [if_neg h4, e4, decide_eq_true rfl, s4]
    simp only [Option.bind_some, Bool.not_true, cond_false]
    rw [strEq_dec, decide_eq_false]
    · rfl
    · intro e
      have hsz : (T'.extract 0 (T.size - 4)).size = T.size - 4 := by simp only [ByteArray.size_extract]; omega
      have hsz2 : (T.extract 0 (T.size - 4)).size = T.size - 4 := by simp only [ByteArray.size_extract]; omega
      by_cases hb : m < T.size - 4
      · -- the sum turns, its bytes do not
        have e2 : bytesOf (leB v' 4) = bytesOf (leB v 4) := by
          apply bt_ext
          · simp only [bytesOf_size, leB_length]
          · intro i hi
            rw [bytesOf_size, leB_length] at hi
            have h1 : bt T' ((T.size - 4 + i : Nat) : Int) = bt (bytesOf (leB v' 4)) (i : Int) := by
              rw [← e, bt_append, if_neg (by omega), hsz]; congr 2; omega
            have h2 : bt (T.extract 0 (T.size - 4) ++ bytesOf (leB v 4)) ((T.size - 4 + i : Nat) : Int) = bt (bytesOf (leB v 4)) (i : Int) := by
              rw [bt_append, if_neg (by omega), hsz2]; congr 2; omega
            rw [← hT] at h2
            rw [← h1, ← h2]; exact h _ (by omega)
        have e3 := leB_inj4 ⟨s2, s3⟩ hv e2
        subst e3
        rw [sumN_all _ (by omega), hsz] at s1
        rw [sumN_all _ (by omega), hsz2] at hsum
        have := (Option.some.inj s1).trans (Option.some.inj hsum).symm
        refine sumN_bent (T'.extract 0 (T.size - 4)) (T.extract 0 (T.size - 4)) m ?_ ?_ (T.size - 4) 0 1 (by omega) (by omega) (by omega) (by omega) this
        · rw [bt_extract _ _ _ _ (by omega) (by omega), bt_extract _ _ _ _ (by omega) (by omega), Nat.zero_add]; exact hne
        · intro j hj
          by_cases hjs : j < T.size - 4
          · rw [bt_extract _ _ _ _ (by omega) (by omega), bt_extract _ _ _ _ (by omega) (by omega)]; exact h _ (by omega)
          · have o1 : ∀ t : ByteArray, t.size = T.size - 4 → bt t (j : Int) = 0 := fun t ht => by
              rw [bt_nat]
              have h1 : ¬ j < t.size := by omega
              have h2 : ¬ j < t.data.size := h1
              simp [Array.getD, h1]
            rw [o1 _ hsz, o1 _ hsz2]
      · have e2 : T'.extract 0 (T.size - 4) = T.extract 0 (T.size - 4) := by
          apply bt_ext
          · rw [hsz, hsz2]
          · intro i hi
            rw [bt_extract _ _ _ _ (by omega) (by omega), bt_extract _ _ _ _ (by omega) (by omega)]
            exact h _ (by omega)
        rw [e2] at s1 e
        have e3 := Option.some.inj (s1.symm.trans hsum)
        rw [e3, ← hT] at e
        exact hne (by rw [e])
theorem take_short (T : ByteArray) (h : T.size < 8) : impl_take T hdI = some (none, 8) := by
  rw [impl_take_eq, decide_eq_true (by omega)]; rfl
theorem read_none {T : ByteArray} {c : Int} (hz : T.size ≤ 65536) (h : impl_take T hdI = some (none, c)) (hc : c ≠ 0) : impl_ReadImage T = some (((⟨#[]⟩ : ByteArray), (⟨#[]⟩ : ByteArray), []), c) := by
  have h' : impl_take T (⟨#[80, 73, 77, 49]⟩ : ByteArray) = some (none, c) := h
  rw [impl_ReadImage_eq, impl_isLong_eq, decide_eq_false (show ¬ (T.size : Int) > 65536 by omega)]
  simp only [Option.bind_some, cond_false]
  rw [h']
  simp only [Option.bind_some, optC]
  rw [decide_eq_false hc]; rfl
theorem symAddr_some (s : Sym) : ∃ v, impl_Symbol_address s = some v := by
  rw [impl_Symbol_address_eq]
  cases decide (s.2.1 = 1) <;> exact ⟨_, rfl⟩
theorem funs_some (l : List Sym) (hn : l.length ≤ 16) : ∀ (k i : Nat) (x : List Int), i + k = l.length → x.length ≤ i → ∃ v, impl_Image_functions.l11010 x l (l.length : Int) (i : Int) = some v := by
  intro k
  induction k with
  | zero =>
    intro i x hi hx
    rw [impl_Image_functions.l11010_eq, lt_nat, decide_eq_false (by omega)]; exact ⟨x, rfl⟩
  | succ k ih =>
    intro i x hi hx
    have hil : i < l.length := by omega
    rw [impl_Image_functions.l11010_eq, lt_nat, decide_eq_true hil, inL_nat, decide_eq_true hil, w64_succ i _ hil (by omega)]
    obtain ⟨v, hv⟩ := symAddr_some (rd (τ := TSym) l (i : Int))
    rw [hv]
    simp only [cond_true, Option.bind_some]
    rw [room_le (by simp; omega) (by simp; omega)]
    cases decide ((rd (τ := TSym) l (i : Int)).2.1 = 1) with
    | true => exact ih (i + 1) _ (by omega) (by simp; omega)
    | false => exact ih (i + 1) _ (by omega) (by omega)
theorem dupV_map (l : List Sym) (n : ByteArray) : dupV l n = (l.map (·.1)).any fun y => decide (y = n) := by simp [dupV, List.any_map, Function.comp_def]
/-- The image with another frame at its first symbol. -/
def fr24 (im : Img) : Img := (im.1, im.2.1, im.2.2.set 0 ((rd (τ := TSym) im.2.2 0).1, (rd (τ := TSym) im.2.2 0).2.1, (rd (τ := TSym) im.2.2 0).2.2.1, (rd (τ := TSym) im.2.2 0).2.2.2.1, 24))
theorem ImgD.lint24 {im : Img} {gs : List Fn} {w c : Int} (h : ImgD im gs w c) : impl_LintImage (fr24 im) = some (0, 0, 17) := by
  have hz := h.sz
  obtain ⟨hn, hcs, hds⟩ := h.sz
  have ht := h.total
  have hsz := h.size
  have hsl := h.slen
  have h0 := h.hn.1
  have hE := h.chain
  have hg0 : gs[0]? = some gs[0] := by simp []
  have hr0 := h.rd_f 0 gs[0] hg0
  obtain ⟨hf, hl0⟩ := And.intro (h.funs 0 gs[0] hg0).1 (h.funs 0 gs[0] hg0).len
  have hsym := h.sym_f 0 gs[0] hg0
  obtain ⟨A, hA⟩ : ∃ A : Int, 4 * (offF gs 0 : Int) = A := ⟨_, rfl⟩
  obtain ⟨Z, hZ⟩ : ∃ Z : Int, (4 : Int) * ((gs[0].2.length : Nat) : Int) = Z := ⟨_, rfl⟩
  obtain ⟨F, hF⟩ : ∃ F : Int, gs[0].1 = F := ⟨_, rfl⟩
  rw [hA, hZ, hF] at hr0 hsym
  obtain ⟨S, hS⟩ : ∃ S, S = im.2.2.set 0 (nmV 0, (1 : Int), A, Z, (24 : Int)) := ⟨_, rfl⟩
  have e24 : fr24 im = (im.1, im.2.1, S) := by
    unfold fr24
    rw [show (0 : Int) = ((0 : Nat) : Int) by rfl, hr0, hS]
  have hSl : S.length = im.2.2.length := by rw [hS, List.length_set]
  have hS0 : S[0]? = some (nmV 0, (1 : Int), A, Z, (24 : Int)) := by rw [hS, List.getElem?_set_self (by omega)]
  have hSi : ∀ i : Nat, 0 < i → S[i]? = im.2.2[i]? := fun i hi => by rw [hS, List.getElem?_set_ne (by omega)]
  have hS0' := rd_some (τ := TSym) S 0 _ hS0
  rw [e24, impl_LintImage_eq]
  simp only [hSl]
  rw [decide_eq_false (by omega), decide_eq_false (show ¬ (im.1.size : Int) > 1024 by omega), decide_eq_false (show ¬ (im.2.1.size : Int) > 256 by omega)]
  simp only [cond_false]
  obtain ⟨l, e1⟩ := funs_some S (by omega) S.length 0 [] (by omega) (by simp)
  have e1 : impl_Image_functions (im.1, im.2.1, S) = some l := (impl_Image_functions_eq _).trans e1
  have hSz : ImgSz (im.1, im.2.1, S) := ⟨by simpa [hSl] using hn, hcs, hds⟩
  have hmap : S.map (·.1) = im.2.2.map (·.1) := by
    apply List.ext_getElem?
    intro i
    rw [List.getElem?_map, List.getElem?_map]
    by_cases hi : i = 0
    · subst hi
      rw [hS0, hsym]; rfl
    · rw [hSi i (by omega)]
  have hlin : ∀ (i : Nat) (hi : i < im.2.2.length) (hi' : i < S.length) (e : Int × Int), lintS (im.1, im.2.1, S) i S[i] e = lintS im i im.2.2[i] e := by
    intro i hi hi' e
    have hd : ∀ n, dupV (S.take i) n = dupV (im.2.2.take i) n := fun n => by rw [dupV_map, dupV_map, List.map_take, List.map_take, hmap]
    by_cases hi0 : i = 0
    · subst hi0
      have a1 : S[0] = (nmV 0, (1 : Int), A, Z, (24 : Int)) := by
        rw [List.getElem?_eq_getElem hi'] at hS0; exact Option.some.inj hS0
      have a2 : im.2.2[0] = (nmV 0, (1 : Int), A, Z, F) := by
        rw [List.getElem?_eq_getElem hi] at hsym; exact Option.some.inj hsym
      rw [a1, a2]
      unfold lintS
      simp only [hd, if_pos]
    · have a1 : S[i] = im.2.2[i] := by
        have := hSi i (by omega)
        rw [List.getElem?_eq_getElem hi, List.getElem?_eq_getElem hi'] at this; exact Option.some.inj this
      rw [a1]
      unfold lintS
      simp only [hd]
  have funs : impl_LintImage.l111111010 (im.1, im.2.1, S) l S (im.2.2.length : Int) 0 = some (0, 0, 17) := by
    have hil : (0 : Nat) < im.2.2.length := by omega
    have hil' : (0 : Nat) < S.length := by omega
    obtain ⟨t1, t2⟩ := off_total gs 0 gs[0] hg0
    have hcut := h.cut 0 gs[0] hg0
    have hat := h.at_ok 0
    rw [hA] at hat
    have hlt0 : decide ((0 : Int) < (im.2.2.length : Int)) = true := decide_eq_true (by omega)
    have hr : rd (τ := TSym) S 0 = (nmV 0, (1 : Int), A, Z, (24 : Int)) := hS0'
    rw [impl_LintImage.l111111010_eq, hlt0, inL_true (i := 0) (by omega) (by omega)]
    simp only [cond_true]
    rw [hr]
    simp only [decide_true, Bool.not_true, cond_false]
    rw [w64 (n := A + Z) (by omega) (by omega), show (decide ((0 : Int) ≤ A) && decide (A ≤ A + Z) && decide (A + Z ≤ (im.1.size : Int))) = true by simp only [Bool.and_eq_true, decide_eq_true_eq]; omega, impl_Symbol_address_eq]
    simp only [decide_true, cond_true, Option.bind_some]
    rw [w64 (n := 4096 + A) (by omega) (by omega), impl_lint_eq, codeAt_val, hat, frame_i]
    have e24 : frameV 24 = false := by decide +kernel
    rw [e24]; rfl
  have key : ∀ (k i : Nat), i + k = im.2.2.length → impl_LintImage.l111010 (im.1, im.2.1, S) (endE gs w c i) (im.2.2.length : Int) (i : Int) = some (0, 0, 17) := by
    intro k
    induction k with
    | zero =>
      intro i hi
      have : i = im.2.2.length := by omega
      subst this
      have hk1 : (rd (τ := TSym) S 0).2.1 = 1 := by rw [show (0 : Int) = ((0 : Nat) : Int) by rfl, hS0']
      rw [impl_LintImage.l111010_eq, lt_nat, decide_eq_false (Nat.lt_irrefl _), e1]
      simp only [hSl, cond_false, Option.bind_some]
      rw [decide_eq_false (show ¬ (im.2.2.length : Int) = 0 by omega), inL_true (i := 0) (by omega) (by omega), decide_eq_true hk1, decide_eq_true h.end]
      exact funs
    | succ k ih =>
      intro i hi
      have hl : i < im.2.2.length := by omega
      have hl' : i < S.length := by omega
      have hEi := hE.2.1 i (by omega)
      rw [impl_LintImage.l111010_eq, lt_nat, decide_eq_true hl, impl_lintS (im.1, im.2.1, S) hSz i hl' (endE gs w c i) ⟨hEi.c, hEi.d⟩]
      have := hlin i hl hl' (endE gs w c i)
      simp only at this ⊢
      rw [this, hE.2.2 i hl hl, w64_succ i _ hl (by omega)]
      exact ih (i + 1) (by omega)
  have := key im.2.2.length 0 (by omega)
  rw [hE.1] at this
  exact this
theorem ImgD.symE {im : Img} {gs : List Fn} {w c : Int} (h : ImgD im gs w c) : ∀ s ∈ im.2.2, SymE s := by
  intro s hs
  have ht := h.total
  have hw := h.hw
  have hc := h.hc
  obtain ⟨i, hi, rfl⟩ := List.getElem_of_mem hs
  have hnm := (h.mem_name i hi).1
  rw [rd_nat (τ := TSym) im.2.2 i hi] at hnm
  by_cases hg : i < gs.length
  · have hgi : gs[i]? = some gs[i] := by simp [hg]
    have e := h.sym_f i gs[i] hgi
    rw [List.getElem?_eq_getElem hi] at e
    have e := Option.some.inj e
    have ho := offF_mono gs i
    have hl := (h.funs i gs[i] hgi).len
    have hf := (h.funs i gs[i] hgi).1
    rw [e] at hnm ⊢
    refine ⟨hnm, by simp, ⟨by simp only; omega, by simp only; omega⟩, ⟨by simp only; omega, by simp only; omega⟩, ?_⟩
    simp only
    rcases hf with h | h | h | h | h <;> omega
  · obtain ⟨j, rfl⟩ : ∃ j, i = gs.length + j := ⟨i - gs.length, by omega⟩
    have e := h.sym_d j
    rw [List.getElem?_eq_getElem hi] at e
    generalize im.2.2[gs.length + j] = s at e hnm ⊢
    have hm : s ∈ dsy w c := List.mem_of_getElem? e.symm
    unfold dsy at hm
    split at hm
    · rcases List.mem_cons.1 hm with rfl | hm
      · refine ⟨hnm, by simp, ⟨by simp, by simp⟩, ⟨by simp only; omega, by simp only; omega⟩, by simp⟩
      · split at hm
        · rw [List.mem_singleton] at hm
          subst hm
          refine ⟨hnm, by simp, ⟨by simp only; omega, by simp only; omega⟩, ⟨by simp only; omega, by simp only; omega⟩, by simp⟩
        · cases hm
    · cases hm
theorem ImgD.txt {im : Img} {gs : List Fn} {w c : Int} (h : ImgD im gs w c) : TxtR im :=
  have hz := h.sz
  ⟨hz.n, by have := hz.c; omega, by have := hz.d; omega, fun s hs => (h.symE s hs).1, h.ok_i, h.okBoth.2.2.1⟩
theorem xor_u8 (x y : Int) (hx : 0 ≤ x ∧ x ≤ 255) (hy : 1 ≤ y ∧ y ≤ 255) : ∃ z : Int, xorI .u8 x y = z ∧ 0 ≤ z ∧ z ≤ 255 ∧ z ≠ x := by
  unfold xorI
  rw [show IntKind.bits .u8 = 8 by rfl, wrap_u8]
  have hlt := (BitVec.ofInt 8 x ^^^ BitVec.ofInt 8 y).isLt
  have h256 : (2 : Nat) ^ 8 = 256 := by decide
  rw [h256] at hlt
  refine ⟨_, rfl, by omega, by omega, fun h => ?_⟩
  have h1 : ((BitVec.ofInt 8 x ^^^ BitVec.ofInt 8 y).toNat : Int) = x := by omega
  have hX : BitVec.ofInt 8 x ^^^ BitVec.ofInt 8 y = BitVec.ofInt 8 x := by
    apply BitVec.eq_of_toNat_eq
    have e : ((BitVec.ofInt 8 x).toNat : Int) = x := by rw [BitVec.toNat_ofInt]; omega
    omega
  have hY : BitVec.ofInt 8 y = 0#8 := by
    have : BitVec.ofInt 8 x ^^^ (BitVec.ofInt 8 x ^^^ BitVec.ofInt 8 y) = BitVec.ofInt 8 x ^^^ BitVec.ofInt 8 x := by rw [hX]
    rwa [← BitVec.xor_assoc, BitVec.xor_self, BitVec.zero_xor] at this
  have e : ((BitVec.ofInt 8 y).toNat : Int) = y := by rw [BitVec.toNat_ofInt]; omega
  rw [hY] at e
  have : ((0#8).toNat : Int) = 0 := rfl
  omega
theorem bt_one (z : Int) (h0 : 0 ≤ z) (h1 : z ≤ 255) : bt (bytesOf [z]) ((0 : Nat) : Int) = z := by
  rw [bt_nat, bytesOf_getD [z] 0 (by intro x hx; rw [List.mem_singleton] at hx; omega) (by simp)]; rfl
theorem bt_out (t : ByteArray) (j : Nat) (h : t.size ≤ j) : bt t (j : Int) = 0 := by
  rw [bt_nat]
  have h1 : ¬ j < t.size := by omega
  have h2 : ¬ j < t.data.size := h1
  simp [Array.getD, h1]
def bentB (T : ByteArray) (k : Nat) (z : Int) : ByteArray := (T.extract 0 k ++ bytesOf [z]) ++ T.extract (k + 1) T.size
theorem bentB_size (T : ByteArray) (k : Nat) (z : Int) (hk : k < T.size) : (bentB T k z).size = T.size := by
  unfold bentB; simp only [ByteArray.size_append, ByteArray.size_extract, bytesOf_size, List.length_singleton]; omega
theorem bentB_bt (T : ByteArray) (k : Nat) (z : Int) (hk : k < T.size) (h0 : 0 ≤ z) (h1 : z ≤ 255) : bt (bentB T k z) (k : Int) = z ∧ ∀ j : Nat, j ≠ k → bt (bentB T k z) (j : Int) = bt T (j : Int) := by
  have e1 : (T.extract 0 k).size = k := by simp only [ByteArray.size_extract]; omega
  have e2 : (T.extract 0 k ++ bytesOf [z]).size = k + 1 := by simp only [ByteArray.size_append, e1, bytesOf_size, List.length_singleton]
  constructor
  · unfold bentB
    rw [bt_append, if_pos (by omega), bt_append, if_neg (by omega), e1, show k - k = 0 by omega]
    exact bt_one z h0 h1
  · intro j hj
    by_cases h : j < T.size
    · unfold bentB
      rw [bt_append]
      by_cases hlt : j < k
      · rw [if_pos (by omega), bt_append, if_pos (by omega), bt_extract _ _ _ _ (by omega) (by omega), Nat.zero_add]
      · rw [if_neg (by omega), e2, bt_extract _ _ _ _ (by omega) (by omega)]
        congr 2; omega
    · rw [bt_out _ _ (by rw [bentB_size T k z hk]; omega), bt_out _ _ (by omega)]
theorem imageText_law (a b : List Int) (ha : BytP a) (hb : BytP b) : laws_FnImageText a b = some true := by
  rw [laws_FnImageText_eq]
  simp only [joinB]
  by_cases h1 : (a.length : Int) > 1048576
  · rw [decide_eq_true h1]; rfl
  rw [decide_eq_false h1]
  simp only [cond_false]
  by_cases h2 : (b.length : Int) > 1048576
  · rw [decide_eq_true h2]; rfl
  rw [decide_eq_false h2]
  simp only [cond_false]
  obtain ⟨im, gs, w, c, e1, h⟩ := imageDrawn_ok a ha (by omega)
  have hT := h.txt
  have hn := hT.n
  have hc := hT.c
  have hd := hT.d
  have hz := imgH_size im
  have hy := symsB_size im.2.2 hT.s
  have hbz : (imgB im).size = 9 + im.1.size + im.2.1.size + (symsB im.2.2).size := by unfold imgB; rw [ByteArray.size_append, hz]
  obtain ⟨v, s1, s2, s3, s4⟩ := withSum_val (imgB im) (by omega)
  have hw := wsB_size (imgB im) v
  have hl0 := h.slen
  have hg0 := h.hn.1
  have eI : impl_ImageText im = some (wsB (imgB im) v, 0) := by rw [text_i hT, s4]; rfl
  have eS : spec_ImageText im = some (wsB (imgB im) v, 0) := by
    rw [spec_ImageText_eq, hT.oks]
    simp only [Option.bind_some, Bool.not_true, cond_false]
    rw [text_l07 hT, s4]; rfl
  have eR := read_back hT h.symE v s4
  rw [e1]
  simp only [Option.bind_some]
  rw [eI, eS]
  simp only [Option.bind_some]
  rw [eR]
  simp only [Option.bind_some]
  rw [eI, strEq_dec, decide_eq_true rfl]
  simp only [Option.bind_some, decide_true, Bool.not_true, cond_false]
  have e24 := h.lint24
  have ex0 : (wsB (imgB im) v).extract 0 ((wsB (imgB im) v).size - 4) = imgB im := by
    rw [hw]; exact ByteArray.extract_append_eq_left (by omega)
  have eh : (wsB (imgB im) v).extract 0 4 = hdI := by
    have : wsB (imgB im) v = hdI ++ (bytesOf (leB (im.1.size : Int) 2) ++ (im.1 ++ (bytesOf (leB (im.2.1.size : Int) 2) ++ (im.2.1 ++ (bytesOf (leB (im.2.2.length : Int) 1) ++ (symsB im.2.2 ++ bytesOf (leB v 4))))))) := by
      simp only [wsB, imgB, imgH, hdI, ByteArray.append_assoc]
    rw [this]; exact ByteArray.extract_append_eq_left rfl
  have eT : wsB (imgB im) v = (wsB (imgB im) v).extract 0 ((wsB (imgB im) v).size - 4) ++ bytesOf (leB v 4) := by rw [ex0]; rfl
  rw [← ex0] at s1
  generalize wsB (imgB im) v = T at hw s1 ex0 eh eT
  obtain ⟨k0, ek, k1, k2⟩ := at_ok b hb (by omega) 0 (T.size : Int) (by decide) (by omega)
  have k2 := k2 (by omega)
  obtain ⟨k, rfl⟩ : ∃ k : Nat, k0 = k := ⟨k0.toNat, by omega⟩
  obtain ⟨r, er, r1, r2⟩ := at_ok b hb (by omega) 1 255 (by decide) (by decide)
  have r2 := r2 (by decide)
  obtain ⟨q0, eq, q1, q2⟩ := at_ok b hb (by omega) 2 8 (by decide) (by decide)
  have q2 := q2 (by decide)
  obtain ⟨q, rfl⟩ : ∃ q : Nat, q0 = q := ⟨q0.toNat, by omega⟩
  have hk : k < T.size := by omega
  have hbt := bt_range T (k : Int)
  obtain ⟨z, ez, z0, z1, zn⟩ := xor_u8 (bt T (k : Int)) (1 + r) hbt (by omega)
  rw [ek]
  simp only [Option.bind_some]
  rw [inL_nat, decide_eq_true hk, er]
  simp only [Option.bind_some, cond_true]
  rw [w64 (n := 1 + r) (by omega) (by omega), wrap_u8, Int.emod_eq_of_lt (by omega) (by omega), ez, w64_succ k T.size (by omega) (by omega), show (Int.toNat 0) = 0 by rfl, Int.toNat_natCast, Int.toNat_natCast, Int.toNat_natCast]
  have hsz1 : (T.extract 0 k).size = k := by simp only [ByteArray.size_extract]; omega
  have hsz3 : (T.extract (k + 1) T.size).size = T.size - (k + 1) := by simp only [ByteArray.size_extract]; omega
  have hb1 : (bytesOf [z]).size = 1 := by rw [bytesOf_size]; rfl
  rw [show (decide ((0 : Nat) ≤ 0) && decide ((0 : Int) ≤ (k : Int)) && decide ((k : Int) ≤ (T.size : Int))) = true by simp; omega, show (decide ((0 : Int) ≤ ((k + 1 : Nat) : Int)) && decide (((k + 1 : Nat) : Int) ≤ (T.size : Int)) && decide ((T.size : Int) ≤ (T.size : Int))) = true by simp; omega, szc (by omega), szc (by rw [ByteArray.size_append]; omega)]
  simp only [cond_true]
  have hbs := bentB_size T k z hk
  obtain ⟨hb2, hb3⟩ := bentB_bt T k z hk z0 z1
  have etk := take_bent T (bentB T k z) k (by omega) (by omega) hbs hk (by rw [hb2]; exact zn) hb3 eh v ⟨s2, s3⟩ s1 eT
  have erd := read_none (by omega) etk (by split <;> decide)
  have erd' : impl_ReadImage ((T.extract 0 k ++ bytesOf [z]) ++ T.extract (k + 1) T.size) = _ := erd
  rw [erd', eq]
  simp only [Option.bind_some]
  have hq : (T.extract 0 q).size < 8 := by simp only [ByteArray.size_extract]; omega
  rw [Int.toNat_natCast, read_none (by omega) (take_short _ hq) (by decide), show (decide ((0 : Nat) ≤ 0) && decide ((0 : Int) ≤ (q : Int)) && decide ((q : Int) ≤ (T.size : Int))) = true by simp; omega]
  simp only [Option.bind_some, cond_true, letB]
  have e24' : impl_LintImage (im.1, im.2.1, im.2.2.set 0 ((rd (τ := TSym) im.2.2 0).1, (rd (τ := TSym) im.2.2 0).2.1, (rd (τ := TSym) im.2.2 0).2.2.1, (rd (τ := TSym) im.2.2 0).2.2.2.1, 24)) = some (0, 0, 17) := e24
  rw [inL_true (i := 0) (by omega) (by omega), e24']
  by_cases h4 : k < 4
  · rw [if_pos h4, decide_eq_true (show (k : Int) < 4 by omega), strEq_dec]; simp
  · rw [if_neg h4, decide_eq_false (show ¬ (k : Int) < 4 by omega), strEq_dec]; simp
end Go.Proofs.Ythkkaoggieganaa.S
