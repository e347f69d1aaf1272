import Derived.Test.YtaplgfojdekgkaaGreatSxP
namespace Go.Proofs.YtaplgfojdekgkaaGreat.S
open Go.Ps
set_option linter.unusedVariables false
set_option maxRecDepth 100000
structure LnkR (o : Obj) (l : Lnk) : Prop where
  a : l.1.length = o.2.2.1.length
  c : l.2.1.length = o.2.2.1.length
  d : l.2.2.1.length = o.2.2.2.1.length
  b : l.2.2.2.length = o.2.2.2.1.length
  cs : ∀ i : Nat, i < o.2.2.1.length → (rd (τ := .str) l.2.1 (i : Int)).size = fsz o i
  bs : ∀ i : Nat, i < o.2.2.2.1.length → (rd (τ := .str) l.2.2.2 (i : Int)).size = dsz o i
  fa : ∀ i : Nat, i < o.2.2.1.length → AtR (rd (τ := .int .i64) l.1 (i : Int))
  ds : ∀ i : Nat, i < o.2.2.2.1.length → AtR (rd (τ := .int .i64) l.2.2.1 (i : Int))
theorem rd_mapB {τ : Ty} (f : Nat → τ.den) (k j : Nat) (h : j < k) : rd (τ := τ) (mapB f 0 k) (j : Int) = f j := by
  rw [rd_nat _ _ (by rw [mapB_length]; exact h), mapB_get, Nat.zero_add]
theorem ObjOK.fsz_pos {o : Obj} (h : ObjOK o) (i : Nat) (hi : i < o.2.2.1.length) : 20 ≤ fsz o i ∧ fsz o i ≤ 256 ∧ fsz o i % 4 = 0 := by
  have := (funC_zero (h.fun_ i hi)).2.2.2
  unfold funcSizeV at this
  unfold fsz
  cases h1 : codeSizeV (rd (τ := TFun) o.2.2.1 (i : Int)).2.2.2.size with
  | false => rw [h1] at this; cases this
  | true =>
    rw [h1, cond_true, decide_eq_true_eq] at this
    have h2 := codeSizeV_range h1
    exact ⟨by omega, h2.2, h2.1⟩
theorem ObjOK.dsz_pos {o : Obj} (h : ObjOK o) (i : Nat) (hi : i < o.2.2.2.1.length) : 8 ≤ dsz o i ∧ dsz o i ≤ 64 ∧ dsz o i % 8 = 0 := datSz_range (datC_zero (h.dat i hi)).2.2
theorem layV_lnk (o : Obj) (h : ObjOK o) (a b : Area) (ha : AreaR a) (hb : AreaR b) : LnkR o (layV o a b).1 ∧ AreaR (layV o a b).2.1 ∧ AreaR (layV o a b).2.2.1 := by
  refine ⟨⟨plB_length _ _ _ _, mapB_length _ _ _, plB_length _ _ _ _, mapB_length _ _ _, fun i hi => ?_, fun i hi => ?_, fun i hi => ?_, fun i hi => ?_⟩, plB_area _ _ _ _ ha, plB_area _ _ _ _ hb⟩
  · show (rd (τ := .str) (mapB (fcode o) 0 o.2.2.1.length) (i : Int)).size = _
    rw [rd_mapB (τ := .str) (fcode o) _ _ hi]; rfl
  · show (rd (τ := .str) (mapB (dbytes o) 0 o.2.2.2.1.length) (i : Int)).size = _
    rw [rd_mapB (τ := .str) (dbytes o) _ _ hi]; rfl
  · have hl := plB_length (fsz o) o.2.2.1.length 0 a
    show AtR (rd (τ := .int .i64) (plB (fsz o) a 0 o.2.2.1.length).2.1 (i : Int))
    rw [rd_nat (τ := .int .i64) _ i (by rw [hl]; exact hi)]
    exact plB_at _ _ _ _ ha (fun j _ h2 => by have := h.fsz_pos j (by omega); omega) _ (List.getElem_mem _)
  · have hl := plB_length (dsz o) o.2.2.2.1.length 0 b
    show AtR (rd (τ := .int .i64) (plB (dsz o) b 0 o.2.2.2.1.length).2.1 (i : Int))
    rw [rd_nat (τ := .int .i64) _ i (by rw [hl]; exact hi)]
    exact plB_at _ _ _ _ hb (fun j _ h2 => by have := h.dsz_pos j (by omega); omega) _ (List.getElem_mem _)
theorem byte_of (v : Int) (i : Nat) (hi : i < 8) : (v % 18446744073709551616) / 2 ^ (8 * i) % 256 = v / 2 ^ (8 * i) % 256 := by
  match i, hi with
  | 0, _ => omega
  | 1, _ => omega
  | 2, _ => omega
  | 3, _ => omega
  | 4, _ => omega
  | 5, _ => omega
  | 6, _ => omega
  | 7, _ => omega
theorem room1 (n : Nat) (h : n ≤ 4096) : roomB n 1 = true := by simp [roomB]; omega
theorem spec_little_loop (v : Int) (n : Nat) (hn : n ≤ 8) : ∀ (k i : Nat) (xs : List Int), i + k = n → xs.length = i → Z4m.a v (n : Int) xs (i : Int) = some (bytesOf (xs ++ leB (v / 2 ^ (8 * i)) k)) := by
  intro k
  induction k with
  | zero =>
    intro i xs h hx
    have : i = n := by omega
    subst this
    rw [Z4m.a_eq, lt_nat, decide_eq_false (Nat.lt_irrefl _), cond_false, leB, List.append_nil]
  | succ k ih =>
    intro i xs h hx
    rw [Z4m.a_eq, lt_nat, decide_eq_true (show i < n by omega), w64 (n := 8 * (i : Int)) (by omega) (by omega), wu64 (n := 8 * (i : Int)) (by omega) (by omega), decide_eq_false (show ¬ 8 * (i : Int) < 0 by omega), w64_succ i n (by omega) (by omega), wrap_u64, shr_div_u (by omega) (by omega), wrap_u8, room1 _ (by simp; omega), ih (i + 1) _ (by omega) (by simp; omega), leB, List.append_assoc]
    have e1 : (8 * (i : Int)).toNat = 8 * i := by omega
    rw [e1, byte_of v i (by omega)]
    have e2 : v / 2 ^ (8 * i) / 256 = v / 2 ^ (8 * (i + 1)) := by
      rw [Int.ediv_ediv_of_nonneg (Int.pow_nonneg (by decide))]
      congr 1
      rw [show 8 * (i + 1) = 8 * i + 8 by omega, Int.pow_add]; rfl
    rw [e2]; rfl
theorem spec_little (v : Int) (n : Nat) (hn : n ≤ 8) : Z4m v (n : Int) = some (bytesOf (leB v n)) := by
  rw [Z4m_eq]
  have := spec_little_loop v n hn n 0 [] (by omega) rfl
  simpa using this
theorem loop_pick {β : Type} (L : Int → Option β) (p : Nat → Bool) (g : Nat → Option β) (n : Nat) (hstep : ∀ i : Nat, i < n → L (i : Int) = bif p i then g i else L ((i + 1 : Nat) : Int)) :
    ∀ k i : Nat, i + k = n → L (i : Int) = if findB p i k < 0 then L (n : Int) else g (findB p i k).toNat := by
  intro k
  induction k with
  | zero => intro i h; have : i = n := by omega
            subst this; rfl
  | succ k ih =>
    intro i h
    rw [hstep i (by omega), ih (i + 1) (by omega), findB]
    cases p i with
    | false => rfl
    | true => rw [cond_true, cond_true, if_neg (by omega)]; rfl
theorem loop_pick0 {β : Type} {L : Int → Option β} (p : Nat → Bool) (g : Nat → Option β) (n : Nat) (hstep : ∀ i : Nat, i < n → L (i : Int) = bif p i then g i else L ((i + 1 : Nat) : Int)) : L 0 = if findB p 0 n < 0 then L (n : Int) else g (findB p 0 n).toNat :=
  loop_pick L p g n hstep n 0 (by omega)
theorem findB_lt (p : Nat → Bool) (n : Nat) (h : ¬ findB p 0 n < 0) : (findB p 0 n).toNat < n := by
  rcases findB_spec p n 0 with ⟨h1, _⟩ | ⟨j, h1, h2, h3, _⟩
  · omega
  · omega
def ownF (o : Obj) (name : ByteArray) : Int := findB (fun i => decide ((rd (τ := TFun) o.2.2.1 (i : Int)).1 = name) && !(rd (τ := TFun) o.2.2.1 (i : Int)).2.1) 0 o.2.2.1.length
def ownD (o : Obj) (name : ByteArray) : Int := findB (fun i => decide ((rd (τ := TDat) o.2.2.2.1 (i : Int)).1 = name)) 0 o.2.2.2.1.length
def symV (t : List Ent) (o : Obj) (l : Lnk) (name : ByteArray) : Int × Bool :=
  if ownF o name < 0 then if ownD o name < 0 then if entV t name < 0 then (0, false) else ((rd (τ := TEnt) t (entV t name)).2.2.1, true)
    else (rd (τ := .int .i64) l.2.2.1 ((ownD o name).toNat : Int), true)
  else (rd (τ := .int .i64) l.1 ((ownF o name).toNat : Int), true)
theorem impl_sym (t : List Ent) (o : Obj) (l : Lnk) (name : ByteArray) (ht : t.length ≤ 64) (hz : ObjSz o) (hl : LnkR o l) : Z82 (l, t, o) name = some (symV t o l name) := by
  have h1 := hz.f
  have h2 := hz.d
  rw [Z82_eq]
  show Z82.a (l, t, o) name o.2.2.1 (o.2.2.1.length : Int) 0 = _
  rw [loop_pick0 (L := Z82.a (l, t, o) name o.2.2.1 (o.2.2.1.length : Int)) (fun i => decide ((rd (τ := TFun) o.2.2.1 (i : Int)).1 = name) && !(rd (τ := TFun) o.2.2.1 (i : Int)).2.1) (fun i => some (rd (τ := .int .i64) l.1 (i : Int), true)) o.2.2.1.length fun i hi => ?_]
  · unfold symV
    show (if ownF o name < 0 then _ else _) = some (if ownF o name < 0 then _ else _)
    by_cases hf : ownF o name < 0
    · rw [if_pos hf, if_pos hf, Z82.a_eq, lt_nat, decide_eq_false (Nat.lt_irrefl _), cond_false]
      show Z82.b (l, t, o) name o.2.2.2.1 (o.2.2.2.1.length : Int) 0 = _
      rw [loop_pick0 (L := Z82.b (l, t, o) name o.2.2.2.1 (o.2.2.2.1.length : Int)) (fun i => decide ((rd (τ := TDat) o.2.2.2.1 (i : Int)).1 = name)) (fun i => some (rd (τ := .int .i64) l.2.2.1 (i : Int), true)) o.2.2.2.1.length fun i hi => ?_]
      · show (if ownD o name < 0 then _ else _) = some (if ownD o name < 0 then _ else _)
        by_cases hd : ownD o name < 0
        · rw [if_pos hd, if_pos hd, Z82.b_eq, lt_nat, decide_eq_false (Nat.lt_irrefl _), cond_false, (ent_val t _ (by omega)).1]
          simp only [Option.bind_some]
          have hr := entV_range t name
          by_cases he : entV t name < 0
          · rw [if_pos he, decide_eq_true he]; rfl
          · rw [if_neg he, decide_eq_false he, inL_true (by omega) (by omega)]; rfl
        · rw [if_neg hd, if_neg hd]; rfl
      · rw [Z82.b_eq, lt_nat, inL_nat, decide_eq_true hi, w64_succ i _ hi (by omega), strEq_dec, inL_nat, show decide (i < l.2.2.1.length) = true from decide_eq_true (by rw [hl.d]; exact hi)]
        simp only [cond_true]
    · rw [if_neg hf, if_neg hf]; rfl
  · rw [Z82.a_eq, lt_nat, inL_nat, decide_eq_true hi, w64_succ i _ hi (by omega), strEq_dec, inL_nat, show decide (i < l.1.length) = true from decide_eq_true (by rw [hl.a]; exact hi)]
    simp only [cond_true]
    cases decide ((rd (τ := TFun) o.2.2.1 (i : Int)).1 = name) <;> cases (rd (τ := TFun) o.2.2.1 (i : Int)).2.1 <;> rfl
theorem spec_sym (t : List Ent) (o : Obj) (l : Lnk) (name : ByteArray) (ht : t.length ≤ 64) (hz : ObjSz o) (hl : LnkR o l) : Z4l t o l name = some (symV t o l name) := by
  have h1 := hz.f
  have h2 := hz.d
  rw [Z4l_eq]
  rw [loop_pick0 (L := Z4l.a t name o l) (fun i => decide ((rd (τ := TFun) o.2.2.1 (i : Int)).1 = name) && !(rd (τ := TFun) o.2.2.1 (i : Int)).2.1) (fun i => some (rd (τ := .int .i64) l.1 (i : Int), true)) o.2.2.1.length fun i hi => ?_]
  · unfold symV
    show (if ownF o name < 0 then _ else _) = some (if ownF o name < 0 then _ else _)
    by_cases hf : ownF o name < 0
    · rw [if_pos hf, if_pos hf, Z4l.a_eq, lt_nat, decide_eq_false (Nat.lt_irrefl _), cond_false]
      rw [loop_pick0 (L := Z4l.b t name o l) (fun i => decide ((rd (τ := TDat) o.2.2.2.1 (i : Int)).1 = name)) (fun i => some (rd (τ := .int .i64) l.2.2.1 (i : Int), true)) o.2.2.2.1.length fun i hi => ?_]
      · show (if ownD o name < 0 then _ else _) = some (if ownD o name < 0 then _ else _)
        by_cases hd : ownD o name < 0
        · rw [if_pos hd, if_pos hd, Z4l.b_eq, lt_nat, decide_eq_false (Nat.lt_irrefl _), cond_false, (ent_val t _ (by omega)).2]
          simp only [Option.bind_some]
          have hr := entV_range t name
          by_cases he : entV t name < 0
          · rw [if_pos he, decide_eq_true he]; rfl
          · rw [if_neg he, decide_eq_false he, inL_true (by omega) (by omega)]; rfl
        · rw [if_neg hd, if_neg hd]; rfl
      · rw [Z4l.b_eq, lt_nat, inL_nat, decide_eq_true hi, w64_succ i _ hi (by omega), strEq_dec, inL_nat, show decide (i < l.2.2.1.length) = true from decide_eq_true (by rw [hl.d]; exact hi)]
        simp only [cond_true]
    · rw [if_neg hf, if_neg hf]; rfl
  · rw [Z4l.a_eq, lt_nat, inL_nat, decide_eq_true hi, w64_succ i _ hi (by omega), strEq_dec, inL_nat, show decide (i < l.1.length) = true from decide_eq_true (by rw [hl.a]; exact hi)]
    simp only [cond_true]
    cases decide ((rd (τ := TFun) o.2.2.1 (i : Int)).1 = name) <;> cases (rd (τ := TFun) o.2.2.1 (i : Int)).2.1 <;> rfl
def TabR (t : List Ent) : Prop := t.length ≤ 64 ∧ ∀ i : Nat, i < t.length → entOKV (rd (τ := TEnt) t (i : Int)) = true
theorem entOK_at {e : Ent} (h : entOKV e = true) : 0 ≤ e.2.2.1 ∧ e.2.2.1 ≤ 1048575 := by
  unfold entOKV at h
  cases h1 : nameV e.1 with
  | false => rw [h1] at h; cases h
  | true =>
    cases h2 : codeAtV e.2.2.1 with
    | false => rw [h1, h2] at h; cases h
    | true => exact codeAtV_range h2
theorem symV_range (t : List Ent) (o : Obj) (l : Lnk) (name : ByteArray) (ht : TabR t) (hl : LnkR o l) : 0 ≤ (symV t o l name).1 ∧ (symV t o l name).1 ≤ 1048575 := by
  unfold symV
  split
  · split
    · split
      · simp
      · rename_i h1 h2 h3
        have hr := entV_range t name
        have := ht.2 (entV t name).toNat (by omega)
        rw [show (((entV t name).toNat : Nat) : Int) = entV t name by omega] at this
        exact entOK_at this
    · rename_i h1 h2
      have := hl.ds _ (findB_lt _ _ h2)
      exact ⟨this.1, this.2.1⟩
  · rename_i h1
    have := hl.fa _ (findB_lt _ _ h1)
    exact ⟨this.1, this.2.1⟩
def spliceV (t : ByteArray) (i : Nat) (b : ByteArray) : ByteArray := t.extract 0 i ++ b ++ t.extract (i + b.size) t.size
theorem spliceV_size (t : ByteArray) (i : Nat) (b : ByteArray) (h : i + b.size ≤ t.size) : (spliceV t i b).size = t.size := by
  unfold spliceV
  simp only [ByteArray.size_append, ByteArray.size_extract]
  omega
theorem spliced_val (t : ByteArray) (i : Nat) (b : ByteArray) (h : i + b.size ≤ t.size) (ht : t.size ≤ 4096) : Z83 t (i : Int) b = some (spliceV t i b) := by
  rw [Z83_eq, w64 (n := (i : Int) + (b.size : Int)) (by omega) (by omega)]
  unfold spliceV
  rw [show (decide (0 ≤ 0) && decide (0 ≤ (i : Int)) && decide ((i : Int) ≤ (t.size : Int))) = true by simp; omega, show (decide (0 ≤ (i : Int) + (b.size : Int)) && decide ((i : Int) + (b.size : Int) ≤ (t.size : Int)) && decide ((t.size : Int) ≤ (t.size : Int))) = true by simp; omega]
  rw [show (Int.toNat 0) = 0 from rfl, Int.toNat_natCast, show ((i : Int) + (b.size : Int)).toNat = i + b.size by omega, Int.toNat_natCast]
  rw [decide_eq_true (show (t.extract 0 i).size + b.size ≤ 9223372036854775807 by simp only [ByteArray.size_extract]; omega), decide_eq_true (show (t.extract 0 i ++ b).size + (t.extract (i + b.size) t.size).size ≤ 9223372036854775807 by simp only [ByteArray.size_append, ByteArray.size_extract]; omega)]
  rfl
theorem rd_set {τ : Ty} (l : List τ.den) (k : Nat) (x : τ.den) (hk : k < l.length) (i : Nat) (hi : i < l.length) : rd (τ := τ) (l.set k x) (i : Int) = if i = k then x else rd (τ := τ) l (i : Int) := by
  rw [rd_nat _ _ (by rw [List.length_set]; exact hi), rd_nat _ _ hi, List.getElem_set]
  by_cases h : i = k
  · rw [if_pos h, if_pos h.symm]
  · rw [if_neg h, if_neg (fun e => h e.symm)]
theorem LnkR.setB {o : Obj} {l : Lnk} (h : LnkR o l) (k : Nat) (hk : k < o.2.2.2.1.length) (x : ByteArray) (hx : x.size = dsz o k) : LnkR o (l.1, l.2.1, l.2.2.1, l.2.2.2.set k x) := by
  refine ⟨h.a, h.c, h.d, by simp only [List.length_set]; exact h.b, h.cs, fun i hi => ?_, h.fa, h.ds⟩
  simp only
  rw [rd_set (τ := .str) l.2.2.2 k x (by rw [h.b]; exact hk) i (by rw [h.b]; exact hi)]
  split
  · rename_i e; rw [e]; exact hx
  · exact h.bs i hi
theorem LnkR.setC {o : Obj} {l : Lnk} (h : LnkR o l) (k : Nat) (hk : k < o.2.2.1.length) (x : ByteArray) (hx : x.size = fsz o k) : LnkR o (l.1, l.2.1.set k x, l.2.2.1, l.2.2.2) := by
  refine ⟨h.a, by simp only [List.length_set]; exact h.c, h.d, h.b, fun i hi => ?_, h.bs, h.fa, h.ds⟩
  simp only
  rw [rd_set (τ := .str) l.2.1 k x (by rw [h.c]; exact hk) i (by rw [h.c]; exact hi)]
  split
  · rename_i e; rw [e]; exact hx
  · exact h.cs i hi
structure RelR (o : Obj) (r : Rel) : Prop where
  at_ : relAt o r = true
  kind : 1 ≤ r.2.2.1 ∧ r.2.2.1 ≤ 9
  word : r.2.2.1 = 9 ↔ (o.2.2.1.length : Int) ≤ r.1
  add : -2147483648 ≤ r.2.2.2.2 ∧ r.2.2.2.2 ≤ 2147483647
theorem relC_zero {o : Obj} {k : Nat} (h : relC o k = 0) : RelR o (rd (τ := TRel) o.2.2.2.2.1 (k : Int)) := by
  unfold relC at h
  generalize rd (τ := TRel) o.2.2.2.2.1 (k : Int) = r at *
  split at h
  · cases h
  split at h
  · cases h
  split at h
  · cases h
  split at h
  · cases h
  rename_i h1 h2 h3 h4
  have h2 : (inR r.2.2.1 1 9 && (decide (r.2.2.1 = 9) == decide (r.1 ≥ (o.2.2.1.length : Int)))) = true := by
    cases h5 : (inR r.2.2.1 1 9 && (decide (r.2.2.1 = 9) == decide (r.1 ≥ (o.2.2.1.length : Int)))); exact absurd h5 h2; rfl
  rw [Bool.and_eq_true, inR_iff] at h2
  refine ⟨?_, h2.1, ?_, ?_⟩
  · cases h5 : relAt o r; exact absurd h5 h1; rfl
  · have := h2.2
    rw [beq_iff_eq, decide_eq_decide] at this
    exact this
  · rw [← inR_iff]
    cases h5 : inR r.2.2.2.2 (-2147483648) 2147483647; exact absurd h5 h4; rfl
theorem RelR.data {o : Obj} {r : Rel} (ho : ObjOK o) (h : RelR o r) (hu : (o.2.2.1.length : Int) ≤ r.1) : ∃ k j : Nat, r.1 - (o.2.2.1.length : Int) = (k : Int) ∧ k < o.2.2.2.1.length ∧ r.2.1 = (j : Int) ∧ 8 * j + 8 ≤ dsz o k := by
  have h1 := h.at_
  unfold relAt at h1
  rw [Bool.and_eq_true, inR_iff, inR_iff] at h1
  refine ⟨(r.1 - (o.2.2.1.length : Int)).toNat, r.2.1.toNat, by omega, by omega, by omega, ?_⟩
  have hv : unitV o r.1 = ((dsz o (r.1 - (o.2.2.1.length : Int)).toNat : Nat) : Int) / 8 := by
    unfold unitV
    rw [if_neg (by omega), if_pos ⟨hu, by omega⟩, Int.tdiv_eq_ediv_of_nonneg (by omega)]
    unfold dsz
    rw [show (((r.1 - (o.2.2.1.length : Int)).toNat : Nat) : Int) = r.1 - (o.2.2.1.length : Int) by omega]
  have := ho.dsz_pos (r.1 - (o.2.2.1.length : Int)).toNat (by omega)
  omega
theorem RelR.code {o : Obj} {r : Rel} (ho : ObjOK o) (h : RelR o r) (hu : ¬ (o.2.2.1.length : Int) ≤ r.1) : ∃ k j : Nat, r.1 = (k : Int) ∧ k < o.2.2.1.length ∧ r.2.1 = (j : Int) ∧ 4 * j + 4 ≤ fsz o k := by
  have h1 := h.at_
  unfold relAt at h1
  rw [Bool.and_eq_true, inR_iff, inR_iff] at h1
  refine ⟨r.1.toNat, r.2.1.toNat, by omega, by omega, by omega, ?_⟩
  have hv : unitV o r.1 = ((fsz o r.1.toNat : Nat) : Int) / 4 := by
    unfold unitV
    rw [if_pos ⟨by omega, by omega⟩, Int.tdiv_eq_ediv_of_nonneg (by omega)]
    unfold fsz
    rw [show ((r.1.toNat : Nat) : Int) = r.1 by omega]
  have := ho.fsz_pos r.1.toNat (by omega)
  omega
theorem room16' (n : Nat) (h : n ≤ 4096) : roomB (0 + n) 16 = true := room16 _ (by omega)
theorem reloc_both (t : List Ent) (o : Obj) (l : Lnk) (r : Rel) (ht : TabR t) (ho : ObjOK o) (hl : LnkR o l) (hr : RelR o r) :
    ∃ l' c, Z8a (l, t, o) r = some (c, l', t, o) ∧ Z4s t o l r = some (l', c) ∧ LnkR o l' ∧ l'.1 = l.1 := by
  have h1 := ho.f
  have h2 := ho.d
  have hs := symV_range t o l r.2.2.2.1 ht hl
  have hadd := hr.add
  rw [Z8a_eq, Z4s_eq, impl_sym t o l _ ht.1 ho.toObjSz hl, spec_sym t o l _ ht.1 ho.toObjSz hl]
  simp only [Option.bind_some]
  generalize symV t o l r.2.2.2.1 = s at *
  cases hs2 : s.2 with
  | false => exact ⟨l, 23, rfl, rfl, hl, rfl⟩
  | true =>
    have hat := hr.at_
    unfold relAt at hat
    rw [Bool.and_eq_true, inR_iff, inR_iff] at hat
    rw [w64 (n := r.1 - (o.2.2.1.length : Int)) (by omega) (by omega), w64 (n := s.1 + r.2.2.2.2) (by omega) (by omega)]
    simp only [Bool.not_true, cond_false]
    by_cases hu : (o.2.2.1.length : Int) ≤ r.1
    · obtain ⟨k, j, e1, hk, e2, hj⟩ := hr.data ho hu
      have hd := ho.dsz_pos k hk
      have hsz := hl.bs k hk
      rw [decide_eq_true (show r.1 - (o.2.2.1.length : Int) ≥ 0 by omega), decide_eq_true (show r.1 ≥ (o.2.2.1.length : Int) from hu), e1, e2, inL_nat, decide_eq_true (show k < l.2.2.2.length by rw [hl.b]; exact hk), w64 (n := 8 * (j : Int)) (by omega) (by omega), w64 (n := 8 * (j : Int) + 8) (by omega) (by omega), room16' l.2.2.2.length (by rw [hl.b]; omega),
        show (8 : Int) * (j : Int) = ((8 * j : Nat) : Int) by omega, show Z81 (s.1 + r.2.2.2.2) 8 = some (bytesOf (leB (s.1 + r.2.2.2.2) 8)) from put_little _ 8 (by omega)]
      rw [show Z4m (s.1 + r.2.2.2.2) 8 = some (bytesOf (leB (s.1 + r.2.2.2.2) 8)) from spec_little _ 8 (by omega)]
      simp only [Option.bind_some, cond_true, letB]
      have hb : (bytesOf (leB (s.1 + r.2.2.2.2) 8)).size = 8 := by rw [bytesOf_size, leB_length]
      generalize bytesOf (leB (s.1 + r.2.2.2.2) 8) = b at *
      rw [spliced_val _ _ _ (by rw [hsz, hb]; omega) (by rw [hsz]; omega)]
      simp only [Option.bind_some]
      generalize rd (τ := .str) l.2.2.2 (k : Int) = d at *
      refine ⟨_, 0, rfl, ?_, hl.setB k hk (spliceV d (8 * j) b) (by rw [spliceV_size _ _ _ (by rw [hsz, hb]; omega), hsz]), rfl⟩
      rw [show (decide (0 ≤ 0) && decide (0 ≤ ((8 * j : Nat) : Int)) && decide (((8 * j : Nat) : Int) ≤ (d.size : Int))) = true by simp; omega, show (decide (0 ≤ ((8 * j : Nat) : Int) + 8) && decide (((8 * j : Nat) : Int) + 8 ≤ (d.size : Int)) && decide ((d.size : Int) ≤ (d.size : Int))) = true by simp; omega]
      rw [show (Int.toNat 0) = 0 from rfl, Int.toNat_natCast, show (((8 * j : Nat) : Int) + 8).toNat = 8 * j + 8 by omega, Int.toNat_natCast, Int.toNat_natCast]
      rw [decide_eq_true (show (d.extract 0 (8 * j)).size + b.size ≤ 9223372036854775807 by simp only [ByteArray.size_extract]; omega), decide_eq_true (show (d.extract 0 (8 * j) ++ b).size + (d.extract (8 * j + 8) d.size).size ≤ 9223372036854775807 by simp only [ByteArray.size_append, ByteArray.size_extract]; omega)]
      unfold spliceV
      rw [hb]
      rfl
    · obtain ⟨k, j, e1, hk, e2, hj⟩ := hr.code ho hu
      have hd := ho.fsz_pos k hk
      have hsz := hl.cs k hk
      have hk8 : 1 ≤ r.2.2.1 ∧ r.2.2.1 ≤ 8 := by
        have := hr.kind
        have h9 : r.2.2.1 ≠ 9 := fun e => hu (hr.word.1 e)
        omega
      have hat2 := hl.fa k hk
      rw [decide_eq_false (show ¬ r.1 - (o.2.2.1.length : Int) ≥ 0 by omega), decide_eq_false (show ¬ r.1 ≥ (o.2.2.1.length : Int) from hu), e1, e2, inL_nat, inL_nat, decide_eq_true (show k < l.2.1.length by rw [hl.c]; exact hk), decide_eq_true (show k < l.1.length by rw [hl.a]; exact hk), w64 (n := 4 * (j : Int)) (by omega) (by omega), w64 (n := 4 * (j : Int) + 4) (by omega) (by omega), room16' l.2.1.length (by rw [hl.c]; omega),
        show (4 : Int) * (j : Int) = ((4 * j : Nat) : Int) by omega]
      simp only [cond_false, cond_true, letB]
      generalize rd (τ := .str) l.2.1 (k : Int) = d at *
      obtain ⟨a, ha⟩ : ∃ x : Int, rd (τ := .int .i64) l.1 (k : Int) = x := ⟨_, rfl⟩
      rw [ha] at hat2
      simp only [ha]
      have hat3 : 0 ≤ a ∧ a ≤ 1048575 := ⟨hat2.1, hat2.2.1⟩
      rw [show (decide (0 ≤ ((4 * j : Nat) : Int)) && decide (((4 * j : Nat) : Int) ≤ ((4 * j : Nat) : Int) + 4) && decide (((4 * j : Nat) : Int) + 4 ≤ (d.size : Int))) = true by simp; omega, show (decide (0 ≤ 0) && decide (0 ≤ ((4 * j : Nat) : Int)) && decide (((4 * j : Nat) : Int) ≤ (d.size : Int))) = true by simp; omega, show (decide (0 ≤ ((4 * j : Nat) : Int) + 4) && decide (((4 * j : Nat) : Int) + 4 ≤ (d.size : Int)) && decide ((d.size : Int) ≤ (d.size : Int))) = true by simp; omega]
      rw [show (Int.toNat 0) = 0 from rfl, Int.toNat_natCast, show (((4 * j : Nat) : Int) + 4).toNat = 4 * j + 4 by omega, Int.toNat_natCast, Int.toNat_natCast]
      have hx : (d.extract (4 * j) (4 * j + 4)).size = 4 := by simp only [ByteArray.size_extract]; omega
      rw [impl_take_val _ (by omega), hx, leN_extract d (4 * j) (4 * j + 4) (by omega) 4 0 (by omega), Nat.add_zero]
      rw [show Z2z d ((4 * j : Nat) : Int) 4 = some (IntKind.wrap .i64 (leN d (4 * j) 4)) from spec_take_val d (4 * j) 4 (by omega) (by omega)]
      have h4 := le4 d (4 * j)
      rw [w64 (n := (leN d (4 * j) 4 : Int)) (by omega) (by omega), w64 (n := a + ((4 * j : Nat) : Int)) (by omega) (by omega)]
      simp only [Option.bind_some, cond_true]
      obtain ⟨q, q1, q2⟩ := relocate_both (leN d (4 * j) 4 : Int) r.2.2.1 (s.1 + r.2.2.2.2) (a + ((4 * j : Nat) : Int)) h4 hk8 ⟨by omega, by omega⟩ ⟨by omega, by omega⟩
      rw [q1, q2]
      simp only [Option.bind_some]
      by_cases hq : q.2 = 0
      · rw [decide_eq_true hq, show Z81 q.1 4 = some (bytesOf (leB q.1 4)) from put_little _ 4 (by omega), show Z4m q.1 4 = some (bytesOf (leB q.1 4)) from spec_little _ 4 (by omega)]
        have hb : (bytesOf (leB q.1 4)).size = 4 := by rw [bytesOf_size, leB_length]
        simp only [Option.bind_some, cond_true, Bool.not_true, cond_false]
        generalize bytesOf (leB q.1 4) = b at *
        rw [spliced_val _ _ _ (by omega) (by omega)]
        simp only [Option.bind_some]
        refine ⟨_, q.2, rfl, ?_, hl.setC k hk (spliceV d (4 * j) b) (by rw [spliceV_size _ _ _ (by omega), hsz]), rfl⟩
        rw [decide_eq_true (show (d.extract 0 (4 * j)).size + b.size ≤ 9223372036854775807 by simp only [ByteArray.size_extract]; omega), decide_eq_true (show (d.extract 0 (4 * j) ++ b).size + (d.extract (4 * j + 4) d.size).size ≤ 9223372036854775807 by simp only [ByteArray.size_append, ByteArray.size_extract]; omega), hq]
        unfold spliceV
        rw [hb]
        rfl
      · rw [decide_eq_false hq]
        exact ⟨l, q.2, rfl, rfl, hl, rfl⟩
def filtB {α : Type} (p : Nat → Bool) (f : Nat → α) : Nat → Nat → List α
  | _, 0 => []
  | i, k + 1 => bif p i then f i :: filtB p f (i + 1) k else filtB p f (i + 1) k
theorem filtB_length {α : Type} (p : Nat → Bool) (f : Nat → α) : ∀ k i, (filtB p f i k).length ≤ k
  | 0, _ => Nat.le_refl _
  | k + 1, i => by
    have := filtB_length p f k (i + 1)
    rw [filtB]
    cases p i
    · rw [cond_false]; omega
    · rw [cond_true, List.length_cons]; omega
theorem loop_filt {α β : Type} (L : List α → Int → Option β) (p : Nat → Bool) (f : Nat → α) (n A : Nat) (hstep : ∀ acc (i : Nat), i < n → acc.length ≤ A + i → L acc (i : Int) = bif p i then L (acc ++ [f i]) ((i + 1 : Nat) : Int) else L acc ((i + 1 : Nat) : Int)) :
    ∀ (k i : Nat) (acc : List α), i + k = n → acc.length ≤ A + i → L acc (i : Int) = L (acc ++ filtB p f i k) (n : Int) := by
  intro k
  induction k with
  | zero => intro i acc h _; have : i = n := by omega
            subst this; rw [filtB, List.append_nil]
  | succ k ih =>
    intro i acc h ha
    rw [hstep acc i (by omega) ha, filtB]
    cases p i with
    | false => rw [cond_false, cond_false, ih (i + 1) _ (by omega) (by omega)]
    | true => rw [cond_true, cond_true, ih (i + 1) _ (by omega) (by simp; omega), List.append_assoc]; rfl
theorem loop_filt0 {α β : Type} {L : List α → Int → Option β} (p : Nat → Bool) (f : Nat → α) (n : Nat) (acc : List α) (hstep : ∀ acc' (i : Nat), i < n → acc'.length ≤ acc.length + i → L acc' (i : Int) = bif p i then L (acc' ++ [f i]) ((i + 1 : Nat) : Int) else L acc' ((i + 1 : Nat) : Int)) : L acc 0 = L (acc ++ filtB p f 0 n) (n : Int) :=
  loop_filt L p f n acc.length hstep n 0 acc (by omega) (by omega)
def callsV (t : List Ent) (o : Obj) (l : Lnk) : List Int :=
  filtB (fun i => decide ((rd (τ := TEnt) t (i : Int)).2.1 = 1)) (fun i => (rd (τ := TEnt) t (i : Int)).2.2.1) 0 t.length ++
    filtB (fun i => !(rd (τ := TFun) o.2.2.1 (i : Int)).2.1) (fun i => rd (τ := .int .i64) l.1 (i : Int)) 0 o.2.2.1.length
theorem callsV_length (t : List Ent) (o : Obj) (l : Lnk) (ht : t.length ≤ 64) (hz : ObjSz o) : (callsV t o l).length ≤ 68 := by
  have := hz.f
  unfold callsV
  have h1 := filtB_length (fun i => decide ((rd (τ := TEnt) t (i : Int)).2.1 = 1)) (fun i => (rd (τ := TEnt) t (i : Int)).2.2.1) t.length 0
  have h2 := filtB_length (fun i => !(rd (τ := TFun) o.2.2.1 (i : Int)).2.1) (fun i => rd (τ := .int .i64) l.1 (i : Int)) o.2.2.1.length 0
  rw [List.length_append]; omega
theorem impl_calls (t : List Ent) (o : Obj) (l : Lnk) (ht : t.length ≤ 64) (hz : ObjSz o) (hl : LnkR o l) : Z8b (l, t, o) = some (callsV t o l) := by
  have h1 := hz.f
  rw [Z8b_eq]
  show Z8b.a (l, t, o) [] t (t.length : Int) 0 = _
  rw [loop_filt0 (L := fun acc i => Z8b.a (l, t, o) acc t (t.length : Int) i) (fun i => decide ((rd (τ := TEnt) t (i : Int)).2.1 = 1)) (fun i => (rd (τ := TEnt) t (i : Int)).2.2.1) t.length [] fun acc i hi ha => ?_]
  · rw [Z8b.a_eq, lt_nat, decide_eq_false (Nat.lt_irrefl _), cond_false, List.nil_append]
    have hf := filtB_length (fun i => decide ((rd (τ := TEnt) t (i : Int)).2.1 = 1)) (fun i => (rd (τ := TEnt) t (i : Int)).2.2.1) t.length 0
    show Z8b.b (l, t, o) _ o.2.2.1 (o.2.2.1.length : Int) 0 = _
    rw [loop_filt0 (L := fun acc i => Z8b.b (l, t, o) acc o.2.2.1 (o.2.2.1.length : Int) i) (fun i => !(rd (τ := TFun) o.2.2.1 (i : Int)).2.1) (fun i => rd (τ := .int .i64) l.1 (i : Int)) o.2.2.1.length (filtB (fun i => decide ((rd (τ := TEnt) t (i : Int)).2.1 = 1)) (fun i => (rd (τ := TEnt) t (i : Int)).2.2.1) 0 t.length) fun acc i hi ha => ?_]
    · show Z8b.b (l, t, o) _ o.2.2.1 (o.2.2.1.length : Int) (o.2.2.1.length : Int) = _
      rw [Z8b.b_eq, lt_nat, decide_eq_false (Nat.lt_irrefl _), cond_false]; rfl
    · show Z8b.b (l, t, o) acc o.2.2.1 (o.2.2.1.length : Int) (i : Int) = _
      rw [Z8b.b_eq, lt_nat, inL_nat, decide_eq_true hi, w64_succ i _ hi (by omega), inL_nat, show decide (i < l.1.length) = true from decide_eq_true (by rw [hl.a]; exact hi), room8 _ (by simp; omega)]
      cases (rd (τ := TFun) o.2.2.1 (i : Int)).2.1 <;> rfl
  · show Z8b.a (l, t, o) acc t (t.length : Int) (i : Int) = _
    rw [Z8b.a_eq, lt_nat, inL_nat, decide_eq_true hi, w64_succ i _ hi (by omega), room8 _ (by simp at ha ⊢; omega)]
    cases decide ((rd (τ := TEnt) t (i : Int)).2.1 = 1) <;> rfl
theorem spec_calls (t : List Ent) (o : Obj) (l : Lnk) (ht : t.length ≤ 64) (hz : ObjSz o) (hl : LnkR o l) (x8 : Lnk) (x9 x10 a b : Area) : Z4t.b t o x8 x9 x10 l a b [] 0 = Z4t.d o x8 x9 x10 l a b (callsV t o l) 0 := by
  have h1 := hz.f
  rw [loop_filt0 (L := fun acc i => Z4t.b t o x8 x9 x10 l a b acc i) (fun i => decide ((rd (τ := TEnt) t (i : Int)).2.1 = 1)) (fun i => (rd (τ := TEnt) t (i : Int)).2.2.1) t.length [] fun acc i hi ha => ?_]
  · rw [Z4t.b_eq, lt_nat, decide_eq_false (Nat.lt_irrefl _), cond_false, List.nil_append]
    have hf := filtB_length (fun i => decide ((rd (τ := TEnt) t (i : Int)).2.1 = 1)) (fun i => (rd (τ := TEnt) t (i : Int)).2.2.1) t.length 0
    rw [loop_filt0 (L := fun acc i => Z4t.c o x8 x9 x10 l a b acc i) (fun i => !(rd (τ := TFun) o.2.2.1 (i : Int)).2.1) (fun i => rd (τ := .int .i64) l.1 (i : Int)) o.2.2.1.length (filtB (fun i => decide ((rd (τ := TEnt) t (i : Int)).2.1 = 1)) (fun i => (rd (τ := TEnt) t (i : Int)).2.2.1) 0 t.length) fun acc i hi ha => ?_]
    · rw [Z4t.c_eq, lt_nat, decide_eq_false (Nat.lt_irrefl _), cond_false]; rfl
    · show Z4t.c o x8 x9 x10 l a b acc (i : Int) = _
      rw [Z4t.c_eq, lt_nat, inL_nat, decide_eq_true hi, w64_succ i _ hi (by omega), inL_nat, show decide (i < l.1.length) = true from decide_eq_true (by rw [hl.a]; exact hi), room8 _ (by simp; omega)]
      cases (rd (τ := TFun) o.2.2.1 (i : Int)).2.1 <;> rfl
  · show Z4t.b t o x8 x9 x10 l a b acc (i : Int) = _
    rw [Z4t.b_eq, lt_nat, inL_nat, decide_eq_true hi, w64_succ i _ hi (by omega), room8 _ (by simp at ha ⊢; omega)]
    cases decide ((rd (τ := TEnt) t (i : Int)).2.1 = 1) <;> rfl
theorem impl_rel_skip (o : Obj) (hz : ObjSz o) (x5 x6 : Area) (x8 : Lnk) (x9 x10 : Area) (s : LnS) (c : Int) (hc : c ≠ 0) : ∀ k i : Nat, i + k = o.2.2.2.2.1.length →
    Z8c.c x5 x6 o x8 x9 x10 s c o.2.2.2.2.1 (o.2.2.2.2.1.length : Int) (i : Int) = Z8c.d x5 x6 x8 x9 x10 s c o.2.2.1 (o.2.2.1.length : Int) 0 := by
  have h1 := hz.r
  intro k
  induction k with
  | zero => intro i h; have : i = o.2.2.2.2.1.length := by omega
            subst this; rw [Z8c.c_eq, lt_nat, decide_eq_false (Nat.lt_irrefl _), cond_false]
  | succ k ih =>
    intro i h
    have hi : i < o.2.2.2.2.1.length := by omega
    rw [Z8c.c_eq, lt_nat, inL_nat, decide_eq_true hi, w64_succ i _ hi (by omega), decide_eq_false hc, ih (i + 1) (by omega)]; rfl
abbrev ZL : Lnk := ([], [], [], [])
abbrev ZA : Area := (0, 0, 0)
theorem rels_both (t : List Ent) (o : Obj) (ht : TabR t) (ho : ObjOK o) (x5 x6 : Area) (x8 : Lnk) (x9 x10 : Area) (a b : Area) : ∀ (k i : Nat) (l : Lnk), i + k = o.2.2.2.2.1.length → LnkR o l →
    ∃ l' c, Z8c.c x5 x6 o x8 x9 x10 (l, t, o) 0 o.2.2.2.2.1 (o.2.2.2.2.1.length : Int) (i : Int) = Z8c.d x5 x6 x8 x9 x10 (l', t, o) c o.2.2.1 (o.2.2.1.length : Int) 0 ∧
      (c = 0 → LnkR o l' ∧ l'.1 = l.1 ∧ Z4t.a t o ZL ZA ZA l a b (i : Int) = Z4t.b t o ZL ZA ZA l' a b [] 0) ∧ (c ≠ 0 → Z4t.a t o ZL ZA ZA l a b (i : Int) = some (ZL, ZA, ZA, c)) := by
  have h1 := ho.r
  intro k
  induction k with
  | zero =>
    intro i l h hl
    have : i = o.2.2.2.2.1.length := by omega
    subst this
    rw [Z8c.c_eq, lt_nat, decide_eq_false (Nat.lt_irrefl _), cond_false, Z4t.a_eq, lt_nat, decide_eq_false (Nat.lt_irrefl _), cond_false]
    exact ⟨l, 0, rfl, fun _ => ⟨hl, rfl, rfl⟩, fun h => absurd rfl h⟩
  | succ k ih =>
    intro i l h hl
    have hi : i < o.2.2.2.2.1.length := by omega
    obtain ⟨l1, c, e1, e2, hl1, hl2⟩ := reloc_both t o l (rd (τ := TRel) o.2.2.2.2.1 (i : Int)) ht ho hl (relC_zero (ho.rel i hi))
    rw [Z8c.c_eq, lt_nat, inL_nat, decide_eq_true hi, w64_succ i _ hi (by omega), Z4t.a_eq, lt_nat, inL_nat, decide_eq_true hi, w64_succ i _ hi (by omega), e1, e2]
    simp only [cond_true, decide_true, Option.bind_some]
    by_cases hc : c = 0
    · subst hc
      obtain ⟨l', c', g1, g2, g3⟩ := ih (i + 1) l1 (by omega) hl1
      exact ⟨l', c', g1, fun h => ⟨(g2 h).1, (g2 h).2.1.trans hl2, (g2 h).2.2⟩, g3⟩
    · rw [impl_rel_skip o ho.toObjSz x5 x6 x8 x9 x10 (l1, t, o) c hc k (i + 1) (by omega), decide_eq_false hc]
      exact ⟨l1, c, rfl, fun h => absurd h hc, fun _ => rfl⟩
theorem impl_lint_skip (o : Obj) (hz : ObjSz o) (x5 x6 : Area) (x8 : Lnk) (x9 x10 : Area) (s : LnS) (c : Int) (hc : c ≠ 0) : ∀ k i : Nat, i + k = o.2.2.1.length →
    Z8c.d x5 x6 x8 x9 x10 s c o.2.2.1 (o.2.2.1.length : Int) (i : Int) = some (ZL, ZA, ZA, c) := by
  have h1 := hz.f
  intro k
  induction k with
  | zero => intro i h; have : i = o.2.2.1.length := by omega
            subst this; rw [Z8c.d_eq, lt_nat, decide_eq_false (Nat.lt_irrefl _), cond_false, decide_eq_false hc]; rfl
  | succ k ih =>
    intro i h
    have hi : i < o.2.2.1.length := by omega
    rw [Z8c.d_eq, lt_nat, inL_nat, decide_eq_true hi, w64_succ i _ hi (by omega), decide_eq_false hc, ih (i + 1) (by omega)]; rfl
theorem lints_both (t : List Ent) (o : Obj) (ht : TabR t) (ho : ObjOK o) (x8 : Lnk) (x9 x10 : Area) (a b : Area) (l : Lnk) (hl : LnkR o l) : ∀ (k i : Nat), i + k = o.2.2.1.length →
    ∃ v, Z8c.d a b x8 x9 x10 (l, t, o) 0 o.2.2.1 (o.2.2.1.length : Int) (i : Int) = some v ∧ Z4t.d o ZL ZA ZA l a b (callsV t o l) (i : Int) = some v ∧ (v.2.2.2 = 0 → v = (l, a, b, 0)) := by
  have h1 := ho.f
  intro k
  induction k with
  | zero =>
    intro i h
    have : i = o.2.2.1.length := by omega
    subst this
    rw [Z8c.d_eq, lt_nat, decide_eq_false (Nat.lt_irrefl _), cond_false, Z4t.d_eq, lt_nat, decide_eq_false (Nat.lt_irrefl _), cond_false]
    exact ⟨(l, a, b, 0), rfl, rfl, fun _ => rfl⟩
  | succ k ih =>
    intro i h
    have hi : i < o.2.2.1.length := by omega
    have hsz := hl.cs i hi
    have hfs := ho.fsz_pos i hi
    have hcl := callsV_length t o l ht.1 ho.toObjSz
    obtain ⟨v, e1, e2⟩ := lint_both (rd (τ := .str) l.2.1 (i : Int)) (rd (τ := .int .i64) l.1 (i : Int)) (rd (τ := TFun) o.2.2.1 (i : Int)).2.2.1 (callsV t o l) (by omega) (by omega)
    rw [Z8c.d_eq, lt_nat, inL_nat, decide_eq_true hi, w64_succ i _ hi (by omega), Z4t.d_eq, lt_nat, inL_nat, decide_eq_true hi, w64_succ i _ hi (by omega), impl_calls t o l ht.1 ho.toObjSz hl]
    rw [inL_nat, inL_nat, show decide (i < l.2.1.length) = true from decide_eq_true (by rw [hl.c]; exact hi), show decide (i < l.1.length) = true from decide_eq_true (by rw [hl.a]; exact hi), decide_eq_true hi]
    simp only [cond_true, decide_true, Option.bind_some]
    rw [e1, e2]
    simp only [Option.bind_some]
    by_cases hv : v.2 = 0
    · rw [hv]
      exact ih (i + 1) (by omega)
    · rw [impl_lint_skip o ho.toObjSz a b x8 x9 x10 (l, t, o) v.2 hv k (i + 1) (by omega), decide_eq_false hv]
      exact ⟨(ZL, ZA, ZA, v.2), rfl, rfl, fun h => absurd h hv⟩
structure LinkR (t : List Ent) (a b : Area) (o : Obj) (v : Lnk × Area × Area × Int) : Prop where
  lnk : LnkR o v.1
  ea : v.2.1 = (layV o a b).2.1
  eb : v.2.2.1 = (layV o a b).2.2.1
  ok : (layV o a b).2.2.2 = true
  ats : v.1.1 = (layV o a b).1.1
  names : namesC t o = 0
theorem namesC_skip (f : Int) (hf : f ≠ 0) (ok : Bool) : after f ok = f := by unfold after; rw [if_neg (fun h => hf h.1)]
theorem link_core (t : List Ent) (a b : Area) (o : Obj) (ht : TabR t) (ha : AreaR a) (hb : AreaR b) (ho : ObjOK o) (x8 : Lnk) (x9 x10 : Area) :
    ∃ v, Z8c.a a b o x8 x9 x10 (([], [], [], []), t, o) (namesC t o) o.2.2.1 (o.2.2.1.length : Int) 0 = some v ∧ Z4t t a b o = some v ∧ (v.2.2.2 = 0 → LinkR t a b o v) := by
  rw [impl_lay o ho.toUnitSz a b ha hb, Z4t_eq, spec_names t o ht.1 ho.toObjSz]
  simp only [Option.bind_some]
  obtain ⟨hl, hA, hB⟩ := layV_lnk o ho a b ha hb
  by_cases hn : namesC t o = 0
  · rw [hn]
    obtain ⟨s1, s2⟩ := spec_lay o ho.toUnitSz a b ha hb
    cases hok : (layV o a b).2.2.2 with
    | false =>
      obtain ⟨r, e1, e2⟩ := s2 hok
      rw [e1]
      simp only [Option.bind_some]
      rw [e2, show after 0 false = 7 from rfl]
      refine ⟨(ZL, ZA, ZA, 7), ?_, rfl, fun h => by cases h⟩
      rw [show (0 : Int) = ((0 : Nat) : Int) from rfl, impl_rel_skip o ho.toObjSz _ _ x8 x9 x10 ((layV o a b).1, t, o) 7 (by decide) o.2.2.2.2.1.length 0 (by omega)]
      exact impl_lint_skip o ho.toObjSz _ _ x8 x9 x10 ((layV o a b).1, t, o) 7 (by decide) o.2.2.1.length 0 (by omega)
    | true =>
      rw [s1 hok]
      simp only [Option.bind_some]
      rw [hok, show after 0 true = 0 from rfl]
      obtain ⟨l', c, g1, g2, g3⟩ := rels_both t o ht ho (layV o a b).2.1 (layV o a b).2.2.1 x8 x9 x10 (layV o a b).2.1 (layV o a b).2.2.1 o.2.2.2.2.1.length 0 (layV o a b).1 (by omega) hl
      have g1' : Z8c.c (layV o a b).2.1 (layV o a b).2.2.1 o x8 x9 x10 ((layV o a b).1, t, o) 0 o.2.2.2.2.1 (o.2.2.2.2.1.length : Int) 0 = _ := g1
      rw [g1']
      simp only [decide_true, Bool.not_true, cond_false]
      by_cases hc : c = 0
      · subst hc
        obtain ⟨hl', hl2, g4⟩ := g2 rfl
        obtain ⟨v, e1, e2, e3⟩ := lints_both t o ht ho x8 x9 x10 (layV o a b).2.1 (layV o a b).2.2.1 l' hl' o.2.2.1.length 0 (by omega)
        have g4' := spec_calls t o l' ht.1 ho.toObjSz hl' ZL ZA ZA (layV o a b).2.1 (layV o a b).2.2.1
        refine ⟨v, e1, g4.trans (g4'.trans e2), fun h => ?_⟩
        rw [e3 h]
        exact ⟨hl', rfl, rfl, hok, hl2, hn⟩
      · refine ⟨(ZL, ZA, ZA, c), ?_, g3 hc, fun h => absurd h hc⟩
        exact impl_lint_skip o ho.toObjSz _ _ x8 x9 x10 (l', t, o) c hc o.2.2.1.length 0 (by omega)
  · rw [decide_eq_false hn, namesC_skip _ hn]
    refine ⟨(ZL, ZA, ZA, namesC t o), ?_, rfl, fun h => absurd h hn⟩
    rw [show (0 : Int) = ((0 : Nat) : Int) from rfl, impl_rel_skip o ho.toObjSz _ _ x8 x9 x10 ((layV o a b).1, t, o) _ hn o.2.2.2.2.1.length 0 (by omega)]
    exact impl_lint_skip o ho.toObjSz _ _ x8 x9 x10 ((layV o a b).1, t, o) _ hn o.2.2.1.length 0 (by omega)
theorem tabR_of {t : List Ent} (h : tabV t = true) : TabR t := by
  unfold tabV at h
  rw [Bool.and_eq_true, decide_eq_true_eq, allB_iff] at h
  refine ⟨h.1, fun i hi => ?_⟩
  have := h.2 i (Nat.zero_le _) (by omega)
  unfold tabP at this
  cases h1 : entOKV (rd (τ := TEnt) t (i : Int)) with
  | true => rfl
  | false => rw [h1] at this; cases this
theorem link_both (t : List Ent) (a b : Area) (o : Obj) (hr : RelsR o) (ht : tabV t = true) (ha : AreaR a) (hb : AreaR b) (ho : objV o = true) :
    ∃ v, Z8c t a b o = some v ∧ Z4t t a b o = some v ∧ (v.2.2.2 = 0 → LinkR t a b o v) := by
  have hT := tabR_of ht
  have hO := objOK_of ho
  have := hT.1
  obtain ⟨v, e1, e2, e3⟩ := link_core t a b o hT ha hb hO ([], [], [], []) (0, 0, 0) (0, 0, 0)
  refine ⟨v, ?_, e2, e3⟩
  rw [Z8c_eq, decide_eq_false (show ¬ (t.length : Int) > 4096 by omega), (table_val t).1, ht, area_impl a, areaV_iff.2 ha, area_impl b, areaV_iff.2 hb, (object_val o hr).1, ho]
  simp only [Option.bind_some, joinB, Bool.not_true, cond_false]
  rw [impl_names _ _ _ hT.1 hO.toObjSz]
  exact e1
def updF (F : Int → Int) (a : Int) (t : ByteArray) (x : Int) : Int := if a ≤ x ∧ x < a + (t.size : Int) then bt t (x - a) else F x
def FR (F : Int → Int) : Prop := ∀ x, 0 ≤ F x ∧ F x ≤ 255
theorem updF_range {F : Int → Int} (h : FR F) (a : Int) (t : ByteArray) : FR (updF F a t) := by
  intro x
  unfold updF
  split
  · exact bt_range _ _
  · exact h x
def pg (F : Int → Int) (b : Int) : ByteArray := bytesOf (mapB (fun i => F (b + (i : Int))) 0 128)
def pageF (F : Int → Int) (q : Int × Int) : Page := (q.1, q.2, pg F q.1)
def memF (F : Int → Int) (L : List (Int × Int)) : List Page := L.map (pageF F)
theorem pg_size (F : Int → Int) (b : Int) : (pg F b).size = 128 := by unfold pg; rw [bytesOf_size, mapB_length]
theorem mapB_all {α : Type} (f : Nat → α) (P : α → Prop) (k i : Nat) (h : ∀ j, P (f j)) : ∀ x ∈ mapB f i k, P x := by
  intro x hx
  obtain ⟨j, _, _, rfl⟩ := (mapB_mem f x k i).1 hx
  exact h j
theorem pg_bt {F : Int → Int} (hF : FR F) (b i : Int) (h : 0 ≤ i) (h' : i < 128) : bt (pg F b) i = F (b + i) := by
  obtain ⟨n, rfl⟩ : ∃ n : Nat, i = (n : Int) := ⟨i.toNat, by omega⟩
  rw [bt_nat]
  unfold pg
  rw [bytesOf_getD _ n (mapB_all _ _ _ _ fun j => hF _) (by rw [mapB_length]; omega), mapB_get, Nat.zero_add]
theorem intsOf_bytesOf (xs : List Int) (h : ∀ x ∈ xs, 0 ≤ x ∧ x ≤ 255) : intsOf (bytesOf xs) = xs := by
  unfold intsOf bytesOf
  simp only [List.map_map]
  rw [List.map_congr_left (g := id) fun x hx => ?_, List.map_id]
  have := h x hx
  simp only [Function.comp, id]
  rw [UInt8.toNat_ofNat']
  omega
theorem mapB_set {α : Type} (f : Nat → α) (n i : Nat) (x : α) : (mapB f 0 n).set i x = mapB (fun j => if j = i then x else f j) 0 n := by
  apply List.ext_getElem
  · rw [List.length_set, mapB_length, mapB_length]
  · intro j h1 h2
    rw [List.getElem_set, mapB_get, mapB_get, Nat.zero_add]
    by_cases h : j = i
    · rw [if_pos h.symm, if_pos h]
    · rw [if_neg (fun e => h e.symm), if_neg h]
theorem mapB_congr {α : Type} {f g : Nat → α} : ∀ (k i : Nat), (∀ j, i ≤ j → j < i + k → f j = g j) → mapB f i k = mapB g i k
  | 0, _, _ => rfl
  | k + 1, i, h => by rw [mapB, mapB, h i (Nat.le_refl _) (by omega), mapB_congr k (i + 1) fun j h1 h2 => h j (by omega) (by omega)]
def rowV (F : Int → Int) (a : Int) (t : ByteArray) (b : Int) (i : Nat) : List Int := mapB (fun j => if j < i then updF F a t (b + (j : Int)) else F (b + (j : Int))) 0 128
structure BasesR (L : List (Int × Int)) : Prop where
  len : L.length ≤ 64
  base : ∀ q ∈ L, 0 ≤ q.1 ∧ q.1 ≤ 1048575
def AddrR (a : Int) (t : ByteArray) : Prop := -1099511627776 ≤ a ∧ a ≤ 1099511627776 ∧ t.size ≤ 1048576
theorem impl_put_row {F : Int → Int} (hF : FR F) (a : Int) (t : ByteArray) (hA : AddrR a t) (x6 m : List Page) (k : Nat) (p : Page) (hp : 0 ≤ p.1 ∧ p.1 ≤ 1048575) (x17 x18 : Int) (hk : k < m.length) : ∀ (d i : Nat), i + d = 128 →
    Z77.b a t x6 m (k : Int) p (rowV F a t p.1 i) x17 x18 128 (i : Int) = Z77.a a t x6 (m.set k ((rd (τ := TPage) m (k : Int)).1, (rd (τ := TPage) m (k : Int)).2.1, bytesOf (rowV F a t p.1 128))) x17 (IntKind.wrap .i64 (x18 + 1)) := by
  obtain ⟨a1, a2, a3⟩ := hA
  intro d
  induction d with
  | zero =>
    intro i h
    have : i = 128 := by omega
    subst this
    rw [Z77.b_eq, show decide (((128 : Nat) : Int) < 128) = false by decide, cond_false, inL_nat, decide_eq_true hk, Int.toNat_natCast]; rfl
  | succ d ih =>
    intro i h
    have hi : i < 128 := by omega
    have hs : rowV F a t p.1 (i + 1) = if a ≤ p.1 + (i : Int) ∧ p.1 + (i : Int) < a + (t.size : Int) then (rowV F a t p.1 i).set i (bt t (p.1 + (i : Int) - a)) else rowV F a t p.1 i := by
      unfold rowV
      split
      · rename_i hc
        rw [mapB_set]
        apply mapB_congr
        intro j _ _
        by_cases hj : j = i
        · subst hj
          rw [if_pos (by omega), if_pos rfl]
          unfold updF
          rw [if_pos hc]
        · rw [if_neg hj]
          by_cases hj2 : j < i
          · rw [if_pos (by omega), if_pos hj2]
          · rw [if_neg (by omega), if_neg hj2]
      · rename_i hc
        apply mapB_congr
        intro j _ _
        by_cases hj : j = i
        · subst hj
          rw [if_pos (by omega), if_neg (by omega)]
          unfold updF
          rw [if_neg hc]
        · by_cases hj2 : j < i
          · rw [if_pos (by omega), if_pos hj2]
          · rw [if_neg (by omega), if_neg hj2]
    have hl : (rowV F a t p.1 i).length = 128 := by unfold rowV; rw [mapB_length]
    have ih' := ih (i + 1) (by omega)
    rw [hs] at ih'
    rw [Z77.b_eq, decide_eq_true (show (i : Int) < 128 by omega), w64 (n := p.1 + (i : Int)) (by omega) (by omega), w64 (n := p.1 + (i : Int) - a) (by omega) (by omega), w64 (n := (t.size : Int) - 1) (by omega) (by omega), w64 (n := (i : Int) + 1) (by omega) (by omega), show (i : Int) + 1 = ((i + 1 : Nat) : Int) by omega, (in_val _ _ _).1]
    simp only [cond_true, Option.bind_some]
    by_cases hc : a ≤ p.1 + (i : Int) ∧ p.1 + (i : Int) < a + (t.size : Int)
    · rw [inR_iff.2 (show 0 ≤ p.1 + (i : Int) - a ∧ p.1 + (i : Int) - a ≤ (t.size : Int) - 1 by omega), inL_true (i := p.1 + (i : Int) - a) (n := t.size) (by omega) (by omega), inL_nat, hl, decide_eq_true hi]
      rw [if_pos hc] at ih'
      simp only [cond_true, letB, Int.toNat_natCast]
      exact ih'
    · rw [show inR (p.1 + (i : Int) - a) 0 ((t.size : Int) - 1) = false by cases h5 : inR (p.1 + (i : Int) - a) 0 ((t.size : Int) - 1); rfl; rw [inR_iff] at h5; omega]
      rw [if_neg hc] at ih'
      simp only [cond_false]
      exact ih'
theorem impl_put_loop {F : Int → Int} (hF : FR F) (a : Int) (t : ByteArray) (hA : AddrR a t) (L : List (Int × Int)) (hL : BasesR L) (x6 : List Page) : ∀ (d k : Nat), k + d = L.length →
    Z77.a a t x6 (memF (updF F a t) (L.take k) ++ memF F (L.drop k)) (L.length : Int) (k : Int) = some (memF (updF F a t) L) := by
  have hn := hL.len
  intro d
  induction d with
  | zero =>
    intro k h
    have : k = L.length := by omega
    subst this
    rw [Z77.a_eq, lt_nat, decide_eq_false (Nat.lt_irrefl _), cond_false, List.take_length, List.drop_length]
    simp [memF]
  | succ d ih =>
    intro k h
    have hk : k < L.length := by omega
    have hml : (memF (updF F a t) (L.take k) ++ memF F (L.drop k)).length = L.length := by simp [memF]; omega
    have hrd : rd (τ := TPage) (memF (updF F a t) (L.take k) ++ memF F (L.drop k)) (k : Int) = pageF F L[k] := by
      rw [rd_nat (τ := TPage) _ k (by rw [hml]; exact hk), List.getElem_append_right (by simp [memF]; omega)]
      simp [memF, List.getElem_drop]
      congr 2
      omega
    have hset : (memF (updF F a t) (L.take k) ++ memF F (L.drop k)).set k (pageF (updF F a t) L[k]) = memF (updF F a t) (L.take (k + 1)) ++ memF F (L.drop (k + 1)) := by
      rw [List.set_append_right _ _ (by simp [memF]; omega)]
      have e : k - (memF (updF F a t) (L.take k)).length = 0 := by simp [memF]; omega
      rw [e]
      unfold memF
      rw [List.drop_eq_getElem_cons hk, List.map_cons, List.set_cons_zero, List.take_succ_eq_append_getElem hk, List.map_append, List.append_assoc]
      rfl
    have hq := hL.base L[k] (List.getElem_mem hk)
    rw [Z77.a_eq, lt_nat, inL_nat, hml, decide_eq_true hk, hrd]
    have hint : intsOf (pg F (L[k]).1) = rowV F a t (L[k]).1 0 := by
      unfold pg
      rw [intsOf_bytesOf _ (mapB_all _ _ _ _ fun j => hF _)]
      unfold rowV
      apply mapB_congr
      intro j _ _
      rw [if_neg (by omega)]
    show (bif true then bif true then bif decide ((pg F (L[k]).1).size ≤ 9223372036854775807) then Z77.b a t x6 _ (k : Int) (pageF F L[k]) (intsOf (pg F (L[k]).1)) (L.length : Int) (k : Int) ((intsOf (pg F (L[k]).1)).length : Int) 0 else none else none else _) = _
    rw [pg_size, hint, show (rowV F a t (L[k]).1 0).length = 128 by unfold rowV; rw [mapB_length]]
    have hrow := impl_put_row hF a t hA x6 (memF (updF F a t) (L.take k) ++ memF F (L.drop k)) k (pageF F L[k]) hq (L.length : Int) (k : Int) (by rw [hml]; exact hk) 128 0 (by omega)
    rw [hrd] at hrow
    have hfin : bytesOf (rowV F a t (pageF F L[k]).1 128) = pg (updF F a t) (L[k]).1 := by
      unfold rowV pg
      rw [mapB_congr (f := fun j => if j < 128 then updF F a t ((pageF F L[k]).1 + (j : Int)) else F ((pageF F L[k]).1 + (j : Int))) (g := fun j => updF F a t ((L[k]).1 + (j : Int))) 128 0 fun j _ hj => if_pos (by omega)]
    rw [hfin, w64_succ k L.length hk (by omega)] at hrow
    have hset' : (memF (updF F a t) (L.take k) ++ memF F (L.drop k)).set k ((pageF F L[k]).1, (pageF F L[k]).2.1, pg (updF F a t) (L[k]).1) = memF (updF F a t) (L.take (k + 1)) ++ memF F (L.drop (k + 1)) := hset
    rw [hset'] at hrow
    exact hrow.trans (ih (k + 1) (by omega))
theorem clone_page (m : List Page) (h : m.length ≤ 64) : Z1y m = some m := by
  rw [Z1y_eq, show roomB m.length 32 = true by simp [roomB]; omega]; rfl
theorem impl_put {F : Int → Int} (hF : FR F) (a : Int) (t : ByteArray) (hA : AddrR a t) (L : List (Int × Int)) (hL : BasesR L) : Z77 (memF F L) a t = some (memF (updF F a t) L) := by
  have hml : (memF F L).length = L.length := by simp [memF]
  have hn := hL.len
  rw [Z77_eq, Z76_eq, clone_page _ (by omega)]
  simp only [Option.bind_some]
  rw [hml]
  exact impl_put_loop hF a t hA L hL [] L.length 0 (by omega)
theorem bt_append (a b : ByteArray) (i : Nat) : bt (a ++ b) (i : Int) = if i < a.size then bt a (i : Int) else bt b ((i - a.size : Nat) : Int) := by
  rw [bt_nat, bt_nat, bt_nat]
  have hs : a.size = a.data.size := rfl
  rw [ByteArray.data_append, Array.getD_eq_getD_getElem?, Array.getD_eq_getD_getElem?, Array.getD_eq_getD_getElem?, Array.getElem?_append, hs]
  split <;> rfl
theorem bt_extract (t : ByteArray) (s e i : Nat) (h : s + i < e) (he : e ≤ t.size) : bt (t.extract s e) (i : Int) = bt t ((s + i : Nat) : Int) := by
  rw [bt_nat, bt_nat]
  have hs : t.size = t.data.size := rfl
  rw [ByteArray.data_extract, Array.getD_eq_getD_getElem?, Array.getD_eq_getD_getElem?, Array.getElem?_extract, if_pos (by omega)]
theorem bt_ext {a b : ByteArray} (hs : a.size = b.size) (h : ∀ i : Nat, i < a.size → bt a (i : Int) = bt b (i : Int)) : a = b := by
  apply byte_ext hs
  intro i hi
  have := h i hi
  rw [bt_nat, bt_nat] at this
  exact UInt8.toNat_inj.1 (by omega)
abbrev TI2 : Ty := .pair (.int .i64) (.int .i64)
def inPage (b a : Int) : Bool := decide (b ≤ a) && decide (a ≤ b + 127)
def pageAt (L : List (Int × Int)) (a : Int) : Int := findB (fun i => inPage (rd (τ := TI2) L (i : Int)).1 a) 0 L.length
theorem rd_mem (F : Int → Int) (L : List (Int × Int)) (i : Nat) (h : i < L.length) : rd (τ := TPage) (memF F L) (i : Int) = pageF F (rd (τ := TI2) L (i : Int)) := by
  rw [rd_nat (τ := TPage) (memF F L) i (by simp [memF]; exact h), rd_nat (τ := TI2) L i h]
  simp [memF]
theorem base_rd {L : List (Int × Int)} (hL : BasesR L) (i : Nat) (h : i < L.length) {q : Int × Int} (hq : rd (τ := TI2) L (i : Int) = q) : 0 ≤ q.1 ∧ q.1 ≤ 1048575 := by
  rw [rd_nat (τ := TI2) L i h] at hq; rw [← hq]; exact hL.base _ (List.getElem_mem h)
def MidA (a : Int) : Prop := -1099511627776 ≤ a ∧ a ≤ 1099511627776
theorem impl_page (F : Int → Int) (L : List (Int × Int)) (hL : BasesR L) (a : Int) (ha : MidA a) : Z3 (memF F L) a = some (pageAt L a) := by
  have hn := hL.len
  obtain ⟨a1, a2⟩ := ha
  have hml : (memF F L).length = L.length := by simp [memF]
  rw [Z3_eq, Z2_eq, hml]
  rw [loop_find0 (L := Z2.a a (memF F L) (L.length : Int)) (fun i => inPage (rd (τ := TI2) L (i : Int)).1 a) L.length ?_ fun i hi => ?_]
  · rfl
  · rw [Z2.a_eq, lt_nat]; simp
  · rw [Z2.a_eq, lt_nat, inL_nat, hml, decide_eq_true hi, w64_succ i _ hi (by omega), rd_mem F L i hi, Z1_eq]
    obtain ⟨q, hq⟩ : ∃ q : Int × Int, rd (τ := TI2) L (i : Int) = q := ⟨_, rfl⟩
    have hb := base_rd hL i hi hq
    rw [hq]
    obtain ⟨b, hbe⟩ : ∃ b : Int, q.1 = b := ⟨_, rfl⟩
    rw [hbe] at hb ⊢
    show (bif true then bif true then (Option.bind (Option.bind (Z64 a (pageF F q).1 (IntKind.wrap .i64 (IntKind.wrap .i64 ((pageF F q).1 + 128) - 1))) fun r1 => some r1) _) else none else _) = _
    rw [show (pageF F q).1 = b from hbe, w64 (n := b + 128) (by omega) (by omega), w64 (n := b + 128 - 1) (by omega) (by omega), (in_val _ _ _).1, show inR a b (b + 128 - 1) = inPage b a by unfold inR inPage; rw [show b + 128 - 1 = b + 127 by omega]]
    rfl
theorem spec_find (F : Int → Int) (L : List (Int × Int)) (hL : BasesR L) (a : Int) (ha : MidA a) : Z40 (memF F L) a = some (pageAt L a) := by
  have hn := hL.len
  obtain ⟨a1, a2⟩ := ha
  have hml : (memF F L).length = L.length := by simp [memF]
  rw [Z40_eq]
  refine loop_find0 (L := Z40.a a (memF F L)) (fun i => inPage (rd (τ := TI2) L (i : Int)).1 a) L.length ?_ fun i hi => ?_
  · rw [Z40.a_eq, hml, lt_nat]; simp
  · rw [Z40.a_eq, hml, lt_nat, inL_nat, decide_eq_true hi, w64_succ i _ hi (by omega), rd_mem F L i hi]
    obtain ⟨q, hq⟩ : ∃ q : Int × Int, rd (τ := TI2) L (i : Int) = q := ⟨_, rfl⟩
    have hb := base_rd hL i hi hq
    rw [hq]
    obtain ⟨b, hbe⟩ : ∃ b : Int, q.1 = b := ⟨_, rfl⟩
    rw [hbe] at hb ⊢
    rw [show (pageF F q).1 = b from hbe, w64 (n := a - b) (by omega) (by omega)]
    unfold inPage
    by_cases h1 : b ≤ a
    · rw [decide_eq_true h1, show decide (a - b < 128) = decide (a ≤ b + 127) by congr 1; apply propext; omega]
      cases decide (a ≤ b + 127) <;> rfl
    · rw [decide_eq_false h1]; rfl
def NoOver (L : List (Int × Int)) : Prop := ∀ (i j : Nat) (a : Int), i < L.length → j < L.length → inPage (rd (τ := TI2) L (i : Int)).1 a = true → inPage (rd (τ := TI2) L (j : Int)).1 a = true → i = j
theorem pageAt_spec {L : List (Int × Int)} {a : Int} (h : 0 ≤ pageAt L a) : ∃ (k : Nat) (q : Int × Int), pageAt L a = (k : Int) ∧ k < L.length ∧ rd (τ := TI2) L (k : Int) = q ∧ q.1 ≤ a ∧ a ≤ q.1 + 127 := by
  unfold pageAt at h ⊢
  rcases findB_spec (fun i => inPage (rd (τ := TI2) L (i : Int)).1 a) L.length 0 with ⟨h1, _⟩ | ⟨j, h1, h2, h3, h4, _⟩
  · omega
  · unfold inPage at h4
    rw [Bool.and_eq_true, decide_eq_true_eq, decide_eq_true_eq] at h4
    exact ⟨j, _, h1, by omega, rfl, h4.1, h4.2⟩
theorem own_mem (m : List Page) (h : m.length ≤ 64) : Z41 m = some m := by
  rw [Z41_eq, show roomB (0 + m.length) 32 = true by simp [roomB]; omega]; rfl
theorem spec_lay_mem {F : Int → Int} (hF : FR F) (L : List (Int × Int)) (hL : BasesR L) (hN : NoOver L) (a : Int) (ha : MidA a) (t : ByteArray) (k : Nat) (hk : pageAt L a = (k : Int)) (hkl : k < L.length) {q : Int × Int} (hq : rd (τ := TI2) L (k : Int) = q) (h1 : q.1 ≤ a) (h2 : a + (t.size : Int) ≤ q.1 + 128) :
    Z42 (memF F L) a t = some (memF (updF F a t) L) := by
  have hn := hL.len
  have hml : (memF F L).length = L.length := by simp [memF]
  have hb := base_rd hL k hkl hq
  rw [Z42_eq, own_mem _ (by omega), spec_find F L hL a ha, hk]
  simp only [Option.bind_some]
  rw [inL_nat, hml, decide_eq_true hkl, rd_mem F L k hkl]
  rw [hq]
  obtain ⟨j, hj⟩ : ∃ j : Nat, a - q.1 = (j : Int) := ⟨(a - q.1).toNat, by omega⟩
  show (bif true then bif true then (bif decide (0 ≤ 0) && decide (0 ≤ IntKind.wrap .i64 (a - q.1)) && decide (IntKind.wrap .i64 (a - q.1) ≤ ((pg F q.1).size : Int)) then _ else none) else none else none) = _
  simp only [show (pageF F q).1 = q.1 from rfl, show (pageF F q).2.1 = q.2 from rfl, show (pageF F q).2.2 = pg F q.1 from rfl]
  rw [w64 (n := a - q.1) (by omega) (by omega), hj, pg_size, w64 (n := (j : Int) + (t.size : Int)) (by omega) (by omega)]
  rw [show (decide (0 ≤ 0) && decide (0 ≤ (j : Int)) && decide ((j : Int) ≤ ((128 : Nat) : Int))) = true by simp; omega, show (decide (0 ≤ (j : Int) + (t.size : Int)) && decide ((j : Int) + (t.size : Int) ≤ ((128 : Nat) : Int)) && decide (((128 : Nat) : Int) ≤ ((128 : Nat) : Int))) = true by simp; omega]
  rw [show (Int.toNat 0) = 0 from rfl, Int.toNat_natCast, show ((j : Int) + (t.size : Int)).toNat = j + t.size by omega, Int.toNat_natCast, Int.toNat_natCast]
  have hz1 : ((pg F q.1).extract 0 j).size = j := by rw [ByteArray.size_extract, pg_size]; omega
  have hz2 : ((pg F q.1).extract (j + t.size) 128).size = 128 - (j + t.size) := by rw [ByteArray.size_extract, pg_size]; omega
  rw [decide_eq_true (show ((pg F q.1).extract 0 j).size + t.size ≤ 9223372036854775807 by rw [hz1]; omega), decide_eq_true (show ((pg F q.1).extract 0 j ++ t).size + ((pg F q.1).extract (j + t.size) 128).size ≤ 9223372036854775807 by rw [ByteArray.size_append, hz1, hz2]; omega)]
  have hpage : (pg F q.1).extract 0 j ++ t ++ (pg F q.1).extract (j + t.size) 128 = pg (updF F a t) q.1 := by
    apply bt_ext
    · rw [ByteArray.size_append, ByteArray.size_append, hz1, hz2, pg_size]; omega
    · intro i hi
      rw [ByteArray.size_append, ByteArray.size_append, hz1, hz2] at hi
      rw [pg_bt (updF_range hF a t) _ _ (by omega) (by omega), bt_append, ByteArray.size_append, hz1, bt_append, hz1]
      unfold updF
      by_cases c1 : i < j
      · rw [if_pos (by omega), if_pos c1, if_neg (by omega), bt_extract _ _ _ _ (by omega) (by rw [pg_size]; omega), pg_bt hF _ _ (by omega) (by omega), Nat.zero_add]
      · by_cases c2 : i < j + t.size
        · rw [if_pos c2, if_neg c1, if_pos (by omega), show q.1 + (i : Int) - a = ((i - j : Nat) : Int) by omega]
        · rw [if_neg c2, if_neg (by omega), bt_extract _ _ _ _ (by omega) (by rw [pg_size]; omega), pg_bt hF _ _ (by omega) (by omega)]
          congr 1; omega
  rw [hpage]
  show some ((memF F L).set k (pageF (updF F a t) q)) = _
  congr 1
  apply List.ext_getElem
  · simp [memF]
  · intro i g1 g2
    have hi : i < L.length := by simpa [memF] using g2
    rw [List.getElem_set]
    have e1 : (memF (updF F a t) L)[i] = pageF (updF F a t) L[i] := by simp [memF]
    have e2 : (memF F L)[i]'(by simp [memF]; exact hi) = pageF F L[i] := by simp [memF]
    rw [e1, e2]
    have hqk : L[k] = q := by rw [← hq, rd_nat (τ := TI2) L k hkl]
    by_cases c : k = i
    · subst c
      rw [if_pos rfl, hqk]
    · rw [if_neg c]
      unfold pageF
      congr 2
      have hpg : ∀ x : Nat, x < 128 → F ((L[i]).1 + (x : Int)) = updF F a t ((L[i]).1 + (x : Int)) := by
        intro x hx
        unfold updF
        rw [if_neg]
        intro hc
        refine c (hN k i ((L[i]).1 + (x : Int)) hkl hi ?_ ?_)
        · rw [hq]; unfold inPage
          rw [Bool.and_eq_true, decide_eq_true_eq, decide_eq_true_eq]; omega
        · rw [rd_nat (τ := TI2) L i hi]; unfold inPage
          rw [Bool.and_eq_true, decide_eq_true_eq, decide_eq_true_eq]; omega
      unfold pg
      rw [mapB_congr 128 0 fun x _ hx => hpg x (by omega)]
theorem updF_split (F : Int → Int) (a : Int) (t : ByteArray) (n : Nat) (hn : n ≤ t.size) : updF (updF F a (t.extract 0 n)) (a + (n : Int)) (t.extract n t.size) = updF F a t := by
  funext x
  have hz1 : (t.extract 0 n).size = n := by rw [ByteArray.size_extract]; omega
  have hz2 : (t.extract n t.size).size = t.size - n := by rw [ByteArray.size_extract]; omega
  unfold updF
  rw [hz1, hz2]
  by_cases c1 : a + (n : Int) ≤ x ∧ x < a + (n : Int) + ((t.size - n : Nat) : Int)
  · rw [if_pos c1, if_pos (by omega)]
    obtain ⟨i, hi⟩ : ∃ i : Nat, x - (a + (n : Int)) = (i : Int) := ⟨(x - (a + (n : Int))).toNat, by omega⟩
    rw [hi, bt_extract _ _ _ _ (by omega) (Nat.le_refl _)]
    congr 1; omega
  · rw [if_neg c1]
    by_cases c2 : a ≤ x ∧ x < a + (n : Int)
    · rw [if_pos c2, if_pos (by omega)]
      obtain ⟨i, hi⟩ : ∃ i : Nat, x - a = (i : Int) := ⟨(x - a).toNat, by omega⟩
      rw [hi, bt_extract _ _ _ _ (by omega) hn]
      congr 1; omega
    · rw [if_neg c2, if_neg (by omega)]
theorem updF_nil (F : Int → Int) (a : Int) (t : ByteArray) (h : t.size = 0) : updF F a t = F := by
  funext x
  unfold updF
  rw [if_neg (by omega)]
theorem spec_put (L : List (Int × Int)) (hL : BasesR L) (hN : NoOver L) (x6 : List Page) : ∀ (n : Nat) (F : Int → Int) (a : Int) (t : ByteArray), FR F → t.size ≤ n → -1000000000 ≤ a → a + (t.size : Int) ≤ 1000000000 → (∀ x, a ≤ x → x < a + (t.size : Int) → 0 ≤ pageAt L x) →
    Z43.a a t (memF F L) x6 = some (memF (updF F a t) L) := by
  have hml : ∀ F, (memF F L).length = L.length := by intro F; simp [memF]
  intro n
  induction n with
  | zero =>
    intro F a t hF ht h1 h2 hx
    have h0 : t.size = 0 := by omega
    rw [Z43.a_eq, decide_eq_false (show ¬ (t.size : Int) > 0 by omega), cond_false, updF_nil F a t h0]
  | succ n ih =>
    intro F a t hF ht h1 h2 hx
    by_cases h0 : t.size = 0
    · rw [Z43.a_eq, decide_eq_false (show ¬ (t.size : Int) > 0 by omega), cond_false, updF_nil F a t h0]
    · obtain ⟨k, q, hk, hkl, hq, hb1, hb2⟩ := pageAt_spec (hx a (Int.le_refl _) (by omega))
      have hb := base_rd hL k hkl hq
      rw [Z43.a_eq, decide_eq_true (show (t.size : Int) > 0 by omega), spec_find F L hL a ⟨by omega, by omega⟩, hk]
      simp only [cond_true, Option.bind_some]
      rw [inL_nat, hml, decide_eq_true hkl, rd_mem F L k hkl]
      rw [hq]
      simp only [show (pageF F q).1 = q.1 from rfl, cond_true]
      rw [w64 (n := q.1 + 128) (by omega) (by omega), w64 (n := q.1 + 128 - a) (by omega) (by omega)]
      obtain ⟨m, hm⟩ : ∃ m : Nat, (if q.1 + 128 - a < (t.size : Int) then q.1 + 128 - a else (t.size : Int)) = (m : Int) := ⟨(if q.1 + 128 - a < (t.size : Int) then q.1 + 128 - a else (t.size : Int)).toNat, by split <;> omega⟩
      have hm1 : 1 ≤ m ∧ m ≤ t.size ∧ a + (m : Int) ≤ q.1 + 128 := by split at hm <;> omega
      rw [hm, w64 (n := a + (m : Int)) (by omega) (by omega)]
      rw [show (decide (0 ≤ 0) && decide (0 ≤ (m : Int)) && decide ((m : Int) ≤ (t.size : Int))) = true by simp; omega, show (decide (0 ≤ (m : Int)) && decide ((m : Int) ≤ (t.size : Int)) && decide ((t.size : Int) ≤ (t.size : Int))) = true by simp; omega]
      rw [show (Int.toNat 0) = 0 from rfl, Int.toNat_natCast, Int.toNat_natCast]
      have hz1 : (t.extract 0 m).size = m := by rw [ByteArray.size_extract]; omega
      have hz2 : (t.extract m t.size).size = t.size - m := by rw [ByteArray.size_extract]; omega
      rw [spec_lay_mem hF L hL hN a ⟨by omega, by omega⟩ (t.extract 0 m) k hk hkl hq hb1 (by rw [hz1]; exact hm1.2.2)]
      simp only [cond_true, Option.bind_some]
      rw [ih _ _ _ (updF_range hF _ _) (by omega) (by omega) (by omega) fun x g1 g2 => hx x (by omega) (by omega), updF_split F a t m hm1.2.1]
def getV (F : Int → Int) (a : Int) (n : Nat) : ByteArray := bytesOf (mapB (fun i => F (a + (i : Int))) 0 n)
theorem getV_size (F : Int → Int) (a : Int) (n : Nat) : (getV F a n).size = n := by unfold getV; rw [bytesOf_size, mapB_length]
theorem room1' (n : Nat) (h : n ≤ 8192) : roomB n 1 = true := by simp [roomB]; omega
theorem impl_bytes {F : Int → Int} (hF : FR F) (L : List (Int × Int)) (hL : BasesR L) (a : Int) (n : Nat) (hn : n ≤ 1024) (h1 : -1000000000 ≤ a) (h2 : a ≤ 1000000000) (hx : ∀ x, a ≤ x → x < a + (n : Int) → 0 ≤ pageAt L x) :
    Z4 (memF F L) a (n : Int) = some (getV F a n) := by
  have hml : (memF F L).length = L.length := by simp [memF]
  rw [Z4_eq]
  have key := loop_map0 (L := fun acc i => Z4.a a (n : Int) (memF F L) acc (a + i)) (fun i => F (a + (i : Int))) n ([] : List Int) fun acc i hi ha => ?_
  · simp only [Int.add_zero, List.nil_append] at key
    rw [key, Z4.a_eq, w64 (n := a + (n : Int)) (by omega) (by omega), decide_eq_false (show ¬ a + (n : Int) < a + (n : Int) by omega)]; rfl
  · simp only [List.length_nil, Nat.zero_add] at ha
    obtain ⟨k, q, hk, hkl, hq, hb1, hb2⟩ := pageAt_spec (hx (a + (i : Int)) (by omega) (by omega))
    have hb := base_rd hL k hkl hq
    show Z4.a a (n : Int) (memF F L) acc (a + (i : Int)) = Z4.a a (n : Int) (memF F L) (acc ++ [F (a + (i : Int))]) (a + ((i + 1 : Nat) : Int))
    rw [Z4.a_eq, w64 (n := a + (n : Int)) (by omega) (by omega), decide_eq_true (show a + (i : Int) < a + (n : Int) by omega), impl_page F L hL _ ⟨by omega, by omega⟩, hk]
    simp only [cond_true, Option.bind_some]
    rw [inL_nat, hml, decide_eq_true hkl, rd_mem F L k hkl, hq]
    simp only [show (pageF F q).1 = q.1 from rfl, show (pageF F q).2.2 = pg F q.1 from rfl, cond_true]
    rw [w64 (n := a + (i : Int) - q.1) (by omega) (by omega), w64 (n := a + (i : Int) + 1) (by omega) (by omega), pg_size, inL_true (i := a + (i : Int) - q.1) (n := 128) (by omega) (by omega), pg_bt hF _ _ (by omega) (by omega), show q.1 + (a + (i : Int) - q.1) = a + (i : Int) by omega, room1' _ (by simp; omega), show a + (i : Int) + 1 = a + ((i + 1 : Nat) : Int) by omega]
    rfl
theorem spec_get {F : Int → Int} (hF : FR F) (L : List (Int × Int)) (hL : BasesR L) (a : Int) (n : Nat) (hn : n ≤ 1024) (h1 : -1000000000 ≤ a) (h2 : a ≤ 1000000000) (hx : ∀ x, a ≤ x → x < a + (n : Int) → 0 ≤ pageAt L x) :
    Z4y (memF F L) a (n : Int) = some (getV F a n) := by
  have hml : (memF F L).length = L.length := by simp [memF]
  rw [Z4y_eq]
  rw [loop_map0 (L := fun acc i => Z4y.a a (n : Int) (memF F L) acc i) (fun i => F (a + (i : Int))) n ([] : List Int) fun acc i hi ha => ?_]
  · rw [Z4y.a_eq, lt_nat, decide_eq_false (Nat.lt_irrefl _), cond_false, List.nil_append]; rfl
  · simp only [List.length_nil, Nat.zero_add] at ha
    obtain ⟨k, q, hk, hkl, hq, hb1, hb2⟩ := pageAt_spec (hx (a + (i : Int)) (by omega) (by omega))
    have hb := base_rd hL k hkl hq
    show Z4y.a a (n : Int) (memF F L) acc (i : Int) = Z4y.a a (n : Int) (memF F L) (acc ++ [F (a + (i : Int))]) ((i + 1 : Nat) : Int)
    rw [Z4y.a_eq, lt_nat, decide_eq_true hi, w64 (n := a + (i : Int)) (by omega) (by omega), w64_succ i n hi (by omega), spec_find F L hL _ ⟨by omega, by omega⟩, hk]
    simp only [cond_true, Option.bind_some]
    rw [inL_nat, hml, decide_eq_true hkl, rd_mem F L k hkl, hq]
    simp only [show (pageF F q).1 = q.1 from rfl, show (pageF F q).2.2 = pg F q.1 from rfl, cond_true]
    rw [w64 (n := a + (i : Int) - q.1) (by omega) (by omega), pg_size, inL_true (i := a + (i : Int) - q.1) (n := 128) (by omega) (by omega), pg_bt hF _ _ (by omega) (by omega), show q.1 + (a + (i : Int) - q.1) = a + (i : Int) by omega, room1' _ (by simp; omega)]
    rfl
def Zero (F : Int → Int) (b : Int) (n : Nat) : Prop := ∀ x, b ≤ x → x < b + (n : Int) → F x = 0
theorem pg_zero {F : Int → Int} {b : Int} (h : Zero F b 128) : pg F b = bytesOf (List.replicate 128 (0 : Int)) := by
  unfold pg
  rw [mapB_congr (g := fun _ => (0 : Int)) 128 0 fun j _ hj => h _ (by omega) (by omega)]
  rfl
theorem rep_zero : repB (⟨#[0]⟩ : ByteArray) 128 = bytesOf (List.replicate 128 (0 : Int)) := by decide +kernel
theorem impl_add {F : Int → Int} (L : List (Int × Int)) (hn : L.length < 64) (b p : Int) (hb : ∀ q ∈ L, q.1 < b) (hz : Zero F b 128) : Z78 (memF F L) b p = some (memF F (L ++ [(b, p)])) := by
  have hml : (memF F L).length = L.length := by simp [memF]
  rw [Z78_eq]
  have loop : ∀ (d k : Nat), k + d = L.length → Z78.a b p (memF F L) [] (k : Int) = Z78.a b p (memF F L) [] (L.length : Int) := by
    intro d
    induction d with
    | zero => intro k h; have : k = L.length := by omega
              rw [this]
    | succ d ih =>
      intro k h
      have hk : k < L.length := by omega
      obtain ⟨q, hq⟩ : ∃ q : Int × Int, rd (τ := TI2) L (k : Int) = q := ⟨_, rfl⟩
      have hqb : q.1 < b := by rw [rd_nat (τ := TI2) L k hk] at hq; rw [← hq]; exact hb _ (List.getElem_mem hk)
      rw [Z78.a_eq, hml, lt_nat, inL_nat, decide_eq_true hk, rd_mem F L k hk, hq]
      simp only [joinB, cond_true]
      rw [show decide ((pageF F q).1 < b) = true from decide_eq_true hqb, w64_succ k L.length hk (by omega), cond_true, ih (k + 1) (by omega)]
  have h0 := loop L.length 0 (by omega)
  rw [show ((0 : Nat) : Int) = 0 from rfl] at h0
  rw [h0, Z78.a_eq, hml, lt_nat, decide_eq_false (Nat.lt_irrefl _)]
  simp only [joinB, cond_false]
  rw [clone_page _ (by omega), Z1v_eq]
  simp only [Option.bind_some]
  rw [show (decide (0 ≤ (128 : Int)) && decide ((128 : Int) ≤ 9223372036854775807) && decide (ByteArray.size (⟨#[0]⟩ : ByteArray) * (128 : Int).toNat ≤ 140737488355328)) = true by decide, cond_true, rep_zero, ← pg_zero hz]
  simp only [Option.bind_some]
  rw [Z1x_eq, hml, show (decide ((L.length : Int) = (L.length : Int)) && roomB (L.length + [(b, p, pg F b)].length) 32) = true by simp [roomB]; omega]
  simp only [cond_true, Option.bind_some]
  unfold memF
  rw [List.map_append]; rfl
theorem spec_add {F : Int → Int} (L : List (Int × Int)) (hn : L.length < 64) (b p : Int) (hb : ∀ q ∈ L, q.1 < b) (hz : Zero F b 128) : Z44 (memF F L) b p = some (memF F (L ++ [(b, p)])) := by
  have hml : (memF F L).length = L.length := by simp [memF]
  rw [Z44_eq]
  have loop : ∀ (d k : Nat), k + d = L.length → Z44.a b p (memF F L) [] (memF F (L.take k)) false (k : Int) = Z44.a b p (memF F L) [] (memF F L) false (L.length : Int) := by
    intro d
    induction d with
    | zero => intro k h; have : k = L.length := by omega
              rw [this, List.take_length]
    | succ d ih =>
      intro k h
      have hk : k < L.length := by omega
      obtain ⟨q, hq⟩ : ∃ q : Int × Int, rd (τ := TI2) L (k : Int) = q := ⟨_, rfl⟩
      have hqL : L[k] = q := by rw [rd_nat (τ := TI2) L k hk] at hq; exact hq
      have hqb : q.1 < b := by rw [← hqL]; exact hb _ (List.getElem_mem hk)
      have hlt : (memF F (L.take k)).length = k := by simp [memF]; omega
      rw [Z44.a_eq, hml, lt_nat, inL_nat, decide_eq_true hk, rd_mem F L k hk, hq]
      simp only [joinB, cond_true, Bool.not_false]
      rw [show decide ((pageF F q).1 > b) = false from decide_eq_false (by show ¬ q.1 > b; omega), w64_succ k L.length hk (by omega), cond_false, show roomB ((memF F (L.take k)).length + [pageF F q].length) 32 = true by rw [hlt]; simp [roomB]; omega, cond_true]
      rw [show memF F (L.take k) ++ [pageF F q] = memF F (L.take (k + 1)) by unfold memF; rw [List.take_succ_eq_append_getElem hk, List.map_append, hqL]; rfl]
      exact ih (k + 1) (by omega)
  have h0 := loop L.length 0 (by omega)
  rw [show ((0 : Nat) : Int) = 0 from rfl, show memF F (L.take 0) = [] from rfl] at h0
  rw [h0, Z44.a_eq, hml, lt_nat, decide_eq_false (Nat.lt_irrefl _)]
  simp only [cond_false, Bool.not_false, cond_true]
  rw [show (decide ((0 : Nat) ≤ 128) && roomB (Int.toNat 128) 1) = true by decide, show (Int.toNat 128) = 128 from rfl, ← pg_zero hz, show roomB (L.length + [(b, p, pg F b)].length) 32 = true by simp [roomB]; omega]
  simp only [cond_true]
  unfold memF
  rw [List.map_append]; rfl
def arL (b p : Int) (n : Nat) : List (Int × Int) := mapB (fun i => (b + 128 * (i : Int), p)) 0 n
theorem arL_succ (b p : Int) : ∀ n, arL b p (n + 1) = arL b p n ++ [(b + 128 * (n : Int), p)] := by
  intro n
  unfold arL
  have : ∀ (k i : Nat), mapB (fun i => (b + 128 * (i : Int), p)) i (k + 1) = mapB (fun i => (b + 128 * (i : Int), p)) i k ++ [(b + 128 * ((i + k : Nat) : Int), p)] := by
    intro k
    induction k with
    | zero => intro i; rfl
    | succ k ih => intro i; rw [mapB, ih (i + 1), mapB, show i + 1 + k = i + (k + 1) by omega]; rfl
  rw [this n 0, Nat.zero_add]
theorem arL_length (b p : Int) (n : Nat) : (arL b p n).length = n := mapB_length _ _ _
theorem arL_mem {b p : Int} {n : Nat} {q : Int × Int} (h : q ∈ arL b p n) : b ≤ q.1 ∧ q.1 + 128 ≤ b + 128 * (n : Int) := by
  obtain ⟨j, _, hj, rfl⟩ := (mapB_mem _ _ _ _).1 h
  simp only; omega
theorem area_add {F : Int → Int} (A : List Page → Int → Int → Option (List Page)) (hA : ∀ (L : List (Int × Int)) (b p : Int), L.length < 64 → (∀ q ∈ L, q.1 < b) → Zero F b 128 → A (memF F L) b p = some (memF F (L ++ [(b, p)])))
    (X : List Page → Int → Option (List Page)) (L : List (Int × Int)) (b p : Int) (n : Nat) (hn : L.length + n ≤ 64) (hb : ∀ q ∈ L, q.1 < b) (hb0 : 0 ≤ b ∧ b ≤ 1048575) (hz : Zero F b (128 * n))
    (hX : ∀ m (i : Nat), i < n → X m (128 * (i : Int)) = (A m (b + 128 * (i : Int)) p).bind fun r => X r (128 * ((i + 1 : Nat) : Int))) :
    ∀ (d k : Nat), k + d = n → X (memF F (L ++ arL b p k)) (128 * (k : Int)) = X (memF F (L ++ arL b p n)) (128 * (n : Int)) := by
  intro d
  induction d with
  | zero => intro k h; have : k = n := by omega
            rw [this]
  | succ d ih =>
    intro k h
    rw [hX _ k (by omega), hA _ _ _ (by rw [List.length_append, arL_length]; omega) (fun q hq => ?_) (fun x h1 h2 => hz x (by omega) (by omega))]
    · simp only [Option.bind_some]
      rw [List.append_assoc, ← arL_succ]
      exact ih (k + 1) (by omega)
    · rcases List.mem_append.1 hq with hq | hq
      · have := hb q hq; omega
      · have := arL_mem hq; omega
def padV (t : ByteArray) (n : Nat) : ByteArray := t ++ repB (⟨#[0]⟩ : ByteArray) ((n - t.size : Nat) : Int)
theorem repeat0 : ∀ k : Nat, (Lib.repeatL [(0 : UInt8)] k) = List.replicate k 0
  | 0 => rfl
  | k + 1 => by rw [Lib.repeatL, repeat0 k]; rfl
theorem rep0_data (k : Nat) : (repB (⟨#[0]⟩ : ByteArray) (k : Int)).data = (List.replicate k (0 : UInt8)).toArray := by
  unfold repB
  rw [Int.toNat_natCast]
  show (Lib.repeatL [(0 : UInt8)] k).toArray = _
  rw [repeat0]
theorem rep0_size (k : Nat) : (repB (⟨#[0]⟩ : ByteArray) (k : Int)).size = k := by
  show (repB (⟨#[0]⟩ : ByteArray) (k : Int)).data.size = k
  rw [rep0_data]; simp
theorem rep0_bt (k i : Nat) : bt (repB (⟨#[0]⟩ : ByteArray) (k : Int)) (i : Int) = 0 := by
  rw [bt_nat, rep0_data]
  simp only [Array.getD, List.size_toArray, List.length_replicate]
  split
  · simp
  · rfl
theorem padV_size (t : ByteArray) (n : Nat) (h : t.size ≤ n) : (padV t n).size = n := by
  unfold padV
  rw [ByteArray.size_append, rep0_size]; omega
theorem padV_bt (t : ByteArray) (n i : Nat) : bt (padV t n) (i : Int) = if i < t.size then bt t (i : Int) else 0 := by
  unfold padV
  rw [bt_append]
  split
  · rfl
  · exact rep0_bt _ _
theorem padded_val (t : ByteArray) (n : Nat) (h : t.size ≤ n) (hn : n ≤ 1048576) : Z7a t (n : Int) = some (padV t n) := by
  have hz := padV_size t n h
  rw [Z7a_eq, w64 (n := (n : Int) - (t.size : Int)) (by omega) (by omega), show (n : Int) - (t.size : Int) = ((n - t.size : Nat) : Int) by omega, Z1v_eq]
  rw [show (decide (0 ≤ ((n - t.size : Nat) : Int)) && decide (((n - t.size : Nat) : Int) ≤ 9223372036854775807) && decide (ByteArray.size (⟨#[0]⟩ : ByteArray) * (((n - t.size : Nat) : Int)).toNat ≤ 140737488355328)) = true by
    rw [show ByteArray.size (⟨#[0]⟩ : ByteArray) = 1 from rfl]; simp; omega]
  simp only [cond_true, Option.bind_some]
  rw [rep0_size, decide_eq_true (show t.size + (n - t.size) ≤ 9223372036854775807 by omega)]; rfl
theorem updF_pad {F : Int → Int} (b : Int) (t : ByteArray) (n : Nat) (h : t.size ≤ n) (hz : Zero F b n) : updF F b (padV t n) = updF F b t := by
  funext x
  unfold updF
  rw [padV_size t n h]
  by_cases c : b ≤ x ∧ x < b + (n : Int)
  · rw [if_pos c]
    obtain ⟨i, hi⟩ : ∃ i : Nat, x - b = (i : Int) := ⟨(x - b).toNat, by omega⟩
    rw [hi, padV_bt]
    by_cases c2 : i < t.size
    · rw [if_pos c2, if_pos (by omega)]
    · rw [if_neg c2, if_neg (by omega), hz x c.1 c.2]
  · rw [if_neg c, if_neg (by omega)]
theorem impl_area {F : Int → Int} (hF : FR F) (L : List (Int × Int)) (hL : BasesR L) (b p : Int) (n : Nat) (t : ByteArray) (hn : L.length + n ≤ 64) (hb : ∀ q ∈ L, q.1 < b) (hb0 : 0 ≤ b ∧ b + 128 * (n : Int) ≤ 1048575) (hz : Zero F b (128 * n)) (ht : t.size = 128 * n) :
    Z79 (memF F L) b p t = some (memF (updF F b t) (L ++ arL b p n)) := by
  rw [Z79_eq]
  have hL' : BasesR (L ++ arL b p n) := ⟨by rw [List.length_append, arL_length]; omega, fun q hq => by
    rcases List.mem_append.1 hq with hq | hq
    · exact hL.base q hq
    · have := arL_mem hq; omega⟩
  have h := area_add (F := F) Z78 (fun L b p h1 h2 h3 => impl_add L h1 b p h2 h3) (fun m i => Z79.a b p t m [] i) L b p n hn hb ⟨by omega, by omega⟩ hz (fun m i hi => by
    show Z79.a b p t m [] (128 * (i : Int)) = _
    rw [Z79.a_eq, ht, decide_eq_true (show 128 * (i : Int) < ((128 * n : Nat) : Int) by omega), cond_true, w64 (n := b + 128 * (i : Int)) (by omega) (by omega), w64 (n := 128 * (i : Int) + 128) (by omega) (by omega), show 128 * (i : Int) + 128 = 128 * ((i + 1 : Nat) : Int) by omega]) n 0 (by omega)
  have h' : Z79.a b p t (memF F (L ++ arL b p 0)) [] (128 * ((0 : Nat) : Int)) = Z79.a b p t (memF F (L ++ arL b p n)) [] (128 * (n : Int)) := h
  rw [show arL b p 0 = [] from rfl, List.append_nil, show 128 * ((0 : Nat) : Int) = 0 from rfl] at h'
  rw [h', Z79.a_eq, ht, decide_eq_false (show ¬ 128 * (n : Int) < ((128 * n : Nat) : Int) by omega), cond_false, impl_put hF b t ⟨by omega, by omega, by omega⟩ _ hL']; rfl
theorem spec_pages {F : Int → Int} (L : List (Int × Int)) (b p : Int) (n : Nat) (hn : L.length + n ≤ 64) (hb : ∀ q ∈ L, q.1 < b) (hb0 : 0 ≤ b ∧ b + 128 * (n : Int) ≤ 1048575) (hz : Zero F b (128 * n)) :
    Z45 (memF F L) b (128 * (n : Int)) p = some (memF F (L ++ arL b p n)) := by
  rw [Z45_eq]
  have h := area_add (F := F) Z44 (fun L b p h1 h2 h3 => spec_add L h1 b p h2 h3) (fun m i => Z45.a b (128 * (n : Int)) p m [] i) L b p n hn hb ⟨by omega, by omega⟩ hz (fun m i hi => by
    show Z45.a b (128 * (n : Int)) p m [] (128 * (i : Int)) = _
    rw [Z45.a_eq, decide_eq_true (show 128 * (i : Int) < 128 * (n : Int) by omega), cond_true, w64 (n := b + 128 * (i : Int)) (by omega) (by omega), w64 (n := 128 * (i : Int) + 128) (by omega) (by omega), show 128 * (i : Int) + 128 = 128 * ((i + 1 : Nat) : Int) by omega]) n 0 (by omega)
  have h' : Z45.a b (128 * (n : Int)) p (memF F (L ++ arL b p 0)) [] (128 * ((0 : Nat) : Int)) = Z45.a b (128 * (n : Int)) p (memF F (L ++ arL b p n)) [] (128 * (n : Int)) := h
  rw [show arL b p 0 = [] from rfl, List.append_nil, show 128 * ((0 : Nat) : Int) = 0 from rfl] at h'
  rw [h', Z45.a_eq, decide_eq_false (show ¬ 128 * (n : Int) < 128 * (n : Int) by omega), cond_false]
def L1 : List (Int × Int) := arL 4096 4 8
def L2 : List (Int × Int) := L1 ++ arL 8192 4 8
def L3 : List (Int × Int) := L2 ++ arL 16384 3 2
def L4 : List (Int × Int) := L3 ++ arL 20480 3 2
def L5 : List (Int × Int) := L4 ++ arL 32768 11 4
def L6 : List (Int × Int) := L5 ++ arL 33792 11 4
def L7 : List (Int × Int) := L6 ++ arL 34816 11 4
def BL : List (Int × Int) := L7 ++ arL 35840 11 4
def bOK (L : List (Int × Int)) (m : Int) : Bool := decide (L.length ≤ 64) && L.all fun q => decide (0 ≤ q.1) && decide (q.1 ≤ 1048575) && decide (q.1 < m)
theorem bOK_spec {L : List (Int × Int)} {m : Int} (h : bOK L m = true) : BasesR L ∧ ∀ q ∈ L, q.1 < m := by
  unfold bOK at h
  rw [Bool.and_eq_true, decide_eq_true_eq, List.all_eq_true] at h
  refine ⟨⟨h.1, fun q hq => ?_⟩, fun q hq => ?_⟩
  · have := h.2 q hq; simp only [Bool.and_eq_true, decide_eq_true_eq] at this; exact this.1
  · have := h.2 q hq; simp only [Bool.and_eq_true, decide_eq_true_eq] at this; exact this.2
theorem b1 : bOK L1 8192 = true := by decide
theorem b2 : bOK L2 16384 = true := by decide
theorem b3 : bOK L3 20480 = true := by decide
theorem b4 : bOK L4 32768 = true := by decide
theorem b5 : bOK L5 33792 = true := by decide
theorem b6 : bOK L6 34816 = true := by decide
theorem b7 : bOK L7 35840 = true := by decide
theorem b8 : bOK BL 40000 = true := by decide
def zF : Int → Int := fun _ => 0
def textF (im : Img) : Int → Int := updF zF 4096 im.1
def F0 (im : Img) : Int → Int := updF (textF im) 16384 im.2.1
theorem zF_range : FR zF := fun _ => ⟨Int.le_refl 0, show (0 : Int) ≤ 255 by omega⟩
theorem textF_range (im : Img) : FR (textF im) := updF_range zF_range _ _
theorem F0_range (im : Img) : FR (F0 im) := updF_range (textF_range im) _ _
theorem textF_zero {im : Img} (h : im.1.size ≤ 1024) (b : Int) (n : Nat) (hb : 5120 ≤ b) : Zero (textF im) b n := by
  intro x h1 h2
  unfold textF updF
  rw [if_neg (by omega)]; rfl
theorem F0_zero {im : Img} (h : im.1.size ≤ 1024) (h' : im.2.1.size ≤ 256) (b : Int) (n : Nat) (hb : 16640 ≤ b) : Zero (F0 im) b n := by
  intro x h1 h2
  unfold F0 updF
  rw [if_neg (by omega)]
  exact textF_zero h b n (by omega) x h1 h2
theorem zF_zero (b : Int) (n : Nat) : Zero zF b n := fun _ _ _ => rfl
theorem pad_nil {F : Int → Int} (b : Int) (n : Nat) (hz : Zero F b n) : updF F b (padV ⟨#[]⟩ n) = F := by
  rw [updF_pad b _ n (by show (0 : Nat) ≤ n; omega) hz, updF_nil _ _ _ rfl]
theorem impl_stack (im : Img) (hc : im.1.size ≤ 1024) (hd : im.2.1.size ≤ 256) (L : List (Int × Int)) (i : Nat) (hi : i < 4) (m : Int) (hL : bOK L m = true) (hm : m = 32768 + 1024 * (i : Int)) (hn : L.length + 4 ≤ 64) :
    Z7b.a [] (memF (F0 im) L) (i : Int) = Z7b.a [] (memF (F0 im) (L ++ arL m 11 4)) ((i + 1 : Nat) : Int) := by
  obtain ⟨h1, h2⟩ := bOK_spec hL
  rw [Z7b.a_eq, decide_eq_true (show (i : Int) < 4 by omega), show Z7a (⟨#[]⟩ : ByteArray) 512 = some (padV ⟨#[]⟩ 512) from padded_val _ 512 (by show (0 : Nat) ≤ 512; omega) (by omega), w64 (n := 1024 * (i : Int)) (by omega) (by omega), w64 (n := 32768 + 1024 * (i : Int)) (by omega) (by omega), w64 (n := (i : Int) + 1) (by omega) (by omega), ← hm]
  simp only [cond_true, Option.bind_some]
  rw [impl_area (F0_range im) L h1 m 11 4 (padV ⟨#[]⟩ 512) hn h2 (by omega) (F0_zero hc hd m 512 (by omega)) (padV_size _ 512 (by show (0 : Nat) ≤ 512; omega)), pad_nil m 512 (F0_zero hc hd m 512 (by omega))]
  simp only [Option.bind_some]
  rw [show (i : Int) + 1 = ((i + 1 : Nat) : Int) by omega]
theorem impl_loaded (im : Img) (hc : im.1.size ≤ 1024) (hd : im.2.1.size ≤ 256) : Z7b im = some (memF (F0 im) BL) := by
  have e0 : (0 : Nat) ≤ 1024 := by omega
  rw [Z7b_eq, show Z7a im.1 1024 = some (padV im.1 1024) from padded_val _ 1024 hc (by omega), show Z7a (⟨#[]⟩ : ByteArray) 1024 = some (padV ⟨#[]⟩ 1024) from padded_val _ 1024 (by show (0 : Nat) ≤ 1024; omega) (by omega),
    show Z7a im.2.1 256 = some (padV im.2.1 256) from padded_val _ 256 hd (by omega), show Z7a (⟨#[]⟩ : ByteArray) 256 = some (padV ⟨#[]⟩ 256) from padded_val _ 256 (by show (0 : Nat) ≤ 256; omega) (by omega)]
  simp only [Option.bind_some]
  have a1 := impl_area zF_range [] ⟨by simp, fun q hq => by cases hq⟩ 4096 4 8 (padV im.1 1024) (by simp) (fun q hq => by cases hq) (by omega) (zF_zero _ _) (padV_size _ 1024 hc)
  rw [updF_pad 4096 im.1 1024 hc (zF_zero _ _), List.nil_append] at a1
  rw [show Z79 [] 4096 4 (padV im.1 1024) = some (memF (textF im) L1) from a1]
  simp only [Option.bind_some]
  have a2 := impl_area (textF_range im) L1 (bOK_spec b1).1 8192 4 8 (padV ⟨#[]⟩ 1024) (by decide) (bOK_spec b1).2 (by omega) (textF_zero hc _ _ (by omega)) (padV_size _ 1024 (by show (0 : Nat) ≤ 1024; omega))
  rw [pad_nil 8192 1024 (textF_zero hc _ _ (by omega))] at a2
  rw [show Z79 (memF (textF im) L1) 8192 4 (padV ⟨#[]⟩ 1024) = some (memF (textF im) L2) from a2]
  simp only [Option.bind_some]
  have a3 := impl_area (textF_range im) L2 (bOK_spec b2).1 16384 3 2 (padV im.2.1 256) (by decide) (bOK_spec b2).2 (by omega) (textF_zero hc _ _ (by omega)) (padV_size _ 256 hd)
  rw [updF_pad 16384 im.2.1 256 hd (textF_zero hc _ _ (by omega))] at a3
  rw [show Z79 (memF (textF im) L2) 16384 3 (padV im.2.1 256) = some (memF (F0 im) L3) from a3]
  simp only [Option.bind_some]
  have a4 := impl_area (F0_range im) L3 (bOK_spec b3).1 20480 3 2 (padV ⟨#[]⟩ 256) (by decide) (bOK_spec b3).2 (by omega) (F0_zero hc hd _ _ (by omega)) (padV_size _ 256 (by show (0 : Nat) ≤ 256; omega))
  rw [pad_nil 20480 256 (F0_zero hc hd _ _ (by omega))] at a4
  rw [show Z79 (memF (F0 im) L3) 20480 3 (padV ⟨#[]⟩ 256) = some (memF (F0 im) L4) from a4]
  simp only [Option.bind_some]
  have s0 := impl_stack im hc hd L4 0 (by omega) 32768 b4 (by omega) (by decide)
  have s1 := impl_stack im hc hd L5 1 (by omega) 33792 b5 (by omega) (by decide)
  have s2 := impl_stack im hc hd L6 2 (by omega) 34816 b6 (by omega) (by decide)
  have s3 := impl_stack im hc hd L7 3 (by omega) 35840 b7 (by omega) (by decide)
  refine s0.trans (s1.trans (s2.trans (s3.trans ?_)))
  rw [Z7b.a_eq, show decide (((3 + 1 : Nat) : Int) < 4) = false by decide, cond_false]; rfl
theorem spec_stack (L : List (Int × Int)) (i : Nat) (hi : i < 4) (m : Int) (hL : bOK L m = true) (hm : m = 32768 + 1024 * (i : Int)) (hn : L.length + 4 ≤ 64) :
    Z46.a [] (memF zF L) (i : Int) = Z46.a [] (memF zF (L ++ arL m 11 4)) ((i + 1 : Nat) : Int) := by
  obtain ⟨h1, h2⟩ := bOK_spec hL
  rw [Z46.a_eq, decide_eq_true (show (i : Int) < 4 by omega), w64 (n := 1024 * (i : Int)) (by omega) (by omega), w64 (n := 32768 + 1024 * (i : Int)) (by omega) (by omega), w64 (n := (i : Int) + 1) (by omega) (by omega), ← hm]
  rw [show Z45 (memF zF L) m 512 11 = some (memF zF (L ++ arL m 11 4)) from spec_pages L m 11 4 hn h2 (by omega) (zF_zero _ _)]
  simp only [Option.bind_some, cond_true]
  rw [show (i : Int) + 1 = ((i + 1 : Nat) : Int) by omega]
theorem spec_empty : Z46 = some (memF zF BL) := by
  rw [Z46_eq]
  rw [show Z45 [] 4096 1024 4 = some (memF zF L1) from spec_pages (F := zF) [] 4096 4 8 (by simp) (fun q hq => by cases hq) (by omega) (zF_zero _ _)]
  simp only [Option.bind_some]
  rw [show Z45 (memF zF L1) 8192 1024 4 = some (memF zF L2) from spec_pages L1 8192 4 8 (by decide) (bOK_spec b1).2 (by omega) (zF_zero _ _)]
  simp only [Option.bind_some]
  rw [show Z45 (memF zF L2) 16384 256 3 = some (memF zF L3) from spec_pages L2 16384 3 2 (by decide) (bOK_spec b2).2 (by omega) (zF_zero _ _)]
  simp only [Option.bind_some]
  rw [show Z45 (memF zF L3) 20480 256 3 = some (memF zF L4) from spec_pages L3 20480 3 2 (by decide) (bOK_spec b3).2 (by omega) (zF_zero _ _)]
  simp only [Option.bind_some]
  have s0 := spec_stack L4 0 (by omega) 32768 b4 (by omega) (by decide)
  have s1 := spec_stack L5 1 (by omega) 33792 b5 (by omega) (by decide)
  have s2 := spec_stack L6 2 (by omega) 34816 b6 (by omega) (by decide)
  have s3 := spec_stack L7 3 (by omega) 35840 b7 (by omega) (by decide)
  refine s0.trans (s1.trans (s2.trans (s3.trans ?_)))
  rw [Z46.a_eq, show decide (((3 + 1 : Nat) : Int) < 4) = false by decide, cond_false]; rfl
theorem BL_R : BasesR BL := (bOK_spec b8).1
theorem BL_len : BL.length = 36 := by decide
def bsN (i : Nat) : Int := (BL.getD i (0, 0)).1
theorem rd_BL (i : Nat) : (rd (τ := TI2) BL (i : Int)).1 = bsN i := by
  unfold rd bsN
  rw [Int.toNat_natCast]; rfl
theorem bs_inc : ∀ i j : Fin 36, i < j → bsN i + 128 ≤ bsN j := by decide +kernel
theorem BL_over : NoOver BL := by
  intro i j a hi hj h1 h2
  rw [BL_len] at hi hj
  rw [rd_BL] at h1 h2
  unfold inPage at h1 h2
  rw [Bool.and_eq_true, decide_eq_true_eq, decide_eq_true_eq] at h1 h2
  rcases Nat.lt_trichotomy i j with h | h | h
  · have := bs_inc ⟨i, hi⟩ ⟨j, hj⟩ h
    simp only at this; omega
  · exact h
  · have := bs_inc ⟨j, hj⟩ ⟨i, hi⟩ h
    simp only at this; omega
theorem page_of (i : Nat) (hi : i < 36) (x : Int) (h1 : bsN i ≤ x) (h2 : x ≤ bsN i + 127) : 0 ≤ pageAt BL x := by
  unfold pageAt
  rcases findB_spec (fun i => inPage (rd (τ := TI2) BL (i : Int)).1 x) BL.length 0 with ⟨g1, g2⟩ | ⟨j, g1, _⟩
  · have := g2 i (Nat.zero_le _) (by rw [BL_len]; omega)
    rw [rd_BL] at this
    unfold inPage at this
    rw [decide_eq_true h1, decide_eq_true h2] at this
    cases this
  · rw [g1]; omega
theorem bs_text : ∀ i : Fin 8, bsN i = 4096 + 128 * ((i : Nat) : Int) := by decide +kernel
theorem bs_patch : ∀ i : Fin 8, bsN (8 + i) = 8192 + 128 * ((i : Nat) : Int) := by decide +kernel
theorem bs_data : ∀ i : Fin 2, bsN (16 + i) = 16384 + 128 * ((i : Nat) : Int) := by decide +kernel
theorem page_text {x : Int} (h1 : 4096 ≤ x) (h2 : x < 5120) : 0 ≤ pageAt BL x := by
  have := bs_text ⟨((x - 4096) / 128).toNat, by omega⟩
  simp only at this
  exact page_of ((x - 4096) / 128).toNat (by omega) x (by omega) (by omega)
theorem page_patch {x : Int} (h1 : 8192 ≤ x) (h2 : x < 9216) : 0 ≤ pageAt BL x := by
  have := bs_patch ⟨((x - 8192) / 128).toNat, by omega⟩
  simp only at this
  exact page_of (8 + ((x - 8192) / 128).toNat) (by omega) x (by omega) (by omega)
theorem page_data {x : Int} (h1 : 16384 ≤ x) (h2 : x < 16640) : 0 ≤ pageAt BL x := by
  have := bs_data ⟨((x - 16384) / 128).toNat, by omega⟩
  simp only at this
  exact page_of (16 + ((x - 16384) / 128).toNat) (by omega) x (by omega) (by omega)
theorem spec_put' {F : Int → Int} (hF : FR F) (a : Int) (t : ByteArray) (h1 : -1000000000 ≤ a) (h2 : a + (t.size : Int) ≤ 1000000000) (hx : ∀ x, a ≤ x → x < a + (t.size : Int) → 0 ≤ pageAt BL x) : Z43 (memF F BL) a t = some (memF (updF F a t) BL) := by
  rw [Z43_eq]; exact spec_put BL BL_R BL_over [] t.size F a t hF (Nat.le_refl _) h1 h2 hx
theorem spec_load (im : Img) (hc : im.1.size ≤ 1024) (hd : im.2.1.size ≤ 256) : Z47 im = some (memF (F0 im) BL) := by
  rw [Z47_eq, spec_empty]
  simp only [Option.bind_some]
  rw [spec_put' zF_range 4096 im.1 (by omega) (by omega) fun x h1 h2 => page_text h1 (by omega)]
  simp only [Option.bind_some]
  rw [show updF zF 4096 im.1 = textF im from rfl, spec_put' (textF_range im) 16384 im.2.1 (by omega) (by omega) fun x h1 h2 => page_data h1 (by omega)]
  rfl
theorem rd_mem_list {τ : Ty} (l : List τ.den) (i : Nat) (h : i < l.length) : rd (τ := τ) l (i : Int) ∈ l := by rw [rd_nat l i h]; exact List.getElem_mem h
theorem mem_rd {τ : Ty} {l : List τ.den} {x : τ.den} (h : x ∈ l) : ∃ i : Nat, i < l.length ∧ rd (τ := τ) l (i : Int) = x := by
  obtain ⟨i, hi, e⟩ := List.mem_iff_getElem.1 h
  exact ⟨i, hi, by rw [rd_nat l i hi]; exact e⟩
theorem entV_neg {t : List Ent} {n : ByteArray} : entV t n < 0 ↔ ∀ e ∈ t, e.1 ≠ n := by
  unfold entV
  rcases findB_spec (fun i => decide ((rd (τ := TEnt) t (i : Int)).1 = n)) t.length 0 with ⟨h1, h2⟩ | ⟨j, h1, h2, h3, h4, _⟩
  · refine ⟨fun _ e he hn => ?_, fun _ => by rw [h1]; decide⟩
    obtain ⟨i, hi, hr⟩ := mem_rd (τ := TEnt) he
    have := h2 i (Nat.zero_le _) (by omega)
    rw [decide_eq_false_iff_not, hr] at this
    exact this hn
  · refine ⟨fun h => by rw [h1] at h; omega, fun h => ?_⟩
    rw [decide_eq_true_eq] at h4
    exact absurd h4 (h _ (rd_mem_list (τ := TEnt) t j (by omega)))
structure TabOK (t : List Ent) : Prop where
  len : t.length ≤ 64
  ent : ∀ e ∈ t, entOKV e = true
  dis : t.Pairwise fun a b => a.1 ≠ b.1
theorem tabV_iff {t : List Ent} : tabV t = true ↔ TabOK t := by
  unfold tabV
  rw [Bool.and_eq_true, decide_eq_true_eq, allB_iff]
  have key : ∀ i : Nat, i < t.length → (tabP t i = true ↔ entOKV (rd (τ := TEnt) t (i : Int)) = true ∧ ∀ e ∈ t.take i, e.1 ≠ (rd (τ := TEnt) t (i : Int)).1) := by
    intro i hi
    unfold tabP
    rw [← entV_neg]
    cases entOKV (rd (τ := TEnt) t (i : Int)) <;> simp
  constructor
  · rintro ⟨h1, h2⟩
    refine ⟨h1, fun e he => ?_, ?_⟩
    · obtain ⟨i, hi, hr⟩ := mem_rd (τ := TEnt) he
      rw [← hr]; exact ((key i hi).1 (h2 i (Nat.zero_le _) (by omega))).1
    · rw [List.pairwise_iff_getElem]
      intro i j hi hj hij
      have := ((key j hj).1 (h2 j (Nat.zero_le _) (by omega))).2 t[i] (by rw [List.mem_take_iff_getElem]; exact ⟨i, by omega, rfl⟩)
      rw [rd_nat (τ := TEnt) t j hj] at this
      exact this
  · rintro ⟨h1, h2, h3⟩
    refine ⟨h1, fun i _ hi => (key i (by omega)).2 ⟨h2 _ (rd_mem_list (τ := TEnt) t i (by omega)), fun e he => ?_⟩⟩
    obtain ⟨j, hj, rfl⟩ := List.mem_take_iff_getElem.1 he
    rw [rd_nat (τ := TEnt) t i (by omega)]
    exact (List.pairwise_iff_getElem.1 h3) j i (by omega) (by omega) (by omega)
def entF (o : Obj) (l : Lnk) (owner : Int) (i : Nat) : Ent := ((rd (τ := TFun) o.2.2.1 (i : Int)).1, 1, rd (τ := .int .i64) l.1 (i : Int), (fsz o i : Int), (rd (τ := TFun) o.2.2.1 (i : Int)).2.2.1, owner)
def entD (o : Obj) (l : Lnk) (owner : Int) (i : Nat) : Ent := ((rd (τ := TDat) o.2.2.2.1 (i : Int)).1, 2, rd (τ := .int .i64) l.2.2.1 (i : Int), (dsz o i : Int), 0, owner)
def newT (t : List Ent) (o : Obj) (l : Lnk) (owner : Int) : List Ent :=
  (t ++ filtB (fun i => !(rd (τ := TFun) o.2.2.1 (i : Int)).2.1) (entF o l owner) 0 o.2.2.1.length) ++ mapB (entD o l owner) 0 o.2.2.2.1.length
theorem room56 (n : Nat) (h : n ≤ 4096) : roomB n 56 = true := by simp [roomB]; omega
theorem room40 (n : Nat) (h : n ≤ 4096) : roomB n 40 = true := by simp [roomB]; omega
theorem impl_tableWith_val (t : List Ent) (o : Obj) (l : Lnk) (owner : Int) (ht : t.length ≤ 64) (hz : ObjSz o) (hl : LnkR o l) : Z8e t o l owner = some (newT t o l owner) := by
  have h1 := hz.f
  have h2 := hz.d
  have hf := filtB_length (fun i => !(rd (τ := TFun) o.2.2.1 (i : Int)).2.1) (entF o l owner) o.2.2.1.length 0
  rw [Z8e_eq, Z1w_eq, room56 _ (by omega)]
  simp only [cond_true, Option.bind_some]
  rw [loop_filt0 (L := fun acc i => Z8e.a owner o l acc o.2.2.1 (o.2.2.1.length : Int) i) (fun i => !(rd (τ := TFun) o.2.2.1 (i : Int)).2.1) (entF o l owner) o.2.2.1.length t fun acc i hi ha => ?_]
  · show Z8e.a owner o l _ o.2.2.1 (o.2.2.1.length : Int) (o.2.2.1.length : Int) = _
    rw [Z8e.a_eq, lt_nat, decide_eq_false (Nat.lt_irrefl _), cond_false]
    rw [loop_map0 (L := fun acc i => Z8e.b owner l acc o.2.2.2.1 (o.2.2.2.1.length : Int) i) (entD o l owner) o.2.2.2.1.length (t ++ filtB (fun i => !(rd (τ := TFun) o.2.2.1 (i : Int)).2.1) (entF o l owner) 0 o.2.2.1.length) fun acc i hi ha => ?_]
    · show Z8e.b owner l _ o.2.2.2.1 (o.2.2.2.1.length : Int) (o.2.2.2.1.length : Int) = _
      rw [Z8e.b_eq, lt_nat, decide_eq_false (Nat.lt_irrefl _), cond_false]; rfl
    · show Z8e.b owner l acc o.2.2.2.1 (o.2.2.2.1.length : Int) (i : Int) = _
      rw [List.length_append] at ha
      rw [Z8e.b_eq, lt_nat, inL_nat, decide_eq_true hi, w64_succ i _ hi (by omega), inL_nat, show decide (i < l.2.2.1.length) = true from decide_eq_true (by rw [hl.d]; exact hi), room56 _ (by simp; omega)]; rfl
  · show Z8e.a owner o l acc o.2.2.1 (o.2.2.1.length : Int) (i : Int) = _
    rw [Z8e.a_eq, lt_nat, inL_nat, decide_eq_true hi, w64_succ i _ hi (by omega), inL_nat, show decide (i < l.1.length) = true from decide_eq_true (by rw [hl.a]; exact hi), room56 _ (by simp; omega)]
    cases (rd (τ := TFun) o.2.2.1 (i : Int)).2.1 <;> rfl
theorem spec_with_val (t : List Ent) (o : Obj) (l : Lnk) (owner : Int) (ht : t.length ≤ 64) (hz : ObjSz o) (hl : LnkR o l) : Z4x t o l owner = some (newT t o l owner) := by
  have h1 := hz.f
  have h2 := hz.d
  have hf := filtB_length (fun i => !(rd (τ := TFun) o.2.2.1 (i : Int)).2.1) (entF o l owner) o.2.2.1.length 0
  rw [Z4x_eq, room56 _ (by omega)]
  simp only [cond_true]
  rw [loop_filt0 (L := fun acc i => Z4x.a owner o l acc i) (fun i => !(rd (τ := TFun) o.2.2.1 (i : Int)).2.1) (entF o l owner) o.2.2.1.length t fun acc i hi ha => ?_]
  · rw [Z4x.a_eq, lt_nat, decide_eq_false (Nat.lt_irrefl _), cond_false]
    rw [loop_map0 (L := fun acc i => Z4x.b owner o l acc i) (entD o l owner) o.2.2.2.1.length (t ++ filtB (fun i => !(rd (τ := TFun) o.2.2.1 (i : Int)).2.1) (entF o l owner) 0 o.2.2.1.length) fun acc i hi ha => ?_]
    · rw [Z4x.b_eq, lt_nat, decide_eq_false (Nat.lt_irrefl _), cond_false]; rfl
    · show Z4x.b owner o l acc (i : Int) = _
      rw [List.length_append] at ha
      rw [Z4x.b_eq, lt_nat, inL_nat, decide_eq_true hi, w64_succ i _ hi (by omega), inL_nat, inL_nat, show decide (i < l.2.2.1.length) = true from decide_eq_true (by rw [hl.d]; exact hi), show decide (i < l.2.2.2.length) = true from decide_eq_true (by rw [hl.b]; exact hi), room56 _ (by simp; omega), hl.bs i hi]; rfl
  · show Z4x.a owner o l acc (i : Int) = _
    rw [Z4x.a_eq, lt_nat, inL_nat, decide_eq_true hi, w64_succ i _ hi (by omega), inL_nat, inL_nat, show decide (i < l.1.length) = true from decide_eq_true (by rw [hl.a]; exact hi), show decide (i < l.2.1.length) = true from decide_eq_true (by rw [hl.c]; exact hi), room56 _ (by simp; omega), hl.cs i hi]
    cases (rd (τ := TFun) o.2.2.1 (i : Int)).2.1 <;> rfl
theorem impl_fits_val (o : Obj) (l : Lnk) (hz : ObjSz o) (hl : LnkR o l) : Z8d l o = some true := by
  have h1 := hz.f
  have h2 := hz.d
  rw [Z8d_eq, hl.a, hl.c, hl.d, hl.b]
  simp only [decide_true, Bool.not_true, cond_false]
  rw [loop_all0 (L := Z8d.a l o o.2.2.1 (o.2.2.1.length : Int)) (fun _ => true) o.2.2.1.length ?_ fun i hi => ?_]
  · rw [(allB_iff _ _ _).2 fun _ _ _ => rfl]
  · rw [Z8d.a_eq, lt_nat, decide_eq_false (Nat.lt_irrefl _), cond_false]
    rw [loop_all0 (L := Z8d.b l o.2.2.2.1 (o.2.2.2.1.length : Int)) (fun _ => true) o.2.2.2.1.length ?_ fun i hi => ?_]
    · rw [(allB_iff _ _ _).2 fun _ _ _ => rfl]
    · rw [Z8d.b_eq, lt_nat, decide_eq_false (Nat.lt_irrefl _), cond_false]
    · rw [Z8d.b_eq, lt_nat, inL_nat, decide_eq_true hi, w64_succ i _ hi (by omega), inL_nat, show decide (i < l.2.2.2.length) = true from decide_eq_true (by rw [hl.b]; exact hi), hl.bs i hi, show decide ((dsz o i : Int) = ((rd (τ := TDat) o.2.2.2.1 (i : Int)).2.size : Int)) = true from decide_eq_true rfl]; rfl
  · rw [Z8d.a_eq, lt_nat, inL_nat, decide_eq_true hi, w64_succ i _ hi (by omega), inL_nat, show decide (i < l.2.1.length) = true from decide_eq_true (by rw [hl.c]; exact hi), hl.cs i hi, show decide ((fsz o i : Int) = ((rd (τ := TFun) o.2.2.1 (i : Int)).2.2.2.size : Int)) = true from decide_eq_true rfl]; rfl
theorem filtB_mem {α : Type} (p : Nat → Bool) (f : Nat → α) (x : α) : ∀ k i, x ∈ filtB p f i k → ∃ j, i ≤ j ∧ j < i + k ∧ p j = true ∧ f j = x
  | 0, i, h => by cases h
  | k + 1, i, h => by
    rw [filtB] at h
    cases hp : p i with
    | false =>
      rw [hp, cond_false] at h
      obtain ⟨j, h1, h2, h3⟩ := filtB_mem p f x k (i + 1) h
      exact ⟨j, by omega, by omega, h3⟩
    | true =>
      rw [hp, cond_true] at h
      rcases List.mem_cons.1 h with rfl | h
      · exact ⟨i, Nat.le_refl _, by omega, hp, rfl⟩
      · obtain ⟨j, h1, h2, h3⟩ := filtB_mem p f x k (i + 1) h
        exact ⟨j, by omega, by omega, h3⟩
theorem filtB_pair {α : Type} (p : Nat → Bool) (f : Nat → α) (R : α → α → Prop) : ∀ k i, (∀ a b, i ≤ a → a < b → b < i + k → R (f a) (f b)) → (filtB p f i k).Pairwise R
  | 0, _, _ => List.Pairwise.nil
  | k + 1, i, h => by
    have ih := filtB_pair p f R k (i + 1) fun a b h1 h2 h3 => h a b (by omega) h2 (by omega)
    rw [filtB]
    cases p i with
    | false => exact ih
    | true =>
      rw [cond_true]
      refine List.Pairwise.cons (fun x hx => ?_) ih
      obtain ⟨j, h1, h2, _, rfl⟩ := filtB_mem p f x k (i + 1) hx
      exact h i j (Nat.le_refl _) (by omega) (by omega)
theorem mapB_pair {α : Type} (f : Nat → α) (R : α → α → Prop) : ∀ k i, (∀ a b, i ≤ a → a < b → b < i + k → R (f a) (f b)) → (mapB f i k).Pairwise R
  | 0, _, _ => List.Pairwise.nil
  | k + 1, i, h => by
    have ih := mapB_pair f R k (i + 1) fun a b h1 h2 h3 => h a b (by omega) h2 (by omega)
    rw [mapB]
    refine List.Pairwise.cons (fun x hx => ?_) ih
    obtain ⟨j, h1, h2, rfl⟩ := (mapB_mem f x k (i + 1)).1 hx
    exact h i j (Nat.le_refl _) (by omega) (by omega)
theorem ObjOK.dis_ff {o : Obj} (h : ObjOK o) (a b : Nat) (hab : a < b) (hb : b < o.2.2.1.length) : (rd (τ := TFun) o.2.2.1 (a : Int)).1 ≠ (rd (τ := TFun) o.2.2.1 (b : Int)).1 := by
  have := (funC_zero (h.fun_ b hb)).2.1
  rw [names_take_f o b (by omega)] at this
  intro e
  have : hasS (mapB (fun i => (rd (τ := TFun) o.2.2.1 (i : Int)).1) 0 b) (rd (τ := TFun) o.2.2.1 (b : Int)).1 = true := hasS_iff.2 ((mapB_mem _ _ _ _).2 ⟨a, Nat.zero_le _, by omega, e⟩)
  simp_all
theorem ObjOK.dis_fd {o : Obj} (h : ObjOK o) (a b : Nat) (ha : a < o.2.2.1.length) (hb : b < o.2.2.2.1.length) : (rd (τ := TFun) o.2.2.1 (a : Int)).1 ≠ (rd (τ := TDat) o.2.2.2.1 (b : Int)).1 := by
  have := (datC_zero (h.dat b hb)).2.1
  rw [names_take_d o b (by omega), hasS_app, Bool.or_eq_false_iff] at this
  intro e
  have h2 : hasS (mapB (fun i => (rd (τ := TFun) o.2.2.1 (i : Int)).1) 0 o.2.2.1.length) (rd (τ := TDat) o.2.2.2.1 (b : Int)).1 = true := hasS_iff.2 ((mapB_mem _ _ _ _).2 ⟨a, Nat.zero_le _, by omega, e⟩)
  rw [h2] at this
  exact absurd this.1 (by decide)
theorem ObjOK.dis_dd {o : Obj} (h : ObjOK o) (a b : Nat) (hab : a < b) (hb : b < o.2.2.2.1.length) : (rd (τ := TDat) o.2.2.2.1 (a : Int)).1 ≠ (rd (τ := TDat) o.2.2.2.1 (b : Int)).1 := by
  have := (datC_zero (h.dat b hb)).2.1
  rw [names_take_d o b (by omega), hasS_app, Bool.or_eq_false_iff] at this
  intro e
  have h2 : hasS (mapB (fun i => (rd (τ := TDat) o.2.2.2.1 (i : Int)).1) 0 b) (rd (τ := TDat) o.2.2.2.1 (b : Int)).1 = true := hasS_iff.2 ((mapB_mem _ _ _ _).2 ⟨a, Nat.zero_le _, by omega, e⟩)
  rw [h2] at this
  exact absurd this.2 (by decide)
theorem namesC_zero {t : List Ent} {o : Obj} (h : namesC t o = 0) : (∀ i, i < o.2.2.1.length → nfC t o i = 0) ∧ (∀ i, i < o.2.2.2.1.length → ndC t o i = 0) := by
  unfold namesC at h
  by_cases h1 : (scanB (nfC t o) 0 o.2.2.1.length).2 = 0
  · rw [if_pos h1] at h
    exact ⟨fun i hi => (scanB_zero _ _ _).1 h1 i (Nat.zero_le _) (by omega), fun i hi => (scanB_zero _ _ _).1 h i (Nat.zero_le _) (by omega)⟩
  · rw [if_neg h1] at h; exact absurd h h1
theorem nfC_new {t : List Ent} {o : Obj} {i : Nat} (h : nfC t o i = 0) (hr : (rd (τ := TFun) o.2.2.1 (i : Int)).2.1 = false) : entV t (rd (τ := TFun) o.2.2.1 (i : Int)).1 < 0 := by
  unfold nfC at h
  rw [hr] at h
  simp only [Bool.false_eq_true, if_false] at h
  split at h
  · cases h
  · omega
theorem nfC_old {t : List Ent} {o : Obj} {i : Nat} (h : nfC t o i = 0) (hr : (rd (τ := TFun) o.2.2.1 (i : Int)).2.1 = true) : 0 ≤ entV t (rd (τ := TFun) o.2.2.1 (i : Int)).1 ∧ (rd (τ := TEnt) t (entV t (rd (τ := TFun) o.2.2.1 (i : Int)).1)).2.1 = 1 := by
  unfold nfC at h
  rw [hr] at h
  simp only [if_true] at h
  split at h
  · cases h
  · split at h
    · rename_i h1 h2; exact ⟨by omega, h2⟩
    · cases h
theorem ndC_new {t : List Ent} {o : Obj} {i : Nat} (h : ndC t o i = 0) : entV t (rd (τ := TDat) o.2.2.2.1 (i : Int)).1 < 0 := by
  unfold ndC at h
  split at h
  · cases h
  · omega
theorem codeAt_of {x : Int} (h : AtR x) : codeAtV x = true := by
  unfold codeAtV
  obtain ⟨h1, h2, h3⟩ := h
  rw [show (decide (0 ≤ x) && decide (x ≤ 1048575)) = true by simp; omega, cond_true, decide_eq_true_eq, Int.tmod_eq_emod_of_nonneg h1]; omega
theorem newT_length (t : List Ent) (o : Obj) (l : Lnk) (owner : Int) (hz : ObjSz o) : (newT t o l owner).length ≤ t.length + 8 := by
  have h1 := hz.f
  have h2 := hz.d
  have hf := filtB_length (fun i => !(rd (τ := TFun) o.2.2.1 (i : Int)).2.1) (entF o l owner) o.2.2.1.length 0
  unfold newT
  rw [List.length_append, List.length_append, mapB_length]; omega
theorem newT_ok {t : List Ent} {o : Obj} {l : Lnk} {owner : Int} (ht : TabOK t) (ho : ObjOK o) (hl : LnkR o l) (hn : namesC t o = 0) (how : 1 ≤ owner ∧ owner ≤ 6) (hlen : t.length ≤ 56) : TabOK (newT t o l owner) := by
  obtain ⟨n1, n2⟩ := namesC_zero hn
  refine ⟨by have := newT_length t o l owner ho.toObjSz; omega, fun e he => ?_, ?_⟩
  · unfold newT at he
    rcases List.mem_append.1 he with he | he
    · rcases List.mem_append.1 he with he | he
      · exact ht.ent e he
      · obtain ⟨j, _, hj, _, rfl⟩ := filtB_mem _ _ _ _ _ he
        have hf := funC_zero (ho.fun_ j (by omega))
        have hs := ho.fsz_pos j (by omega)
        have ha := hl.fa j (by omega)
        unfold entOKV entF
        simp only
        rw [hf.1, codeAt_of ha, inR_iff.2 (show (1 : Int) ≤ (fsz o j : Int) ∧ (fsz o j : Int) ≤ 1024 by omega), inR_iff.2 (show 0 ≤ owner ∧ owner ≤ 6 by omega)]
        unfold kindV
        rw [hf.2.2.1]; rfl
    · obtain ⟨j, _, hj, rfl⟩ := (mapB_mem _ _ _ _).1 he
      have hf := datC_zero (ho.dat j (by omega))
      have hs := ho.dsz_pos j (by omega)
      have ha := hl.ds j (by omega)
      unfold entOKV entD
      simp only
      rw [hf.1, codeAt_of ha, inR_iff.2 (show (1 : Int) ≤ (dsz o j : Int) ∧ (dsz o j : Int) ≤ 1024 by omega), inR_iff.2 (show 0 ≤ owner ∧ owner ≤ 6 by omega)]
      rfl
  · unfold newT
    rw [List.pairwise_append, List.pairwise_append]
    refine ⟨⟨ht.dis, filtB_pair _ _ _ _ _ fun a b _ h2 h3 => ho.dis_ff a b h2 (by omega), fun a ha b hb => ?_⟩, mapB_pair _ _ _ _ fun a b _ h2 h3 => ho.dis_dd a b h2 (by omega), fun a ha b hb => ?_⟩
    · obtain ⟨j, _, hj, hp, rfl⟩ := filtB_mem _ _ _ _ _ hb
      have := nfC_new (n1 j (by omega)) (by simpa using hp)
      exact entV_neg.1 this a ha
    · obtain ⟨k, _, hk, rfl⟩ := (mapB_mem _ _ _ _).1 hb
      rcases List.mem_append.1 ha with ha | ha
      · exact entV_neg.1 (ndC_new (n2 k (by omega))) a ha
      · obtain ⟨j, _, hj, hp, rfl⟩ := filtB_mem _ _ _ _ _ ha
        exact ho.dis_fd j k (by omega) (by omega)
theorem placeV_base (a : Area) (n : Nat) : (placeV a n).1.1 = a.1 ∧ (placeV a n).1.2.1 = a.2.1 := by
  unfold placeV; split <;> exact ⟨rfl, rfl⟩
theorem plB_base (sz : Nat → Nat) : ∀ k i a, (plB sz a i k).1.1 = a.1 ∧ (plB sz a i k).1.2.1 = a.2.1
  | 0, _, _ => ⟨rfl, rfl⟩
  | k + 1, i, a => by
    have h := plB_base sz k (i + 1) (placeV a (sz i)).1
    have h2 := placeV_base a (sz i)
    rw [plB]; exact ⟨h.1.trans h2.1, h.2.trans h2.2⟩
theorem placeV_in {a : Area} (h : AreaR a) (n : Nat) (ok : (placeV a n).2.2 = true) : a.1 ≤ (placeV a n).2.1 ∧ (placeV a n).2.1 + (n : Int) ≤ a.1 + a.2.1 := by
  obtain ⟨⟨h1, h2, h3⟩, ⟨h4, h5, h6⟩, h7, h8, h9⟩ := h
  unfold placeV at ok ⊢
  split at ok
  · cases ok
  · rename_i hc
    rw [if_neg hc]
    have : n ≤ up8 n := by unfold up8; omega
    exact ⟨h7, by simp only; omega⟩
theorem plB_in (sz : Nat → Nat) : ∀ k i a, AreaR a → (plB sz a i k).2.2 = true → ∀ j (hj : j < (plB sz a i k).2.1.length), a.1 ≤ (plB sz a i k).2.1[j] ∧ (plB sz a i k).2.1[j] + (sz (i + j) : Int) ≤ a.1 + a.2.1
  | 0, _, _, _, _, j, hj => by simp [plB] at hj
  | k + 1, i, a, h, ok, j, hj => by
    have e : plB sz a i (k + 1) = ((plB sz (placeV a (sz i)).1 (i + 1) k).1, (placeV a (sz i)).2.1 :: (plB sz (placeV a (sz i)).1 (i + 1) k).2.1, (placeV a (sz i)).2.2 && (plB sz (placeV a (sz i)).1 (i + 1) k).2.2) := rfl
    rw [e, Bool.and_eq_true] at ok
    have hb := placeV_base a (sz i)
    cases j with
    | zero => exact placeV_in h _ ok.1
    | succ j =>
      have := plB_in sz k (i + 1) _ (placeV_area h (sz i)) ok.2 j (by rw [plB_length] at hj ⊢; omega)
      rw [hb.1, hb.2] at this
      rw [show i + (j + 1) = i + 1 + j by omega]
      exact this
def InPatch (o : Obj) (l : Lnk) : Prop := ∀ i : Nat, i < o.2.2.1.length → ∃ x : Int, rd (τ := .int .i64) l.1 (i : Int) = x ∧ 8192 ≤ x ∧ x + (fsz o i : Int) ≤ 9216 ∧ x % 8 = 0
theorem inPatch_of {t : List Ent} {a b : Area} {o : Obj} {v : Lnk × Area × Area × Int} (h : LinkR t a b o v) (ha : AreaR a) (h1 : a.1 = 8192) (h2 : a.2.1 = 1024) : InPatch o v.1 := by
  intro i hi
  rw [h.ats]
  have hl := plB_length (fsz o) o.2.2.1.length 0 a
  have hok := h.ok
  unfold layV at hok
  simp only [Bool.and_eq_true] at hok
  have := plB_in (fsz o) o.2.2.1.length 0 a ha hok.1 i (by rw [hl]; exact hi)
  have h8 := h.lnk.fa i hi
  rw [h.ats] at h8
  have e : (rd (τ := .int .i64) (layV o a b).1.1 (i : Int) : Int) = (plB (fsz o) a 0 o.2.2.1.length).2.1[i]'(by rw [hl]; exact hi) := rd_nat (τ := .int .i64) _ i (by show i < (plB (fsz o) a 0 o.2.2.1.length).2.1.length; rw [hl]; exact hi)
  have h8' : AtR ((plB (fsz o) a 0 o.2.2.1.length).2.1[i]'(by rw [hl]; exact hi)) := by rw [← e]; exact h8
  rw [Nat.zero_add, h1, h2] at this
  exact ⟨_, e, this.1, this.2, h8'.2.2⟩
def CodeIn (x : Int) (n : Int) : Prop := (4096 ≤ x ∧ x + n ≤ 5120) ∨ (8192 ≤ x ∧ x + n ≤ 9216)
theorem CodeIn.page {x n : Int} (h : CodeIn x n) : ∀ y, x ≤ y → y < x + n → 0 ≤ pageAt BL y := by
  intro y h1 h2
  rcases h with h | h
  · exact page_text (by omega) (by omega)
  · exact page_patch (by omega) (by omega)
theorem CodeIn.range {x n : Int} (h : CodeIn x n) : 4096 ≤ x ∧ x + n ≤ 9216 := by
  rcases h with h | h <;> omega
theorem put_code {F : Int → Int} (hF : FR F) (a : Int) (t : ByteArray) (h : CodeIn a (t.size : Int)) : Z77 (memF F BL) a t = some (memF (updF F a t) BL) ∧ Z43 (memF F BL) a t = some (memF (updF F a t) BL) := by
  have hr := h.range
  exact ⟨impl_put hF a t ⟨by omega, by omega, by omega⟩ BL BL_R, spec_put' hF a t (by omega) (by omega) h.page⟩
def codesF (F : Int → Int) (l : Lnk) : Nat → Nat → (Int → Int)
  | _, 0 => F
  | i, k + 1 => codesF (updF F (rd (τ := .int .i64) l.1 (i : Int)) (rd (τ := .str) l.2.1 (i : Int))) l (i + 1) k
theorem codesF_range (l : Lnk) : ∀ k i F, FR F → FR (codesF F l i k)
  | 0, _, _, h => h
  | k + 1, i, F, h => codesF_range l k (i + 1) _ (updF_range h _ _)
theorem codes_both (o : Obj) (l : Lnk) (t : List Ent) (hz : ObjSz o) (hl : LnkR o l) (hp : InPatch o l) (x8 : List (Int × Int)) : ∀ (k i : Nat) (F : Int → Int), FR F → i + k = o.2.2.1.length →
    Z5.a t (memF F BL) o l [] x8 (o.2.2.1.length : Int) (i : Int) = Z5.b t (memF (codesF F l i k) BL) l [] x8 o.2.2.1 (o.2.2.1.length : Int) 0 ∧
    Z50.a t (memF F BL) o l [] (i : Int) = Z50.b t (memF (codesF F l i k) BL) o l [] [] 0 := by
  have h1 := hz.f
  intro k
  induction k with
  | zero =>
    intro i F hF h
    have : i = o.2.2.1.length := by omega
    subst this
    rw [Z5.a_eq, lt_nat, decide_eq_false (Nat.lt_irrefl _), cond_false, Z50.a_eq, lt_nat, decide_eq_false (Nat.lt_irrefl _), cond_false]
    exact ⟨rfl, rfl⟩
  | succ k ih =>
    intro i F hF h
    have hi : i < o.2.2.1.length := by omega
    obtain ⟨x, hx, hpi⟩ := hp i hi
    have hsz := hl.cs i hi
    obtain ⟨p1, p2⟩ := put_code hF x (rd (τ := .str) l.2.1 (i : Int)) (.inr ⟨hpi.1, by rw [hsz]; exact hpi.2.1⟩)
    rw [← hx] at p1 p2
    rw [Z5.a_eq, lt_nat, inL_nat, inL_nat, decide_eq_true hi, w64_succ i _ hi (by omega), show decide (i < l.1.length) = true from decide_eq_true (by rw [hl.a]; exact hi), show decide (i < l.2.1.length) = true from decide_eq_true (by rw [hl.c]; exact hi), p1,
      Z50.a_eq, lt_nat, inL_nat, inL_nat, decide_eq_true hi, w64_succ i _ hi (by omega), show decide (i < l.1.length) = true from decide_eq_true (by rw [hl.a]; exact hi), show decide (i < l.2.1.length) = true from decide_eq_true (by rw [hl.c]; exact hi), p2]
    simp only [cond_true, Option.bind_some]
    exact ih (i + 1) _ (updF_range hF _ _) (by omega)
def FunIn (t : List Ent) : Prop := ∀ i : Nat, i < t.length → (rd (τ := TEnt) t (i : Int)).2.1 = 1 → CodeIn (rd (τ := TEnt) t (i : Int)).2.2.1 4
theorem jump_enc (d : Int) (h : -2147483648 ≤ d ∧ d ≤ 2147483647) : ∃ w, Z6l (3, 0, 0, 0, d) = some w ∧ Z33 (3, 0, 0, 0, d) = some w := by
  have hR : RegsOK (3, 0, 0, 0, d) := ⟨⟨by simp, by simp⟩, ⟨by simp, by simp⟩, ⟨by simp, by simp⟩, ⟨by simp only; omega, by simp only; omega⟩⟩
  exact ⟨_, impl_encode_val (3, 0, 0, 0, d) (by simp) (by simp) hR, spec_encode_val (3, 0, 0, 0, d) (by simp) (by simp) hR fun h => by have h' : (shp 3).1 = 1 := h; exact absurd h' (by decide)⟩
theorem jumps_both (o : Obj) (l : Lnk) (t : List Ent) (ht : t.length ≤ 64) (hz : ObjSz o) (hl : LnkR o l) (hp : InPatch o l) (hf : FunIn t) (hn : ∀ i : Nat, i < o.2.2.1.length → (rd (τ := TFun) o.2.2.1 (i : Int)).2.1 = true → 0 ≤ entV t (rd (τ := TFun) o.2.2.1 (i : Int)).1 ∧ (rd (τ := TEnt) t (entV t (rd (τ := TFun) o.2.2.1 (i : Int)).1)).2.1 = 1) :
    ∀ (k i : Nat) (F : Int → Int) (sv : List (Int × Int)), FR F → i + k = o.2.2.1.length → sv.length ≤ i → ∃ F' sv', FR F' ∧ sv'.length ≤ o.2.2.1.length ∧
    Z5.b t (memF F BL) l [] sv o.2.2.1 (o.2.2.1.length : Int) (i : Int) = some (memF F' BL, sv') ∧ Z50.b t (memF F BL) o l [] sv (i : Int) = some (memF F' BL, sv') := by
  have h1 := hz.f
  intro k
  induction k with
  | zero =>
    intro i F sv hF h hs
    have : i = o.2.2.1.length := by omega
    subst this
    rw [Z5.b_eq, lt_nat, decide_eq_false (Nat.lt_irrefl _), cond_false, Z50.b_eq, lt_nat, decide_eq_false (Nat.lt_irrefl _), cond_false]
    exact ⟨F, sv, hF, hs, rfl, rfl⟩
  | succ k ih =>
    intro i F sv hF h hs
    have hi : i < o.2.2.1.length := by omega
    rw [Z5.b_eq, lt_nat, inL_nat, decide_eq_true hi, w64_succ i _ hi (by omega), Z50.b_eq, lt_nat, decide_eq_true hi, w64_succ i _ hi (by omega)]
    simp only [inL_nat, decide_eq_true hi, cond_true]
    cases hr : (rd (τ := TFun) o.2.2.1 (i : Int)).2.1 with
    | false => exact ih (i + 1) F sv hF (by omega) (by omega)
    | true =>
      obtain ⟨e1, e2⟩ := hn i hi hr
      have er := entV_range t (rd (τ := TFun) o.2.2.1 (i : Int)).1
      rw [(ent_val t _ (by omega)).1, (ent_val t _ (by omega)).2]
      simp only [Bool.not_true, cond_false, Option.bind_some]
      obtain ⟨q, hq⟩ : ∃ q : Nat, entV t (rd (τ := TFun) o.2.2.1 (i : Int)).1 = (q : Int) := ⟨(entV t (rd (τ := TFun) o.2.2.1 (i : Int)).1).toNat, by omega⟩
      rw [hq] at e2 er ⊢
      have hqt : q < t.length := by omega
      have hat := hf q hqt e2
      obtain ⟨at_, hA⟩ : ∃ x : Int, (rd (τ := TEnt) t (q : Int)).2.2.1 = x := ⟨_, rfl⟩
      rw [hA] at hat ⊢
      have hr4 := hat.range
      have hg := hat.page
      obtain ⟨to, hT, hpi⟩ := hp i hi
      simp only [hT]
      rw [inL_nat, decide_eq_true hqt, show decide (i < l.1.length) = true from decide_eq_true (by rw [hl.a]; exact hi)]
      rw [show Z4 (memF F BL) at_ 4 = some (getV F at_ 4) from impl_bytes hF BL BL_R at_ 4 (by omega) (by omega) (by omega) hg, show Z4y (memF F BL) at_ 4 = some (getV F at_ 4) from spec_get hF BL BL_R at_ 4 (by omega) (by omega) (by omega) hg]
      have hgz := getV_size F at_ 4
      simp only [cond_true, Option.bind_some]
      rw [impl_take_val _ (by omega), hgz, show Z2z (getV F at_ 4) 0 4 = some (IntKind.wrap .i64 (leN (getV F at_ 4) 0 4)) from spec_take_val (getV F at_ 4) 0 4 (by omega) (by omega)]
      simp only [Option.bind_some]
      rw [room16 _ (by simp; omega), Z4z_eq, w64 (n := to - at_) (by omega) (by omega)]
      obtain ⟨w, w1, w2⟩ := jump_enc (to - at_) ⟨by omega, by omega⟩
      simp only [cond_true, Option.bind_some]
      rw [w1, w2]
      simp only [Option.bind_some]
      rw [show Z81 w 4 = some (bytesOf (leB w 4)) from put_little w 4 (by omega), show Z4m w 4 = some (bytesOf (leB w 4)) from spec_little w 4 (by omega)]
      have hb : (bytesOf (leB w 4)).size = 4 := by rw [bytesOf_size, leB_length]
      obtain ⟨p1, p2⟩ := put_code hF at_ (bytesOf (leB w 4)) (by rw [hb]; exact hat)
      simp only [Option.bind_some]
      rw [p1, p2]
      simp only [Option.bind_some]
      exact ih (i + 1) _ _ (updF_range hF _ _) (by omega) (by simp; omega)
abbrev Pc : Type := Int × Int × Int × Int × Int
def plS (s : Sym) : Int := bif decide (s.2.1 = 1) then IntKind.wrap .i64 (4096 + s.2.2.1) else IntKind.wrap .i64 (16384 + s.2.2.1)
theorem plS_val (s : Sym) : Z69 s = some (plS s) ∧ Z2u s = some (plS s) := by
  rw [Z69_eq, Z2u_eq]
  unfold plS
  cases decide (s.2.1 = 1) <;> exact ⟨rfl, rfl⟩
def entI (im : Img) (i : Nat) : Ent := ((rd (τ := TSym) im.2.2 (i : Int)).1, (rd (τ := TSym) im.2.2 (i : Int)).2.1, plS (rd (τ := TSym) im.2.2 (i : Int)), (rd (τ := TSym) im.2.2 (i : Int)).2.2.2.1, (rd (τ := TSym) im.2.2 (i : Int)).2.2.2.2, 0)
def imgT (im : Img) : List Ent := mapB (entI im) 0 im.2.2.length
def imgP (im : Img) : List Pc := filtB (fun i => decide ((rd (τ := TSym) im.2.2 (i : Int)).2.1 = 1)) (fun i => ((i : Int), 0, plS (rd (τ := TSym) im.2.2 (i : Int)), (rd (τ := TSym) im.2.2 (i : Int)).2.2.2)) 0 im.2.2.length
theorem impl_imgT (im : Img) (hn : im.2.2.length ≤ 16) : Z74 im = some (imgT im) := by
  rw [Z74_eq, loop_map0 (L := fun acc i => Z74.a acc im.2.2 (im.2.2.length : Int) i) (entI im) im.2.2.length [] fun acc i hi ha => ?_]
  · rw [Z74.a_eq, lt_nat, decide_eq_false (Nat.lt_irrefl _), cond_false, List.nil_append]; rfl
  · show Z74.a acc im.2.2 (im.2.2.length : Int) (i : Int) = _
    rw [Z74.a_eq, lt_nat, inL_nat, decide_eq_true hi, w64_succ i _ hi (by omega), (plS_val _).1]
    simp only [cond_true, Option.bind_some]
    rw [room56 _ (by simp at ha ⊢; omega)]; rfl
theorem spec_imgT (im : Img) (hn : im.2.2.length ≤ 16) : Z3y im = some (imgT im) := by
  rw [Z3y_eq, loop_map0 (L := fun acc i => Z3y.a im acc i) (entI im) im.2.2.length [] fun acc i hi ha => ?_]
  · rw [Z3y.a_eq, lt_nat, decide_eq_false (Nat.lt_irrefl _), cond_false, List.nil_append]; rfl
  · show Z3y.a im acc (i : Int) = _
    rw [Z3y.a_eq, lt_nat, inL_nat, decide_eq_true hi, w64_succ i _ hi (by omega), (plS_val _).2]
    simp only [cond_true, Option.bind_some]
    rw [room56 _ (by simp at ha ⊢; omega)]; rfl
theorem impl_imgP (im : Img) (hn : im.2.2.length ≤ 16) : Z75 im = some (imgP im) := by
  rw [Z75_eq, loop_filt0 (L := fun acc i => Z75.a acc im.2.2 (im.2.2.length : Int) i) (fun i => decide ((rd (τ := TSym) im.2.2 (i : Int)).2.1 = 1)) (fun i => (((i : Int), 0, plS (rd (τ := TSym) im.2.2 (i : Int)), (rd (τ := TSym) im.2.2 (i : Int)).2.2.2) : Pc)) im.2.2.length [] fun acc i hi ha => ?_]
  · rw [Z75.a_eq, lt_nat, decide_eq_false (Nat.lt_irrefl _), cond_false, List.nil_append]; rfl
  · show Z75.a acc im.2.2 (im.2.2.length : Int) (i : Int) = _
    rw [Z75.a_eq, lt_nat, inL_nat, decide_eq_true hi, w64_succ i _ hi (by omega), (plS_val _).1]
    simp only [cond_true, Option.bind_some]
    rw [room40 _ (by simp at ha ⊢; omega)]
    cases decide ((rd (τ := TSym) im.2.2 (i : Int)).2.1 = 1) <;> rfl
theorem spec_imgP (im : Img) (hn : im.2.2.length ≤ 16) : Z3z im = some (imgP im) := by
  rw [Z3z_eq, loop_filt0 (L := fun acc i => Z3z.a im acc i) (fun i => decide ((rd (τ := TSym) im.2.2 (i : Int)).2.1 = 1)) (fun i => (((i : Int), 0, plS (rd (τ := TSym) im.2.2 (i : Int)), (rd (τ := TSym) im.2.2 (i : Int)).2.2.2) : Pc)) im.2.2.length [] fun acc i hi ha => ?_]
  · rw [Z3z.a_eq, lt_nat, decide_eq_false (Nat.lt_irrefl _), cond_false, List.nil_append]; rfl
  · show Z3z.a im acc (i : Int) = _
    rw [Z3z.a_eq, lt_nat, inL_nat, decide_eq_true hi, w64_succ i _ hi (by omega), (plS_val _).2]
    simp only [cond_true, Option.bind_some]
    rw [room40 _ (by simp at ha ⊢; omega)]
    cases decide ((rd (τ := TSym) im.2.2 (i : Int)).2.1 = 1) <;> rfl
abbrev LayI : Type := List Ent × List Pc × List Page × Area × Area
abbrev LayS : Type := List Ent × Area × Area × List Pc × List Page
theorem new_val (im : Img) (hz : ImgSz im) : Z7c im = some ((imgT im, imgP im, memF (F0 im) BL, (8192, 1024, 8192), (20480, 256, 20480)) : LayI) ∧ Z48 im = some ((imgT im, (8192, 1024, 8192), (20480, 256, 20480), imgP im, memF (F0 im) BL) : LayS) := by
  rw [Z7c_eq, Z48_eq, impl_imgT im hz.n, spec_imgT im hz.n, impl_imgP im hz.n, spec_imgP im hz.n, impl_loaded im hz.c hz.d, spec_load im hz.c hz.d]
  exact ⟨rfl, rfl⟩
structure LayR (n : Nat) (t : List Ent) (P : List Pc) (F : Int → Int) (a b : Area) : Prop where
  tab : TabOK t
  len : t.length ≤ 16 + 8 * n
  fin : FunIn t
  pl : P.length ≤ 16 + 4 * n
  fr : FR F
  aR : AreaR a
  a1 : a.1 = 8192
  a2 : a.2.1 = 1024
  bR : AreaR b
theorem funSz20 {n : Nat} (h : funcSizeV n = true) : 20 ≤ n := by
  unfold funcSizeV at h
  cases h1 : codeSizeV n with
  | false => rw [h1] at h; cases h
  | true => rw [h1, cond_true, decide_eq_true_eq] at h; omega
theorem ImgOK.sym {im : Img} (h : ImgOK im) (i : Nat) (hi : i < im.2.2.length) : SymOK im (rd (τ := TSym) im.2.2 (i : Int)) ∧ FunG (rd (τ := TSym) im.2.2 (i : Int)) := by
  obtain ⟨E, hE, _⟩ := h.chain
  rw [rd_nat (τ := TSym) im.2.2 i hi]
  exact ⟨(chain_sym hE i hi).1, h.funs i hi⟩
theorem plS_fun {im : Img} {s : Sym} (hz : ImgSz im) (h : SymOK im s) (hk : s.2.1 = 1) : plS s = 4096 + s.2.2.1 := by
  have := h.func hk; have := h.at0; have := h.size; have := hz.c
  unfold plS
  rw [decide_eq_true hk, cond_true, w64 (by omega) (by omega)]
theorem plS_dat {im : Img} {s : Sym} (hz : ImgSz im) (h : SymOK im s) (hk : s.2.1 = 2) : plS s = 16384 + s.2.2.1 := by
  have := h.data hk; have := h.at0; have := h.size; have := hz.d
  unfold plS
  rw [decide_eq_false (by omega), cond_false, w64 (by omega) (by omega)]
theorem imgT_ok {im : Img} (h : ImgOK im) : LayR 0 (imgT im) (imgP im) (F0 im) (8192, 1024, 8192) (20480, 256, 20480) := by
  have hz := h.sz
  have hn := hz.n
  have hc := hz.c
  have hd := hz.d
  refine ⟨⟨by unfold imgT; rw [mapB_length]; omega, fun e he => ?_, ?_⟩, by unfold imgT; rw [mapB_length]; omega, fun i hi hk => ?_, ?_, F0_range im, ⟨⟨by decide, by decide, by decide⟩, ⟨by decide, by decide, by decide⟩, by decide, by decide, by decide⟩, rfl, rfl, ⟨⟨by decide, by decide, by decide⟩, ⟨by decide, by decide, by decide⟩, by decide, by decide, by decide⟩⟩
  · unfold imgT at he
    obtain ⟨i, _, hi, rfl⟩ := (mapB_mem _ _ _ _).1 he
    obtain ⟨hS, hG⟩ := h.sym i (by omega)
    unfold entI
    obtain ⟨s, hs⟩ : ∃ s : Sym, rd (τ := TSym) im.2.2 (i : Int) = s := ⟨_, rfl⟩
    rw [hs] at hS hG ⊢
    have h0 := hS.at0
    have h1 := hS.size
    unfold entOKV
    simp only
    rw [hS.name]
    rcases hS.kind with hk | hk
    · obtain ⟨g1, g2, g3⟩ := hG hk
      have hf := hS.func hk
      rw [plS_fun hz hS hk, g1, inR_iff.2 (show 1 ≤ s.2.2.2.1 ∧ s.2.2.2.1 ≤ 1024 by omega)]
      unfold kindV
      rw [decide_eq_true hk, g2]; rfl
    · have hf := hS.data hk
      rw [plS_dat hz hS hk, inR_iff.2 (show 1 ≤ s.2.2.2.1 ∧ s.2.2.2.1 ≤ 1024 by omega)]
      have hcode : codeAtV (16384 + s.2.2.1) = true := by
        unfold codeAtV
        rw [show (decide (0 ≤ 16384 + s.2.2.1) && decide (16384 + s.2.2.1 ≤ 1048575)) = true by simp; omega, cond_true, decide_eq_true_eq, Int.tmod_eq_emod_of_nonneg (by omega)]; omega
      rw [hcode]
      unfold kindV
      rw [decide_eq_true hk, decide_eq_true hf.2.2.2, decide_eq_false (show ¬ s.2.1 = 1 by omega)]; rfl
  · unfold imgT
    refine mapB_pair _ _ _ _ fun a b _ hab hb => ?_
    obtain ⟨E, hE, _⟩ := h.chain
    have := (chain_sym hE b (by omega)).2
    intro e
    unfold entI at e
    simp only at e
    rw [rd_nat (τ := TSym) im.2.2 a (by omega), rd_nat (τ := TSym) im.2.2 b (by omega)] at e
    unfold dupV at this
    have h2 : (im.2.2.take b).any (fun y => decide (y.1 = (im.2.2[b]'(by omega)).1)) = true := List.any_eq_true.2 ⟨im.2.2[a]'(by omega), List.mem_take_iff_getElem.2 ⟨a, by omega, rfl⟩, decide_eq_true e⟩
    rw [h2] at this
    cases this
  · unfold imgT at hi hk ⊢
    rw [mapB_length] at hi
    rw [rd_mapB (τ := TEnt) (entI im) _ _ hi] at hk ⊢
    obtain ⟨hS, hG⟩ := h.sym i hi
    unfold entI at hk ⊢
    simp only at hk ⊢
    obtain ⟨s, hs⟩ : ∃ s : Sym, rd (τ := TSym) im.2.2 (i : Int) = s := ⟨_, rfl⟩
    rw [hs] at hS hG hk ⊢
    have h0 := hS.at0
    have h1 := hS.size
    have hf := hS.func hk
    have h20 := funSz20 (hG hk).2.2
    rw [plS_fun hz hS hk]
    exact .inl ⟨by omega, by omega⟩
  · unfold imgP
    have := filtB_length (fun i => decide ((rd (τ := TSym) im.2.2 (i : Int)).2.1 = 1)) (fun i => (((i : Int), 0, plS (rd (τ := TSym) im.2.2 (i : Int)), (rd (τ := TSym) im.2.2 (i : Int)).2.2.2) : Pc)) im.2.2.length 0
    omega
def pcF (t : List Ent) (o : Obj) (l : Lnk) (owner : Int) (i : Nat) : Pc := (entV t (rd (τ := TFun) o.2.2.1 (i : Int)).1, owner, rd (τ := .int .i64) l.1 (i : Int), (fsz o i : Int), (rd (τ := TFun) o.2.2.1 (i : Int)).2.2.1)
theorem find_app {t u : List Ent} {n : ByteArray} (h : 0 ≤ entV t n) : entV (t ++ u) n = entV t n ∧ rd (τ := TEnt) (t ++ u) (entV t n) = rd (τ := TEnt) t (entV t n) := by
  have hrd : ∀ i : Nat, i < t.length → rd (τ := TEnt) (t ++ u) (i : Int) = rd (τ := TEnt) t (i : Int) := fun i hi => by
    rw [rd_nat (τ := TEnt) (t ++ u) i (by rw [List.length_append]; omega), rd_nat (τ := TEnt) t i hi, List.getElem_append_left hi]
  unfold entV at h ⊢
  rcases findB_spec (fun i => decide ((rd (τ := TEnt) t (i : Int)).1 = n)) t.length 0 with ⟨h1, h2⟩ | ⟨j, h1, h2, h3, h4, h5⟩
  · rw [h1] at h; exact absurd h (by decide)
  · rw [h1]
    rcases findB_spec (fun i => decide ((rd (τ := TEnt) (t ++ u) (i : Int)).1 = n)) (t ++ u).length 0 with ⟨g1, g2⟩ | ⟨k, g1, g2, g3, g4, g5⟩
    · have := g2 j (Nat.zero_le _) (by rw [List.length_append]; omega)
      rw [hrd j (by omega), h4] at this; cases this
    · have : k = j := by
        rcases Nat.lt_trichotomy k j with c | c | c
        · have := h5 k (Nat.zero_le _) c
          rw [hrd k (by omega)] at g4
          rw [this] at g4; cases g4
        · exact c
        · have := g5 j (Nat.zero_le _) c
          rw [hrd j (by omega), h4] at this; cases this
      rw [g1, this]
      exact ⟨rfl, hrd j (by omega)⟩
theorem newT_fin {t : List Ent} {o : Obj} {l : Lnk} {owner : Int} (hf : FunIn t) (ho : ObjOK o) (hp : InPatch o l) : FunIn (newT t o l owner) := by
  intro i hi hk
  have hm := rd_mem_list (τ := TEnt) (newT t o l owner) i hi
  generalize rd (τ := TEnt) (newT t o l owner) (i : Int) = e at *
  unfold newT at hm
  rcases List.mem_append.1 hm with hm | hm
  · rcases List.mem_append.1 hm with hm | hm
    · obtain ⟨j, hj, rfl⟩ := mem_rd (τ := TEnt) hm
      exact hf j hj hk
    · obtain ⟨j, _, hj, _, rfl⟩ := filtB_mem _ _ _ _ _ hm
      obtain ⟨x, hx, h1, h2, h3⟩ := hp j (by omega)
      have := ho.fsz_pos j (by omega)
      unfold entF
      simp only [hx]
      exact .inr ⟨h1, by omega⟩
  · obtain ⟨j, _, hj, rfl⟩ := (mapB_mem _ _ _ _).1 hm
    unfold entD at hk
    exact absurd hk (show ¬ ((2 : Int) = 1) by decide)
theorem impl_pcs (t : List Ent) (o : Obj) (l : Lnk) (owner : Int) (ht : t.length ≤ 64) (hz : ObjSz o) (hl : LnkR o l) (P : List Pc) (hP : P.length ≤ 100) (r : List Page × Area × Area) (x6 : Lnk) :
    Z6.a (t, P, r) owner o x6 l o.2.2.1 (o.2.2.1.length : Int) 0 = (Z5 r.1 t o l).bind fun r3 => some (l, r3.2, 0, t, P ++ mapB (pcF t o l owner) 0 o.2.2.1.length, r3.1, r.2) := by
  have h1 := hz.f
  rw [loop_map0 (L := fun acc i => Z6.a (t, acc, r) owner o x6 l o.2.2.1 (o.2.2.1.length : Int) i) (pcF t o l owner) o.2.2.1.length P fun acc i hi ha => ?_]
  · rw [Z6.a_eq, lt_nat, decide_eq_false (Nat.lt_irrefl _), cond_false]
  · show Z6.a (t, acc, r) owner o x6 l o.2.2.1 (o.2.2.1.length : Int) (i : Int) = _
    rw [Z6.a_eq, lt_nat, inL_nat, decide_eq_true hi, w64_succ i _ hi (by omega), (ent_val t _ (by omega)).1]
    simp only [cond_true, Option.bind_some]
    rw [inL_nat, show decide (i < l.1.length) = true from decide_eq_true (by rw [hl.a]; exact hi), room40 _ (by simp; omega)]; rfl
theorem spec_pcs (t : List Ent) (o : Obj) (l : Lnk) (owner : Int) (ht : t.length ≤ 64) (hz : ObjSz o) (hl : LnkR o l) (P : List Pc) (hP : P.length ≤ 100) (y : LayS) (a b : Area) (x12 : LayS) :
    Z51.a owner y o l a b x12 t P 0 = (Z50 y.2.2.2.2 t o l).bind fun r2 => some ((t, a, b, P ++ mapB (pcF t o l owner) 0 o.2.2.1.length, r2.1), r2.2) := by
  have h1 := hz.f
  rw [loop_map0 (L := fun acc i => Z51.a owner y o l a b x12 t acc i) (pcF t o l owner) o.2.2.1.length P fun acc i hi ha => ?_]
  · rw [Z51.a_eq, lt_nat, decide_eq_false (Nat.lt_irrefl _), cond_false]
  · show Z51.a owner y o l a b x12 t acc (i : Int) = _
    rw [Z51.a_eq, lt_nat, inL_nat, decide_eq_true hi, w64_succ i _ hi (by omega), (ent_val t _ (by omega)).2]
    simp only [cond_true, Option.bind_some]
    rw [inL_nat, inL_nat, show decide (i < l.1.length) = true from decide_eq_true (by rw [hl.a]; exact hi), show decide (i < l.2.1.length) = true from decide_eq_true (by rw [hl.c]; exact hi), hl.cs i hi, room40 _ (by simp; omega)]; rfl
theorem add_both (n : Nat) (hn : n ≤ 5) (t : List Ent) (P : List Pc) (F : Int → Int) (a b : Area) (hL : LayR n t P F a b) (o : Obj) (hr : RelsR o) (ho : objV o = true) :
    ∃ v, Z4t t a b o = some v ∧ (v.2.2.2 ≠ 0 → ∃ x, Z6 (t, P, memF F BL, a, b) o ((n + 1 : Nat) : Int) = some (x, [], v.2.2.2, (t, P, memF F BL, a, b))) ∧
      (v.2.2.2 = 0 → ∃ (t' : List Ent) (P' : List Pc) (F' : Int → Int) (sv : List (Int × Int)), sv.length ≤ 4 ∧ LayR (n + 1) t' P' F' v.2.1 v.2.2.1 ∧ LnkR o v.1 ∧
        Z6 (t, P, memF F BL, a, b) o ((n + 1 : Nat) : Int) = some (v.1, sv, 0, (t', P', memF F' BL, v.2.1, v.2.2.1)) ∧
        Z51 (t, a, b, P, memF F BL) o v.1 v.2.1 v.2.2.1 ((n + 1 : Nat) : Int) = some ((t', v.2.1, v.2.2.1, P', memF F' BL), sv)) := by
  have hO := objOK_of ho
  have hlen := hL.len
  have hpl := hL.pl
  have htab := tabV_iff.2 hL.tab
  obtain ⟨v, e1, e2, e3⟩ := link_both t a b o hr htab hL.aR hL.bR ho
  refine ⟨v, e2, fun hv => ?_, fun hv => ?_⟩
  · rw [Z6_eq]
    simp only
    rw [e1]
    simp only [Option.bind_some]
    rw [decide_eq_false hv]
    exact ⟨_, rfl⟩
  · have hR := e3 hv
    have hl := hR.lnk
    have hp := inPatch_of hR hL.aR hL.a1 hL.a2
    obtain ⟨n1, n2⟩ := namesC_zero hR.names
    have hT := newT_ok (owner := ((n + 1 : Nat) : Int)) hL.tab hO hl hR.names (by omega) (by omega)
    have hTf := newT_fin (owner := ((n + 1 : Nat) : Int)) hL.fin hO hp
    have hTl := newT_length t o v.1 ((n + 1 : Nat) : Int) hO.toObjSz
    have hTr : ∀ i : Nat, i < o.2.2.1.length → (rd (τ := TFun) o.2.2.1 (i : Int)).2.1 = true → 0 ≤ entV (newT t o v.1 ((n + 1 : Nat) : Int)) (rd (τ := TFun) o.2.2.1 (i : Int)).1 ∧ (rd (τ := TEnt) (newT t o v.1 ((n + 1 : Nat) : Int)) (entV (newT t o v.1 ((n + 1 : Nat) : Int)) (rd (τ := TFun) o.2.2.1 (i : Int)).1)).2.1 = 1 := by
      intro i hi hrr
      obtain ⟨g1, g2⟩ := nfC_old (n1 i hi) hrr
      unfold newT
      rw [List.append_assoc]
      obtain ⟨f1, f2⟩ := find_app (u := filtB (fun i => !(rd (τ := TFun) o.2.2.1 (i : Int)).2.1) (entF o v.1 ((n + 1 : Nat) : Int)) 0 o.2.2.1.length ++ mapB (entD o v.1 ((n + 1 : Nat) : Int)) 0 o.2.2.2.1.length) g1
      rw [f1, f2]; exact ⟨g1, g2⟩
    generalize hTn : newT t o v.1 ((n + 1 : Nat) : Int) = T at *
    obtain ⟨c1, c2⟩ := codes_both o v.1 T hO.toObjSz hl hp [] o.2.2.1.length 0 F hL.fr (by omega)
    obtain ⟨F', sv, hF', hsv, j1, j2⟩ := jumps_both o v.1 T hT.len hO.toObjSz hl hp hTf hTr o.2.2.1.length 0 (codesF F v.1 0 o.2.2.1.length) [] (codesF_range v.1 _ _ F hL.fr) (by omega) (by simp)
    have hi : Z5 (memF F BL) T o v.1 = some (memF F' BL, sv) := by rw [Z5_eq]; exact c1.trans j1
    have hs : Z50 (memF F BL) T o v.1 = some (memF F' BL, sv) := by rw [Z50_eq]; exact c2.trans j2
    have hf4 := hO.f
    obtain ⟨_, hA, hB⟩ := layV_lnk o hO a b hL.aR hL.bR
    refine ⟨T, P ++ mapB (pcF T o v.1 ((n + 1 : Nat) : Int)) 0 o.2.2.1.length, F', sv, by omega, ⟨hT, by omega, hTf, by rw [List.length_append, mapB_length]; omega, hF', by rw [hR.ea]; exact hA, ?_, ?_, by rw [hR.eb]; exact hB⟩, hl, ?_, ?_⟩
    · rw [hR.ea]; exact (plB_base _ _ _ _).1.trans hL.a1
    · rw [hR.ea]; exact (plB_base _ _ _ _).2.trans hL.a2
    · rw [Z6_eq]
      simp only
      rw [e1]
      simp only [Option.bind_some]
      rw [hv, Z0_eq, decide_eq_false (show ¬ (t.length : Int) > 4096 by omega), (table_val t).1, htab, (object_val o hr).1, ho, impl_fits_val o v.1 hO.toObjSz hl, (in_val _ _ _).1, inR_iff.2 (show 1 ≤ ((n + 1 : Nat) : Int) ∧ ((n + 1 : Nat) : Int) ≤ 6 by omega), impl_tableWith_val t o v.1 _ (by omega) hO.toObjSz hl, hTn]
      simp only [decide_true, Bool.not_true, cond_false, Option.bind_some, joinB]
      rw [(table_val T).1, tabV_iff.2 hT]
      simp only [decide_true, Bool.not_true, cond_false, Option.bind_some]
      rw [impl_pcs T o v.1 _ hT.len hO.toObjSz hl P (by omega)]
      simp only
      rw [hi]; rfl
    · rw [Z51_eq]
      simp only
      rw [spec_with_val t o v.1 _ (by omega) hO.toObjSz hl, hTn]
      simp only [Option.bind_some]
      rw [room40 _ (by omega), cond_true, spec_pcs T o v.1 _ hT.len hO.toObjSz hl P (by omega)]
      simp only
      rw [hs]; rfl
theorem equal_gen {L : Int → Option Bool} {n m : Nat} (p : Nat → Bool) (hend : n = m → L (n : Int) = some true) (hstep : n = m → ∀ i : Nat, i < n → L (i : Int) = bif p i then L ((i + 1 : Nat) : Int) else some false) :
    (bif (!decide ((n : Int) = (m : Int))) then some false else L 0) = some (decide (n = m) && allB p 0 n) := by
  by_cases h : n = m
  · rw [decide_eq_true (show (n : Int) = (m : Int) by omega), decide_eq_true h, loop_all0 p n (hend h) (hstep h)]; rfl
  · rw [decide_eq_false (show ¬ (n : Int) = (m : Int) by omega), decide_eq_false h]; rfl
def eqI (a b : List Int) : Bool := decide (a.length = b.length) && allB (fun i => decide ((rd (τ := .int .i64) a (i : Int) : Int) = rd (τ := .int .i64) b (i : Int))) 0 a.length
def eqS (a b : List ByteArray) : Bool := decide (a.length = b.length) && allB (fun i => decide ((rd (τ := .str) a (i : Int) : ByteArray) = rd (τ := .str) b (i : Int))) 0 a.length
theorem eqI_val (a b : List Int) (h : a.length ≤ 1048576) : Z7 a b = some (eqI a b) ∧ Z4u a b = some (eqI a b) := by
  rw [Z7_eq, Z4u_eq]
  constructor
  · refine equal_gen (L := Z7.a a b (a.length : Int)) _ (fun _ => ?_) fun hl i hi => ?_
    · rw [Z7.a_eq, lt_nat, decide_eq_false (Nat.lt_irrefl _), cond_false]
    · rw [Z7.a_eq, lt_nat, inL_nat, inL_nat, decide_eq_true hi, decide_eq_true (show i < b.length by omega), w64_succ i _ hi (by omega)]
      simp only [cond_true]
      cases decide ((rd (τ := .int .i64) a (i : Int) : Int) = rd (τ := .int .i64) b (i : Int)) <;> rfl
  · refine equal_gen (L := Z4u.a a b) _ (fun _ => ?_) fun hl i hi => ?_
    · rw [Z4u.a_eq, lt_nat, decide_eq_false (Nat.lt_irrefl _), cond_false]
    · rw [Z4u.a_eq, lt_nat, inL_nat, inL_nat, decide_eq_true hi, decide_eq_true (show i < b.length by omega), w64_succ i _ hi (by omega)]
      simp only [cond_true]
      cases decide ((rd (τ := .int .i64) a (i : Int) : Int) = rd (τ := .int .i64) b (i : Int)) <;> rfl
theorem eqS_val (a b : List ByteArray) (h : a.length ≤ 1048576) : Z8 a b = some (eqS a b) ∧ Z4v a b = some (eqS a b) := by
  rw [Z8_eq, Z4v_eq]
  constructor
  · refine equal_gen (L := Z8.a a b (a.length : Int)) _ (fun _ => ?_) fun hl i hi => ?_
    · rw [Z8.a_eq, lt_nat, decide_eq_false (Nat.lt_irrefl _), cond_false]
    · rw [Z8.a_eq, lt_nat, inL_nat, inL_nat, decide_eq_true hi, decide_eq_true (show i < b.length by omega), w64_succ i _ hi (by omega), strEq_dec]
      simp only [cond_true]
      cases decide ((rd (τ := .str) a (i : Int) : ByteArray) = rd (τ := .str) b (i : Int)) <;> rfl
  · refine equal_gen (L := Z4v.a a b) _ (fun _ => ?_) fun hl i hi => ?_
    · rw [Z4v.a_eq, lt_nat, decide_eq_false (Nat.lt_irrefl _), cond_false]
    · rw [Z4v.a_eq, lt_nat, inL_nat, inL_nat, decide_eq_true hi, decide_eq_true (show i < b.length by omega), w64_succ i _ hi (by omega), strEq_dec]
      simp only [cond_true]
      cases decide ((rd (τ := .str) a (i : Int) : ByteArray) = rd (τ := .str) b (i : Int)) <;> rfl
def linkedEq (a b : Lnk) : Bool := eqI a.1 b.1 && (eqS a.2.1 b.2.1 && (eqI a.2.2.1 b.2.2.1 && eqS a.2.2.2 b.2.2.2))
theorem linked_val (a b : Lnk) (h1 : a.1.length ≤ 1048576) (h2 : a.2.1.length ≤ 1048576) (h3 : a.2.2.1.length ≤ 1048576) (h4 : a.2.2.2.length ≤ 1048576) : Z9 a b = some (linkedEq a b) ∧ Z4w a b = some (linkedEq a b) := by
  rw [Z9_eq, Z4w_eq, (eqI_val _ _ h1).1, (eqI_val _ _ h1).2, (eqS_val _ _ h2).1, (eqS_val _ _ h2).2, (eqI_val _ _ h3).1, (eqI_val _ _ h3).2, (eqS_val _ _ h4).1, (eqS_val _ _ h4).2]
  unfold linkedEq
  simp only [Option.bind_some]
  cases eqI a.1 b.1 <;> cases eqS a.2.1 b.2.1 <;> cases eqI a.2.2.1 b.2.2.1 <;> exact ⟨rfl, rfl⟩
abbrev Sv : Type := Int × Int
def eqSv (a b : List Sv) : Bool := decide (a.length = b.length) && allB (fun i => eqD TI2 (rd (τ := TI2) a (i : Int)) (rd (τ := TI2) b (i : Int))) 0 a.length
theorem eqSv_val (a b : List Sv) (h : a.length ≤ 1048576) : Za a b = some (eqSv a b) ∧ Z52 a b = some (eqSv a b) := by
  rw [Za_eq, Z52_eq]
  constructor
  · refine equal_gen (L := Za.a a b (a.length : Int)) _ (fun _ => ?_) fun hl i hi => ?_
    · rw [Za.a_eq, lt_nat, decide_eq_false (Nat.lt_irrefl _), cond_false]
    · rw [Za.a_eq, lt_nat, inL_nat, inL_nat, decide_eq_true hi, decide_eq_true (show i < b.length by omega), w64_succ i _ hi (by omega)]
      simp only [cond_true]
      cases eqD TI2 (rd (τ := TI2) a (i : Int)) (rd (τ := TI2) b (i : Int)) <;> rfl
  · refine equal_gen (L := Z52.a a b) _ (fun _ => ?_) fun hl i hi => ?_
    · rw [Z52.a_eq, lt_nat, decide_eq_false (Nat.lt_irrefl _), cond_false]
    · rw [Z52.a_eq, lt_nat, inL_nat, inL_nat, decide_eq_true hi, decide_eq_true (show i < b.length by omega), w64_succ i _ hi (by omega)]
      simp only [cond_true]
      cases eqD TI2 (rd (τ := TI2) a (i : Int)) (rd (τ := TI2) b (i : Int)) <;> rfl
def eqT (a b : List Ent) : Bool := decide (a.length = b.length) && allB (fun i => eqD TEnt (rd (τ := TEnt) a (i : Int)) (rd (τ := TEnt) b (i : Int))) 0 a.length
theorem eqT_val (a b : List Ent) (h : a.length ≤ 1048576) : Zr a b = some (eqT a b) ∧ Z54 a b = some (eqT a b) := by
  rw [Zr_eq, Z54_eq]
  constructor
  · refine equal_gen (L := Zr.a a b (a.length : Int)) _ (fun _ => ?_) fun hl i hi => ?_
    · rw [Zr.a_eq, lt_nat, decide_eq_false (Nat.lt_irrefl _), cond_false]
    · rw [Zr.a_eq, lt_nat, inL_nat, inL_nat, decide_eq_true hi, decide_eq_true (show i < b.length by omega), w64_succ i _ hi (by omega)]
      simp only [cond_true]
      cases eqD TEnt (rd (τ := TEnt) a (i : Int)) (rd (τ := TEnt) b (i : Int)) <;> rfl
  · refine equal_gen (L := Z54.a a b) _ (fun _ => ?_) fun hl i hi => ?_
    · rw [Z54.a_eq, lt_nat, decide_eq_false (Nat.lt_irrefl _), cond_false]
    · rw [Z54.a_eq, lt_nat, inL_nat, inL_nat, decide_eq_true hi, decide_eq_true (show i < b.length by omega), w64_succ i _ hi (by omega)]
      simp only [cond_true]
      cases eqD TEnt (rd (τ := TEnt) a (i : Int)) (rd (τ := TEnt) b (i : Int)) <;> rfl
def likeP (a b : Page) : Bool := decide (a.1 = b.1) && (decide (a.2.1 = b.2.1) && (!decide (a.2.1 = 4) || decide (a.2.2 = b.2.2)))
def likeV (a b : List Page) : Bool := decide (a.length = b.length) && allB (fun i => likeP (rd (τ := TPage) a (i : Int)) (rd (τ := TPage) b (i : Int))) 0 a.length
theorem like_val (a b : List Page) (h : a.length ≤ 1048576) : Zu a b = some (likeV a b) ∧ Z55 a b = some (likeV a b) := by
  rw [Zu_eq, Zt_eq, Z55_eq]
  constructor
  · rw [equal_gen (L := Zt.a b a (a.length : Int)) (fun i => likeP (rd (τ := TPage) a (i : Int)) (rd (τ := TPage) b (i : Int))) (fun _ => ?_) fun hl i hi => ?_]
    · rfl
    · rw [Zt.a_eq, lt_nat, decide_eq_false (Nat.lt_irrefl _), cond_false]
    · rw [Zt.a_eq, lt_nat, inL_nat, inL_nat, decide_eq_true hi, decide_eq_true (show i < b.length by omega), w64_succ i _ hi (by omega), Zs_eq, strEq_dec]
      unfold likeP
      simp only [cond_true]
      generalize rd (τ := TPage) a (i : Int) = x
      generalize rd (τ := TPage) b (i : Int) = y
      cases decide (x.1 = y.1) <;> cases decide (x.2.1 = y.2.1) <;> cases decide (x.2.1 = 4) <;> cases decide (x.2.2 = y.2.2) <;> rfl
  · refine equal_gen (L := Z55.a a b) _ (fun _ => ?_) fun hl i hi => ?_
    · rw [Z55.a_eq, lt_nat, decide_eq_false (Nat.lt_irrefl _), cond_false]
    · rw [Z55.a_eq, lt_nat, inL_nat, inL_nat, decide_eq_true hi, decide_eq_true (show i < b.length by omega), w64_succ i _ hi (by omega), strEq_dec]
      unfold likeP
      simp only [cond_true]
      generalize rd (τ := TPage) a (i : Int) = x
      generalize rd (τ := TPage) b (i : Int) = y
      cases decide (x.1 = y.1) <;> cases decide (x.2.1 = y.2.1) <;> cases decide (x.2.1 = 4) <;> cases decide (x.2.2 = y.2.2) <;> rfl
def declV (o : Obj) (id : Int) : Bool := anyB (fun k => decide ((rd (τ := TDcl) o.2.2.2.2.2 (k : Int)).1 = id)) 0 o.2.2.2.2.2.length
def shareV (q o : Obj) : Bool := anyB (fun i => declV o (rd (τ := TDcl) q.2.2.2.2.2 (i : Int)).1) 0 q.2.2.2.2.2.length
theorem decl_val (o : Obj) (hz : ObjSz o) (id : Int) : Z7o o id = some (declV o id) := by
  have h := hz.s
  rw [Z7o_eq, Z7n_eq, Z7m_eq]
  rw [loop_find0 (L := Z7m.a id o.2.2.2.2.2 (o.2.2.2.2.2.length : Int)) (fun k => decide ((rd (τ := TDcl) o.2.2.2.2.2 (k : Int)).1 = id)) o.2.2.2.2.2.length ?_ fun i hi => ?_]
  · simp only [Option.bind_some]; rw [find_any]; rfl
  · rw [Z7m.a_eq, lt_nat]; simp
  · rw [Z7m.a_eq, lt_nat, inL_nat, decide_eq_true hi, w64_succ i _ hi (by omega), Z7l_eq]; rfl
theorem share_val (q o : Obj) (hq : ObjSz q) (ho : ObjSz o) : Z7s q o = some (shareV q o) := by
  have h := hq.s
  rw [Z7s_eq, Z7r_eq, Z7q_eq]
  rw [loop_find0 (L := Z7q.a o q.2.2.2.2.2 (q.2.2.2.2.2.length : Int)) (fun i => declV o (rd (τ := TDcl) q.2.2.2.2.2 (i : Int)).1) q.2.2.2.2.2.length ?_ fun i hi => ?_]
  · simp only [Option.bind_some]; rw [find_any]; rfl
  · rw [Z7q.a_eq, lt_nat]; simp
  · rw [Z7q.a_eq, lt_nat, inL_nat, decide_eq_true hi, w64_succ i _ hi (by omega), Z7p_eq, decl_val o ho]; rfl
abbrev TObj : Ty := .pair .str (.pair (.int .i64) (.pair (.list TFun) (.pair (.list TDat) (.pair (.list TRel) (.list TDcl)))))
abbrev TLnk : Ty := .pair (.list (.int .i64)) (.pair (.list .str) (.pair (.list (.int .i64)) (.list .str)))
abbrev TPat : Ty := .pair TObj (.pair TLnk (.list TI2))
abbrev Pat : Type := Obj × Lnk × List Sv
def nameAny (ps : List Pat) (o : Obj) : Bool := anyB (fun j => decide ((rd (τ := TPat) ps (j : Int)).1.1 = o.1)) 0 ps.length
def shareAny (ps : List Pat) (o : Obj) : Bool := anyB (fun j => shareV (rd (τ := TPat) ps (j : Int)).1 o) 0 ps.length
theorem decl_sym (o : Obj) (id : Int) : anyB (fun k => decide (id = (rd (τ := TDcl) o.2.2.2.2.2 (k : Int)).1)) 0 o.2.2.2.2.2.length = declV o id := by
  unfold declV
  have e : (fun k : Nat => decide (id = (rd (τ := TDcl) o.2.2.2.2.2 (k : Int)).1)) = fun k : Nat => decide ((rd (τ := TDcl) o.2.2.2.2.2 (k : Int)).1 = id) := by
    funext k
    congr 1
    exact propext ⟨Eq.symm, Eq.symm⟩
  rw [e]
theorem spec_share (ps : List Pat) (o : Obj) (hp : ps.length ≤ 6) (hz : ∀ j : Nat, j < ps.length → ObjSz (rd (τ := TPat) ps (j : Int)).1) (ho : ObjSz o) : Z4h.b ps o 0 = bif shareAny ps o then some 30 else some 0 := by
  have hs := ho.s
  rw [loop_any0 (L := Z4h.b ps o) (fun j => shareV (rd (τ := TPat) ps (j : Int)).1 o) ps.length (some 30) fun j hj => ?_]
  · rw [Z4h.b_eq, lt_nat, decide_eq_false (Nat.lt_irrefl _), cond_false]; rfl
  · obtain ⟨q, hq⟩ : ∃ q : Obj, (rd (τ := TPat) ps (j : Int)).1 = q := ⟨_, rfl⟩
    have hqz := hz j hj
    rw [hq] at hqz ⊢
    have hqs := hqz.s
    rw [Z4h.b_eq, lt_nat, inL_nat, decide_eq_true hj, cond_true, cond_true, hq]
    rw [loop_any0 (L := Z4h.c ps o (j : Int) q.2.2.2.2.2) (fun k => declV o (rd (τ := TDcl) q.2.2.2.2.2 (k : Int)).1) q.2.2.2.2.2.length (some 30) fun k hk => ?_]
    · rw [Z4h.c_eq, lt_nat, decide_eq_false (Nat.lt_irrefl _), cond_false, w64_succ j _ hj (by omega)]; rfl
    · rw [Z4h.c_eq, lt_nat, decide_eq_true hk, cond_true]
      rw [loop_any0 (L := Z4h.d ps o (j : Int) q.2.2.2.2.2 (k : Int)) (fun n => decide ((rd (τ := TDcl) q.2.2.2.2.2 (k : Int)).1 = (rd (τ := TDcl) o.2.2.2.2.2 (n : Int)).1)) o.2.2.2.2.2.length (some 30) fun n hn => ?_]
      · rw [Z4h.d_eq, lt_nat, decide_eq_false (Nat.lt_irrefl _), cond_false, w64_succ k _ hk (by omega), decl_sym]
      · rw [Z4h.d_eq, lt_nat, inL_nat, inL_nat, decide_eq_true hn, decide_eq_true hk, w64_succ n _ hn (by omega)]
        simp only [cond_true]
theorem spec_names14 (ps : List Pat) (o : Obj) (hp : ps.length ≤ 6) (hz : ∀ j : Nat, j < ps.length → ObjSz (rd (τ := TPat) ps (j : Int)).1) (ho : ObjSz o) : Z4h ps o = some (bif nameAny ps o then 24 else bif shareAny ps o then 30 else 0) := by
  rw [Z4h_eq, loop_any0 (L := Z4h.a ps o) (fun j => decide ((rd (τ := TPat) ps (j : Int)).1.1 = o.1)) ps.length (some 24) fun j hj => ?_]
  · rw [Z4h.a_eq, lt_nat, decide_eq_false (Nat.lt_irrefl _), cond_false, spec_share ps o hp hz ho]
    show (bif nameAny ps o then _ else _) = _
    cases nameAny ps o <;> cases shareAny ps o <;> rfl
  · rw [Z4h.a_eq, lt_nat, inL_nat, decide_eq_true hj, w64_succ j _ hj (by omega), strEq_dec]
    simp only [cond_true]
theorem anyB_or (p q : Nat → Bool) : ∀ k i, anyB (fun j => p j || q j) i k = (anyB p i k || anyB q i k)
  | 0, _ => rfl
  | k + 1, i => by
    rw [anyB, anyB, anyB, anyB_or p q k (i + 1)]
    cases p i <;> cases q i <;> simp
abbrev Sys : Type := Img × Mac × List Pat
def PatsR (ps : List Pat) : Prop := ∀ j : Nat, j < ps.length → RelsR (rd (τ := TPat) ps (j : Int)).1
abbrev ZI : LayI := ([], [], [], (0, 0, 0), 0, 0, 0)
theorem rd_take {τ : Ty} (l : List τ.den) (n j : Nat) (hj : j < n) (hn : n ≤ l.length) : rd (τ := τ) (l.take n) (j : Int) = rd (τ := τ) l (j : Int) := by
  rw [rd_nat _ _ (by rw [List.length_take]; omega), rd_nat _ _ (by omega), List.getElem_take]
theorem lay_loop (ps : List Pat) (hp : ps.length ≤ 6) (hW : PatsR ps) (saved : Bool) (x6 : LayI) (x6' : LayS) : ∀ (k i : Nat) (t : List Ent) (P : List Pc) (F : Int → Int) (a b : Area), i + k = ps.length → LayR i t P F a b → (∀ j : Nat, j < i → objV (rd (τ := TPat) ps (j : Int)).1 = true) →
    ∃ rI rS, Zb.a ps saved ZI (t, P, memF F BL, a, b) ps (ps.length : Int) (i : Int) = some rI ∧ Z53.a ps saved x6' (t, a, b, P, memF F BL) (i : Int) = some rS ∧ rI.2 = rS.2 ∧
      (rI.2 = true → ∃ t' P' F' a' b', rI.1 = (t', P', memF F' BL, a', b') ∧ rS.1 = (t', a', b', P', memF F' BL) ∧ LayR ps.length t' P' F' a' b') := by
  intro k
  induction k with
  | zero =>
    intro i t P F a b h hL hO
    have : i = ps.length := by omega
    subst this
    rw [Zb.a_eq, lt_nat, decide_eq_false (Nat.lt_irrefl _), cond_false, Z53.a_eq, lt_nat, decide_eq_false (Nat.lt_irrefl _), cond_false]
    exact ⟨_, _, rfl, rfl, rfl, fun _ => ⟨t, P, F, a, b, rfl, rfl, hL⟩⟩
  | succ k ih =>
    intro i t P F a b h hL hO
    have hi : i < ps.length := by omega
    have hr := hW i hi
    rw [Zb.a_eq, lt_nat, inL_nat, decide_eq_true hi, Z53.a_eq, lt_nat, decide_eq_true hi]
    simp only [inL_nat, decide_eq_true hi, cond_true, joinB]
    obtain ⟨p, hpe⟩ : ∃ p : Pat, rd (τ := TPat) ps (i : Int) = p := ⟨_, rfl⟩
    rw [hpe] at hr ⊢
    rw [(object_val p.1 hr).1, (object_val p.1 hr).2]
    simp only [Option.bind_some]
    cases hob : objV p.1 with
    | false => exact ⟨_, _, rfl, rfl, rfl, fun h => by cases h⟩
    | true =>
      simp only [Bool.not_true, cond_false]
      by_cases hdep : p.1.2.1 = (i : Int)
      · rw [decide_eq_true hdep, range_true i _ (by omega), take_drop0]
        simp only [Bool.not_true, cond_false, cond_true]
        have hpo := objOK_of hob
        have hlt : (ps.take i).length = i := by rw [List.length_take]; omega
        have hsz : ∀ j : Nat, j < (ps.take i).length → ObjSz (rd (τ := TPat) (ps.take i) (j : Int)).1 := fun j hj => by
          rw [hlt] at hj
          rw [rd_take (τ := TPat) ps i j hj (by omega)]
          exact (objOK_of (hO j hj)).toObjSz
        rw [spec_names14 (ps.take i) p.1 (by omega) hsz hpo.toObjSz]
        simp only [Option.bind_some]
        rw [loop_any0 (L := Zb.b ps saved ZI (t, P, memF F BL, a, b) (i : Int) p ps (ps.length : Int) (i : Int) (ps.take i) ((ps.take i).length : Int)) (fun j => decide ((rd (τ := TPat) (ps.take i) (j : Int)).1.1 = p.1.1) || shareV (rd (τ := TPat) (ps.take i) (j : Int)).1 p.1) (ps.take i).length (some (ZI, false)) fun j hj => ?_]
        · rw [anyB_or]
          show ∃ rI rS, (bif (nameAny (ps.take i) p.1 || shareAny (ps.take i) p.1) then _ else _) = some rI ∧ _
          cases hna : nameAny (ps.take i) p.1 with
          | true => exact ⟨_, _, rfl, rfl, rfl, fun h => by cases h⟩
          | false =>
            cases hsa : shareAny (ps.take i) p.1 with
            | true => exact ⟨_, _, rfl, rfl, rfl, fun h => by cases h⟩
            | false =>
              simp only [Bool.or_self, cond_false, decide_true, Bool.not_true]
              rw [Zb.b_eq, lt_nat, decide_eq_false (Nat.lt_irrefl _), cond_false, w64_succ i ps.length hi (by omega)]
              obtain ⟨v, e1, e2, e3⟩ := add_both i (by omega) t P F a b hL p.1 hr hob
              rw [e1]
              simp only [Option.bind_some, joinB]
              by_cases hv : v.2.2.2 = 0
              · obtain ⟨t', P', F', sv, hsv, hL', hl', g1, g2⟩ := e3 hv
                rw [g1, hv]
                simp only [Option.bind_some, decide_true, Bool.not_true, cond_false]
                have hof := hpo.f
                have hod := hpo.d
                obtain ⟨q1, q2⟩ := linked_val v.1 p.2.1 (by rw [hl'.a]; omega) (by rw [hl'.c]; omega) (by rw [hl'.d]; omega) (by rw [hl'.b]; omega)
                rw [q1, q2]
                simp only [Option.bind_some]
                have hnext := ih (i + 1) t' P' F' v.2.1 v.2.2.1 (by omega) hL' fun j hj => by
                  by_cases e : j = i
                  · rw [e, hpe]; exact hob
                  · exact hO j (by omega)
                cases linkedEq v.1 p.2.1 with
                | false => cases saved <;> exact ⟨_, _, rfl, rfl, rfl, fun h => by cases h⟩
                | true =>
                  simp only [Bool.not_true, cond_false]
                  rw [g2]
                  simp only [Option.bind_some]
                  cases saved with
                  | true =>
                    simp only [Bool.not_true, cond_false, cond_true]
                    rw [(eqSv_val sv p.2.2 (by omega)).1, (eqSv_val sv p.2.2 (by omega)).2]
                    simp only [Option.bind_some]
                    cases eqSv sv p.2.2 with
                    | false => exact ⟨_, _, rfl, rfl, rfl, fun h => by cases h⟩
                    | true => exact hnext
                  | false =>
                    simp only [Bool.not_false, cond_true, cond_false]
                    rw [(eqSv_val [] p.2.2 (by simp)).1]
                    simp only [Option.bind_some]
                    have e : eqSv [] p.2.2 = !decide ((p.2.2.length : Int) > 0) := by
                      unfold eqSv
                      rw [show allB (fun i => eqD TI2 (rd (τ := TI2) ([] : List Sv) (i : Int)) (rd (τ := TI2) p.2.2 (i : Int))) 0 ([] : List Sv).length = true from rfl, Bool.and_true, ← decide_not]
                      congr 1
                      apply propext
                      simp only [List.length_nil]
                      omega
                    rw [e]
                    cases decide ((p.2.2.length : Int) > 0) with
                    | true => exact ⟨_, _, rfl, rfl, rfl, fun h => by cases h⟩
                    | false => exact hnext
              · obtain ⟨x, g1⟩ := e2 hv
                rw [g1]
                simp only [Option.bind_some]
                rw [decide_eq_false hv]
                cases saved <;> exact ⟨_, _, rfl, rfl, rfl, fun h => by cases h⟩
        · have hj2 := hj
          rw [hlt] at hj2
          rw [Zb.b_eq, lt_nat, inL_nat, decide_eq_true hj, w64_succ j _ hj (by omega), share_val _ _ (hsz j hj) hpo.toObjSz, strEq_dec]
          simp only [cond_true, Option.bind_some]
          cases decide ((rd (τ := TPat) (ps.take i) (j : Int)).1.1 = p.1.1) <;> cases shareV (rd (τ := TPat) (ps.take i) (j : Int)).1 p.1 <;> rfl
      · rw [decide_eq_false hdep]
        exact ⟨_, _, rfl, rfl, rfl, fun h => by cases h⟩
theorem layout_both (im : Img) (him : imgV im = true) (ps : List Pat) (hW : PatsR ps) (saved : Bool) :
    ∃ rI rS, Zb im ps saved = some rI ∧ Z53 im ps saved = some rS ∧ rI.2 = rS.2 ∧
      (rI.2 = true → ∃ t' P' F' a' b', rI.1 = (t', P', memF F' BL, a', b') ∧ rS.1 = (t', a', b', P', memF F' BL) ∧ LayR ps.length t' P' F' a' b') := by
  obtain ⟨i1, i2, i3⟩ := imageOK_val im
  have hI := i3 him
  obtain ⟨n1, n2⟩ := new_val im hI.sz
  rw [Zb_eq, Z53_eq, i1, him, n2]
  simp only [Option.bind_some, joinB, Bool.not_true, cond_false]
  rcases Nat.lt_or_ge 6 ps.length with h | h
  · rw [decide_eq_true (show (ps.length : Int) > 6 by omega)]
    exact ⟨_, _, rfl, rfl, rfl, fun h => by cases h⟩
  · rw [decide_eq_false (show ¬ (ps.length : Int) > 6 by omega), n1]
    simp only [Option.bind_some, cond_false]
    exact lay_loop ps h hW saved ZI ([], (0, 0, 0), (0, 0, 0), [], []) ps.length 0 (imgT im) (imgP im) (F0 im) _ _ (by omega) (imgT_ok hI) fun j hj => by omega
theorem mac_lens {m : Mac} (h : macV m = true) : m.1.length ≤ 64 ∧ m.2.2.1.length ≤ 64 := by
  unfold macV at h
  rw [Bool.and_eq_true, Bool.and_eq_true] at h
  have h1 := h.1
  have h2 := h.2.1
  unfold memV at h1
  unfold tabV at h2
  rw [Bool.and_eq_true, decide_eq_true_eq] at h1 h2
  exact ⟨h1.1, h2.1⟩
theorem system_both (s : Sys) (hW : PatsR s.2.2) : ∃ rI rS, Zv s = some rI ∧ Z56 s = some rS ∧ rI.2 = rS.2 ∧
    (rI.2 = true → ∃ t' P' F' a' b', rI.1 = (t', P', memF F' BL, a', b') ∧ rS.1 = (t', a', b', P', memF F' BL) ∧ LayR s.2.2.length t' P' F' a' b') := by
  obtain ⟨i1, i2, i3⟩ := imageOK_val s.1
  obtain ⟨m1, m2⟩ := machine_val s.2.1
  rw [Zv_eq, Z56_eq, i2, m1, m2]
  simp only [Option.bind_some, joinB]
  cases him : imgV s.1 with
  | false =>
    rw [Zb_eq, i1, him]
    simp only [Option.bind_some, joinB, Bool.not_false, cond_true]
    exact ⟨_, _, rfl, rfl, rfl, fun h => by cases h⟩
  | true =>
    obtain ⟨rI, rS, e1, e2, e3, e4⟩ := layout_both s.1 him s.2.2 hW true
    rw [e1]
    simp only [Option.bind_some, Bool.not_true, cond_false]
    cases hm : macV s.2.1 with
    | false =>
      cases h : rI.2 with
      | false => exact ⟨_, _, rfl, rfl, rfl, fun h => by cases h⟩
      | true => exact ⟨_, _, rfl, rfl, rfl, fun h => by cases h⟩
    | true =>
      obtain ⟨l1, l2⟩ := mac_lens hm
      simp only [Bool.not_true, cond_false]
      rw [e2]
      simp only [Option.bind_some]
      rw [← e3]
      cases h : rI.2 with
      | false => exact ⟨_, _, rfl, rfl, rfl, fun h => by cases h⟩
      | true =>
        obtain ⟨t', P', F', a', b', f1, f2, f3⟩ := e4 h
        rw [f1, f2]
        simp only [Bool.not_true, cond_false, cond_true]
        rw [(eqT_val _ _ (by omega)).1, (eqT_val _ _ (by omega)).2]
        simp only [Option.bind_some]
        cases eqT s.2.1.2.2.1 t' with
        | false => exact ⟨_, _, rfl, rfl, rfl, fun h => by cases h⟩
        | true =>
          simp only [Bool.not_true, cond_false, cond_true]
          rw [(like_val _ _ (by omega)).1, (like_val _ _ (by omega)).2]
          simp only [Option.bind_some]
          cases likeV s.2.1.1 (memF F' BL) with
          | false => exact ⟨_, _, rfl, rfl, rfl, fun h => by cases h⟩
          | true => exact ⟨_, _, rfl, rfl, rfl, fun _ => ⟨t', P', F', a', b', rfl, rfl, f3⟩⟩
theorem room_both (s : Sys) (hW : PatsR s.2.2) : Both (Zx s) (Z57 s) := by
  obtain ⟨rI, rS, e1, e2, e3, e4⟩ := system_both s hW
  rw [Zx_eq, Z57_eq, e1, e2]
  simp only [Option.bind_some]
  rw [← e3]
  cases h : rI.2 with
  | false => exact Both.mk _
  | true =>
    obtain ⟨t', P', F', a', b', f1, f2, f3⟩ := e4 h
    rw [f1, f2]
    simp only [Bool.not_true, cond_false]
    rw [Zw_eq, Zw_eq]
    exact Both.mk _
def bdT : (τ : Ty) → τ.den → Prop
  | .list e, l => List.length l ≤ 1048576 ∧ ∀ x ∈ l, bdT e x
  | .pair a b, x => bdT a x.1 ∧ bdT b x.2
  | _, _ => True
def SP (B : Prop) (left : Int) (v : Option Int) : Prop := ∃ r, v = some r ∧ r ≤ left ∧ (0 ≤ r → B)
def LeftR (left : Int) : Prop := 0 ≤ left ∧ left ≤ 1048576
theorem SP.fin {B : Prop} {left : Int} (h : B) : SP B left (some left) := ⟨left, rfl, Int.le_refl _, fun _ => h⟩
theorem SP.str {B : Prop} {left : Int} (n : Nat) (hn : n ≤ 9223372036854775807) (hl : LeftR left) (K : Int → Option Int) (hK : ∀ l', LeftR l' → l' ≤ left → n ≤ 1048576 → SP B l' (K l')) : SP B left (bif decide (IntKind.wrap .i64 (left - (n : Int)) < 0) then some (-1) else K (IntKind.wrap .i64 (left - (n : Int)))) := by
  obtain ⟨h1, h2⟩ := hl
  rw [w64 (n := left - (n : Int)) (by omega) (by omega)]
  by_cases h : left - (n : Int) < 0
  · rw [decide_eq_true h]; exact ⟨-1, rfl, by omega, fun h => absurd h (by decide)⟩
  · rw [decide_eq_false h, cond_false]
    obtain ⟨r, e1, e2, e3⟩ := hK (left - (n : Int)) ⟨by omega, by omega⟩ (by omega) (by omega)
    exact ⟨r, e1, by omega, e3⟩
theorem SP.call {B B1 : Prop} {left : Int} {v : Option Int} (hf : SP B1 left v) (hl : LeftR left) (K : Int → Option Int) (hK : B1 → ∀ r, LeftR r → SP B r (K r)) : SP B left (v.bind fun r => bif decide (r < 0) then some (-1) else K r) := by
  obtain ⟨r, e1, e2, e3⟩ := hf
  rw [e1, Option.bind_some]
  have := hl.2
  by_cases h : r < 0
  · rw [decide_eq_true h]; exact ⟨-1, rfl, by have := hl.1; omega, fun h => absurd h (by decide)⟩
  · rw [decide_eq_false h, cond_false]
    obtain ⟨r', e4, e5, e6⟩ := hK (e3 (by omega)) r ⟨by omega, by omega⟩
    exact ⟨r', e4, by omega, e6⟩
def SzP (τ : Ty) (f : τ.den → Int → Option Int) : Prop := ∀ x, wfT τ x → ∀ left, LeftR left → SP (bdT τ x) left (f x left)
theorem sz_loop {τ : Ty} (l : List τ.den) (g : τ.den → Int → Option Int) (hg : SzP τ g) (hw : ∀ x ∈ l, wfT τ x) (L : Int → Int → Option Int)
    (hstep : ∀ left (i : Nat), i < l.length → L left (i : Int) = (g (rd (τ := τ) l (i : Int)) left).bind fun r1 => bif decide (r1 < 0) then some (-1) else L r1 ((i + 1 : Nat) : Int)) (hend : ∀ left, L left (l.length : Int) = some left) :
    ∀ (k i : Nat), i + k = l.length → ∀ left, LeftR left → SP (∀ j : Nat, i ≤ j → j < l.length → bdT τ (rd (τ := τ) l (j : Int))) left (L left (i : Int)) := by
  intro k
  induction k with
  | zero =>
    intro i h left hl
    have : i = l.length := by omega
    subst this
    rw [hend]
    exact SP.fin fun j h1 h2 => by omega
  | succ k ih =>
    intro i h left hl
    rw [hstep left i (by omega)]
    refine SP.call (hg _ (hw _ (rd_mem_list l i (by omega))) left hl) hl _ fun b r hr => ?_
    obtain ⟨r', e1, e2, e3⟩ := ih (i + 1) (by omega) r hr
    exact ⟨r', e1, e2, fun h0 j h1 h2 => by
      by_cases e : j = i
      · rw [e]; exact b
      · exact e3 h0 j (by omega) h2⟩
theorem sz_list {τ : Ty} (l : List τ.den) (hw : wfT (.list τ) l) (g : τ.den → Int → Option Int) (hg : SzP τ g) (L : Int → Int → Option Int)
    (hstep : l.length ≤ 1048576 → ∀ left (i : Nat), i < l.length → L left (i : Int) = (g (rd (τ := τ) l (i : Int)) left).bind fun r1 => bif decide (r1 < 0) then some (-1) else L r1 ((i + 1 : Nat) : Int)) (hend : ∀ left, L left (l.length : Int) = some left) (left : Int) (hl : LeftR left) :
    SP (bdT (.list τ) l) left (bif decide (IntKind.wrap .i64 (left - (l.length : Int)) < 0) then some (-1) else L (IntKind.wrap .i64 (left - (l.length : Int))) 0) := by
  have hw' : List.length l ≤ 9223372036854775807 ∧ ∀ x ∈ l, wfT τ x := hw
  refine SP.str l.length hw'.1 hl (fun r => L r 0) fun l' h1 h2 h3 => ?_
  obtain ⟨r, e1, e2, e3⟩ := sz_loop l g hg hw'.2 L (hstep h3) hend l.length 0 (by omega) l' h1
  refine ⟨r, e1, e2, fun h0 => ?_⟩
  show List.length l ≤ 1048576 ∧ ∀ x ∈ l, bdT τ x
  refine ⟨h3, fun x hx => ?_⟩
  obtain ⟨i, hi, hr⟩ := mem_rd hx
  rw [← hr]; exact e3 h0 i (Nat.zero_le _) hi
theorem sz_flat {τ : Ty} (l : List τ.den) (hw : wfT (.list τ) l) (hb : ∀ x, bdT τ x) (left : Int) (hl : LeftR left) :
    SP (bdT (.list τ) l) left (bif decide (IntKind.wrap .i64 (left - (l.length : Int)) < 0) then some (-1) else some (IntKind.wrap .i64 (left - (l.length : Int)))) := by
  have hw' : List.length l ≤ 9223372036854775807 ∧ ∀ x ∈ l, wfT τ x := hw
  exact SP.str l.length hw'.1 hl some fun l' h1 h2 h3 => SP.fin ⟨h3, fun x _ => hb x⟩
def ToP (τ : Ty) (f : τ.den → Option τ.den) : Prop := ∀ x, wfT τ x → bdT τ x → f x = some x
theorem to_loop' {τ : Ty} (l : List τ.den) (L : List τ.den → Int → Option (List τ.den))
    (hstep : ∀ acc (i : Nat), i < l.length → acc.length = l.length → L acc (i : Int) = L (acc.set i (rd (τ := τ) l (i : Int))) ((i + 1 : Nat) : Int)) (hend : ∀ acc, L acc (l.length : Int) = some acc) :
    ∀ (k i : Nat) (u : List τ.den), i + k = l.length → u.length = k → L (l.take i ++ u) (i : Int) = some l := by
  intro k
  induction k with
  | zero =>
    intro i u h hu
    have : i = l.length := by omega
    subst this
    rw [hend, List.take_length, List.eq_nil_of_length_eq_zero hu, List.append_nil]
  | succ k ih =>
    intro i u h hu
    have hi : i < l.length := by omega
    rw [hstep _ i hi (by rw [List.length_append, List.length_take]; omega)]
    cases u with
    | nil => simp at hu
    | cons y u =>
      have e : (l.take i ++ y :: u).set i (rd (τ := τ) l (i : Int)) = l.take (i + 1) ++ u := by
        rw [List.set_append_right _ _ (by rw [List.length_take]; omega), List.length_take, show i - min i l.length = 0 by omega, List.set_cons_zero, List.take_succ_eq_append_getElem hi, List.append_assoc, rd_nat l i hi]; rfl
      rw [e]
      exact ih (i + 1) u (by omega) (by simpa using hu)
theorem to_list {τ : Ty} (l : List τ.den) (b : Nat) (hbt : b ≤ 4096) (hb : l.length ≤ 1048576) (z : τ.den) (L : List τ.den → Int → Option (List τ.den))
    (hstep : ∀ acc (i : Nat), i < l.length → acc.length = l.length → L acc (i : Int) = L (acc.set i (rd (τ := τ) l (i : Int))) ((i + 1 : Nat) : Int)) (hend : ∀ acc, L acc (l.length : Int) = some acc) :
    (bif decide (0 ≤ (l.length : Int)) && roomB (Int.toNat (l.length : Int)) b then L (List.replicate (Int.toNat (l.length : Int)) z) 0 else none) = some l := by
  have hm : l.length * b ≤ 1048576 * 4096 := Nat.mul_le_mul hb hbt
  rw [Int.toNat_natCast, show (decide (0 ≤ (l.length : Int)) && roomB l.length b) = true by simp [roomB]; omega, cond_true]
  have := to_loop' l L hstep hend l.length 0 (List.replicate l.length z) (by omega) (by simp)
  simpa using this
def EqP (τ : Ty) (f : τ.den → τ.den → Option Bool) : Prop := ∀ x, wfT τ x → bdT τ x → f x x = some true
theorem eq_loop (L : Int → Option Bool) (n : Nat) (hstep : ∀ i : Nat, i < n → L (i : Int) = L ((i + 1 : Nat) : Int)) (hend : L (n : Int) = some true) : L 0 = some true := by
  have : ∀ k i : Nat, i + k = n → L (i : Int) = some true := by
    intro k
    induction k with
    | zero => intro i h; have : i = n := by omega
              rw [this]; exact hend
    | succ k ih => intro i h; rw [hstep i (by omega)]; exact ih (i + 1) (by omega)
  exact this n 0 (by omega)
abbrev TImg : Ty := .pair .str (.pair .str (.list TSym))
abbrev TMac : Ty := .pair (.list TPage) (.pair (.list TThr) (.pair (.list TEnt) (.list TSh)))
abbrev TSys : Ty := .pair TImg (.pair TMac (.list TPat))
theorem sz_Symbol : SzP TSym Z1z := by
  intro x hw left hl
  show SP _ left (Z1z x left)
  rw [Z1z_eq]
  refine SP.str (ByteArray.size x.1) hw.1 hl (fun r => some r) fun l0 h0 _ _ => ?_
  exact SP.fin ⟨trivial, ⟨trivial, ⟨trivial, ⟨trivial, trivial⟩⟩⟩⟩
theorem sz_SymbolS : SzP (.list TSym) Z20 := by
  intro x hw left hl
  show SP _ left (Z20 x left)
  rw [Z20_eq]
  exact sz_list x hw Z1z sz_Symbol (Z20.a x) (fun hb left i hi => by
    rw [Z20.a_eq, lt_nat, inL_nat, decide_eq_true hi, w64_succ i _ hi (by omega)]; rfl) (fun left => by
    rw [Z20.a_eq, lt_nat, decide_eq_false (Nat.lt_irrefl _), cond_false]) left hl
theorem sz_Entry : SzP TEnt Z28 := by
  intro x hw left hl
  show SP _ left (Z28 x left)
  rw [Z28_eq]
  refine SP.str (ByteArray.size x.1) hw.1 hl (fun r => some r) fun l0 h0 _ _ => ?_
  exact SP.fin ⟨trivial, ⟨trivial, ⟨trivial, ⟨trivial, ⟨trivial, trivial⟩⟩⟩⟩⟩
theorem sz_EntryS : SzP (.list TEnt) Z29 := by
  intro x hw left hl
  show SP _ left (Z29 x left)
  rw [Z29_eq]
  exact sz_list x hw Z28 sz_Entry (Z29.a x) (fun hb left i hi => by
    rw [Z29.a_eq, lt_nat, inL_nat, decide_eq_true hi, w64_succ i _ hi (by omega)]; rfl) (fun left => by
    rw [Z29.a_eq, lt_nat, decide_eq_false (Nat.lt_irrefl _), cond_false]) left hl
theorem sz_Page : SzP TPage Z22 := by
  intro x hw left hl
  show SP _ left (Z22 x left)
  rw [Z22_eq]
  refine SP.str (ByteArray.size x.2.2) hw.2.2 hl (fun r => some r) fun l0 h0 _ _ => ?_
  exact SP.fin ⟨trivial, ⟨trivial, trivial⟩⟩
theorem sz_PageS : SzP (.list TPage) Z23 := by
  intro x hw left hl
  show SP _ left (Z23 x left)
  rw [Z23_eq]
  exact sz_list x hw Z22 sz_Page (Z23.a x) (fun hb left i hi => by
    rw [Z23.a_eq, lt_nat, inL_nat, decide_eq_true hi, w64_succ i _ hi (by omega)]; rfl) (fun left => by
    rw [Z23.a_eq, lt_nat, decide_eq_false (Nat.lt_irrefl _), cond_false]) left hl
theorem sz_PatchFunc : SzP TFun Z2c := by
  intro x hw left hl
  show SP _ left (Z2c x left)
  rw [Z2c_eq]
  refine SP.str (ByteArray.size x.1) hw.1 hl (fun r => bif decide ((IntKind.wrap .i64 (r - (ByteArray.size x.2.2.2 : Int))) < 0) then some (-1) else (some (IntKind.wrap .i64 (r - (ByteArray.size x.2.2.2 : Int))))) fun l0 h0 _ _ => ?_
  refine SP.str (ByteArray.size x.2.2.2) hw.2.2.2 h0 (fun r => some r) fun l1 h1 _ _ => ?_
  exact SP.fin ⟨trivial, ⟨trivial, ⟨trivial, trivial⟩⟩⟩
theorem sz_PatchFuncS : SzP (.list TFun) Z2d := by
  intro x hw left hl
  show SP _ left (Z2d x left)
  rw [Z2d_eq]
  exact sz_list x hw Z2c sz_PatchFunc (Z2d.a x) (fun hb left i hi => by
    rw [Z2d.a_eq, lt_nat, inL_nat, decide_eq_true hi, w64_succ i _ hi (by omega)]; rfl) (fun left => by
    rw [Z2d.a_eq, lt_nat, decide_eq_false (Nat.lt_irrefl _), cond_false]) left hl
theorem sz_PatchData : SzP TDat Z2e := by
  intro x hw left hl
  show SP _ left (Z2e x left)
  rw [Z2e_eq]
  refine SP.str (ByteArray.size x.1) hw.1 hl (fun r => bif decide ((IntKind.wrap .i64 (r - (ByteArray.size x.2 : Int))) < 0) then some (-1) else (some (IntKind.wrap .i64 (r - (ByteArray.size x.2 : Int))))) fun l0 h0 _ _ => ?_
  refine SP.str (ByteArray.size x.2) hw.2 h0 (fun r => some r) fun l1 h1 _ _ => ?_
  exact SP.fin ⟨trivial, trivial⟩
theorem sz_PatchDataS : SzP (.list TDat) Z2f := by
  intro x hw left hl
  show SP _ left (Z2f x left)
  rw [Z2f_eq]
  exact sz_list x hw Z2e sz_PatchData (Z2f.a x) (fun hb left i hi => by
    rw [Z2f.a_eq, lt_nat, inL_nat, decide_eq_true hi, w64_succ i _ hi (by omega)]; rfl) (fun left => by
    rw [Z2f.a_eq, lt_nat, decide_eq_false (Nat.lt_irrefl _), cond_false]) left hl
theorem sz_Reloc : SzP TRel Z2g := by
  intro x hw left hl
  show SP _ left (Z2g x left)
  rw [Z2g_eq]
  refine SP.str (ByteArray.size x.2.2.2.1) hw.2.2.2.1 hl (fun r => some r) fun l0 h0 _ _ => ?_
  exact SP.fin ⟨trivial, ⟨trivial, ⟨trivial, ⟨trivial, trivial⟩⟩⟩⟩
theorem sz_RelocS : SzP (.list TRel) Z2h := by
  intro x hw left hl
  show SP _ left (Z2h x left)
  rw [Z2h_eq]
  exact sz_list x hw Z2g sz_Reloc (Z2h.a x) (fun hb left i hi => by
    rw [Z2h.a_eq, lt_nat, inL_nat, decide_eq_true hi, w64_succ i _ hi (by omega)]; rfl) (fun left => by
    rw [Z2h.a_eq, lt_nat, decide_eq_false (Nat.lt_irrefl _), cond_false]) left hl
theorem sz_IntS : SzP (.list (.int .i64)) Z25 := by
  intro x hw left hl
  show SP _ left (Z25 x left)
  rw [Z25_eq]
  exact sz_flat x hw (fun _ => trivial) left hl
theorem sz_SaveS : SzP (.list TI2) Z2m := by
  intro x hw left hl
  show SP _ left (Z2m x left)
  rw [Z2m_eq]
  exact sz_flat x hw (fun _ => ⟨trivial, trivial⟩) left hl
theorem sz_ShadowDeclS : SzP (.list TDcl) Z2i := by
  intro x hw left hl
  show SP _ left (Z2i x left)
  rw [Z2i_eq]
  exact sz_flat x hw (fun _ => ⟨trivial, trivial⟩) left hl
theorem sz_ShadowS : SzP (.list TSh) Z2a := by
  intro x hw left hl
  show SP _ left (Z2a x left)
  rw [Z2a_eq]
  exact sz_flat x hw (fun _ => ⟨trivial, ⟨trivial, trivial⟩⟩) left hl
theorem sz_StringS : SzP (.list .str) Z2k := by
  intro x hw left hl
  show SP _ left (Z2k x left)
  rw [Z2k_eq]
  exact sz_list x hw (fun s left => bif decide (IntKind.wrap .i64 (left - (ByteArray.size s : Int)) < 0) then some (-1) else some (IntKind.wrap .i64 (left - (ByteArray.size s : Int)))) (fun s hs left hl => SP.str (ByteArray.size s) hs hl some fun l' _ _ _ => SP.fin trivial) (Z2k.a x) (fun hb left i hi => by
    rw [Z2k.a_eq, lt_nat, inL_nat, decide_eq_true hi, w64_succ i _ hi (by omega)]
    simp only [cond_true]
    cases hc : decide (IntKind.wrap .i64 (left - (ByteArray.size (rd (τ := .str) x (i : Int)) : Int)) < 0) with
    | true => rfl
    | false => rw [cond_false, cond_false, Option.bind_some, hc]; rfl) (fun left => by
    rw [Z2k.a_eq, lt_nat, decide_eq_false (Nat.lt_irrefl _), cond_false]) left hl
theorem sz_Thread : SzP TThr Z26 := by
  intro x hw left hl
  show SP _ left (Z26 x left)
  rw [Z26_eq]
  refine SP.call (sz_IntS x.2.2.1 hw.2.2.1 left hl) hl _ fun b0 l0 h0 => ?_
  exact SP.fin ⟨trivial, ⟨⟨trivial, trivial⟩, ⟨b0, trivial⟩⟩⟩
theorem sz_ThreadS : SzP (.list TThr) Z27 := by
  intro x hw left hl
  show SP _ left (Z27 x left)
  rw [Z27_eq]
  exact sz_list x hw Z26 sz_Thread (Z27.a x) (fun hb left i hi => by
    rw [Z27.a_eq, lt_nat, inL_nat, decide_eq_true hi, w64_succ i _ hi (by omega)]; rfl) (fun left => by
    rw [Z27.a_eq, lt_nat, decide_eq_false (Nat.lt_irrefl _), cond_false]) left hl
theorem sz_Image : SzP TImg Z21 := by
  intro x hw left hl
  show SP _ left (Z21 x left)
  rw [Z21_eq]
  refine SP.str (ByteArray.size x.1) hw.1 hl (fun r => bif decide ((IntKind.wrap .i64 (r - (ByteArray.size x.2.1 : Int))) < 0) then some (-1) else ((Z20 x.2.2 (IntKind.wrap .i64 (r - (ByteArray.size x.2.1 : Int)))).bind fun q1 => bif decide (q1 < 0) then some (-1) else (some q1))) fun l0 h0 _ _ => ?_
  refine SP.str (ByteArray.size x.2.1) hw.2.1 h0 (fun r => (Z20 x.2.2 r).bind fun q2 => bif decide (q2 < 0) then some (-1) else (some q2)) fun l1 h1 _ _ => ?_
  refine SP.call (sz_SymbolS x.2.2 hw.2.2 l1 h1) h1 _ fun b2 l2 h2 => ?_
  exact SP.fin ⟨trivial, ⟨trivial, b2⟩⟩
theorem sz_Memory : SzP (.list TPage) Z24 := by
  intro x hw left hl
  show SP _ left (Z24 x left)
  rw [Z24_eq]
  exact SP.call (sz_PageS x hw left hl) hl _ fun b l h => SP.fin b
theorem sz_Machine : SzP TMac Z2b := by
  intro x hw left hl
  show SP _ left (Z2b x left)
  rw [Z2b_eq]
  refine SP.call (sz_Memory x.1 hw.1 left hl) hl _ fun b0 l0 h0 => ?_
  refine SP.call (sz_ThreadS x.2.1 hw.2.1 l0 h0) h0 _ fun b1 l1 h1 => ?_
  refine SP.call (sz_EntryS x.2.2.1 hw.2.2.1 l1 h1) h1 _ fun b2 l2 h2 => ?_
  refine SP.call (sz_ShadowS x.2.2.2 hw.2.2.2 l2 h2) h2 _ fun b3 l3 h3 => ?_
  exact SP.fin ⟨b0, ⟨b1, ⟨b2, b3⟩⟩⟩
theorem sz_Linked : SzP TLnk Z2l := by
  intro x hw left hl
  show SP _ left (Z2l x left)
  rw [Z2l_eq]
  refine SP.call (sz_IntS x.1 hw.1 left hl) hl _ fun b0 l0 h0 => ?_
  refine SP.call (sz_StringS x.2.1 hw.2.1 l0 h0) h0 _ fun b1 l1 h1 => ?_
  refine SP.call (sz_IntS x.2.2.1 hw.2.2.1 l1 h1) h1 _ fun b2 l2 h2 => ?_
  refine SP.call (sz_StringS x.2.2.2 hw.2.2.2 l2 h2) h2 _ fun b3 l3 h3 => ?_
  exact SP.fin ⟨b0, ⟨b1, ⟨b2, b3⟩⟩⟩
theorem sz_Object : SzP TObj Z2j := by
  intro x hw left hl
  show SP _ left (Z2j x left)
  rw [Z2j_eq]
  refine SP.str (ByteArray.size x.1) hw.1 hl (fun r => (Z2d x.2.2.1 r).bind fun q3 => bif decide (q3 < 0) then some (-1) else ((Z2f x.2.2.2.1 q3).bind fun q4 => bif decide (q4 < 0) then some (-1) else ((Z2h x.2.2.2.2.1 q4).bind fun q5 => bif decide (q5 < 0) then some (-1) else ((Z2i x.2.2.2.2.2 q5).bind fun q6 => bif decide (q6 < 0) then some (-1) else (some q6))))) fun l0 h0 _ _ => ?_
  refine SP.call (sz_PatchFuncS x.2.2.1 hw.2.2.1 l0 h0) h0 _ fun b1 l1 h1 => ?_
  refine SP.call (sz_PatchDataS x.2.2.2.1 hw.2.2.2.1 l1 h1) h1 _ fun b2 l2 h2 => ?_
  refine SP.call (sz_RelocS x.2.2.2.2.1 hw.2.2.2.2.1 l2 h2) h2 _ fun b3 l3 h3 => ?_
  refine SP.call (sz_ShadowDeclS x.2.2.2.2.2 hw.2.2.2.2.2 l3 h3) h3 _ fun b4 l4 h4 => ?_
  exact SP.fin ⟨trivial, ⟨trivial, ⟨b1, ⟨b2, ⟨b3, b4⟩⟩⟩⟩⟩
theorem sz_Patch : SzP TPat Z2n := by
  intro x hw left hl
  show SP _ left (Z2n x left)
  rw [Z2n_eq]
  refine SP.call (sz_Object x.1 hw.1 left hl) hl _ fun b0 l0 h0 => ?_
  refine SP.call (sz_Linked x.2.1 hw.2.1 l0 h0) h0 _ fun b1 l1 h1 => ?_
  refine SP.call (sz_SaveS x.2.2 hw.2.2 l1 h1) h1 _ fun b2 l2 h2 => ?_
  exact SP.fin ⟨b0, ⟨b1, b2⟩⟩
theorem sz_PatchS : SzP (.list TPat) Z2o := by
  intro x hw left hl
  show SP _ left (Z2o x left)
  rw [Z2o_eq]
  exact sz_list x hw Z2n sz_Patch (Z2o.a x) (fun hb left i hi => by
    rw [Z2o.a_eq, lt_nat, inL_nat, decide_eq_true hi, w64_succ i _ hi (by omega)]; rfl) (fun left => by
    rw [Z2o.a_eq, lt_nat, decide_eq_false (Nat.lt_irrefl _), cond_false]) left hl
theorem sz_System : SzP TSys Z2p := by
  intro x hw left hl
  show SP _ left (Z2p x left)
  rw [Z2p_eq]
  refine SP.call (sz_Image x.1 hw.1 left hl) hl _ fun b0 l0 h0 => ?_
  refine SP.call (sz_Machine x.2.1 hw.2.1 l0 h0) h0 _ fun b1 l1 h1 => ?_
  refine SP.call (sz_PatchS x.2.2 hw.2.2 l1 h1) h1 _ fun b2 l2 h2 => ?_
  exact SP.fin ⟨b0, ⟨b1, b2⟩⟩
theorem to_Symbol : ToP TSym Z58 := by
  intro x _ _
  show Z58 x = _
  rw [Z58_eq]
theorem to_SymbolS : ToP (.list TSym) Z59 := by
  intro x hw hb
  show Z59 x = _
  rw [Z59_eq]
  exact to_list (τ := TSym) x 48 (by omega) hb.1 _ (Z59.a x) (fun acc i hi ha => by
    rw [Z59.a_eq, lt_nat, inL_nat, decide_eq_true hi, w64_succ i _ hi (by have := hb.1; omega), to_Symbol _ (hw.2 _ (rd_mem_list (τ := TSym) x i hi)) (hb.2 _ (rd_mem_list (τ := TSym) x i hi))]
    simp only [cond_true, Option.bind_some]
    rw [inL_nat, show decide (i < acc.length) = true from decide_eq_true (by rw [ha]; exact hi), Int.toNat_natCast]; rfl) (fun acc => by
    rw [Z59.a_eq, lt_nat, decide_eq_false (Nat.lt_irrefl _), cond_false])
theorem to_Entry : ToP TEnt Z5j := by
  intro x _ _
  show Z5j x = _
  rw [Z5j_eq]
theorem to_EntryS : ToP (.list TEnt) Z5k := by
  intro x hw hb
  show Z5k x = _
  rw [Z5k_eq]
  exact to_list (τ := TEnt) x 56 (by omega) hb.1 _ (Z5k.a x) (fun acc i hi ha => by
    rw [Z5k.a_eq, lt_nat, inL_nat, decide_eq_true hi, w64_succ i _ hi (by have := hb.1; omega), to_Entry _ (hw.2 _ (rd_mem_list (τ := TEnt) x i hi)) (hb.2 _ (rd_mem_list (τ := TEnt) x i hi))]
    simp only [cond_true, Option.bind_some]
    rw [inL_nat, show decide (i < acc.length) = true from decide_eq_true (by rw [ha]; exact hi), Int.toNat_natCast]; rfl) (fun acc => by
    rw [Z5k.a_eq, lt_nat, decide_eq_false (Nat.lt_irrefl _), cond_false])
theorem to_Page : ToP TPage Z5b := by
  intro x _ _
  show Z5b x = _
  rw [Z5b_eq]
theorem to_PageS : ToP (.list TPage) Z5c := by
  intro x hw hb
  show Z5c x = _
  rw [Z5c_eq]
  exact to_list (τ := TPage) x 32 (by omega) hb.1 _ (Z5c.a x) (fun acc i hi ha => by
    rw [Z5c.a_eq, lt_nat, inL_nat, decide_eq_true hi, w64_succ i _ hi (by have := hb.1; omega), to_Page _ (hw.2 _ (rd_mem_list (τ := TPage) x i hi)) (hb.2 _ (rd_mem_list (τ := TPage) x i hi))]
    simp only [cond_true, Option.bind_some]
    rw [inL_nat, show decide (i < acc.length) = true from decide_eq_true (by rw [ha]; exact hi), Int.toNat_natCast]; rfl) (fun acc => by
    rw [Z5c.a_eq, lt_nat, decide_eq_false (Nat.lt_irrefl _), cond_false])
theorem to_Shadow : ToP TSh Z5l := by
  intro x _ _
  show Z5l x = _
  rw [Z5l_eq]
theorem to_ShadowS : ToP (.list TSh) Z5m := by
  intro x hw hb
  show Z5m x = _
  rw [Z5m_eq]
  exact to_list (τ := TSh) x 24 (by omega) hb.1 _ (Z5m.a x) (fun acc i hi ha => by
    rw [Z5m.a_eq, lt_nat, inL_nat, decide_eq_true hi, w64_succ i _ hi (by have := hb.1; omega), to_Shadow _ (hw.2 _ (rd_mem_list (τ := TSh) x i hi)) (hb.2 _ (rd_mem_list (τ := TSh) x i hi))]
    simp only [cond_true, Option.bind_some]
    rw [inL_nat, show decide (i < acc.length) = true from decide_eq_true (by rw [ha]; exact hi), Int.toNat_natCast]; rfl) (fun acc => by
    rw [Z5m.a_eq, lt_nat, decide_eq_false (Nat.lt_irrefl _), cond_false])
theorem to_PatchFunc : ToP TFun Z5o := by
  intro x _ _
  show Z5o x = _
  rw [Z5o_eq]
theorem to_PatchFuncS : ToP (.list TFun) Z5p := by
  intro x hw hb
  show Z5p x = _
  rw [Z5p_eq]
  exact to_list (τ := TFun) x 48 (by omega) hb.1 _ (Z5p.a x) (fun acc i hi ha => by
    rw [Z5p.a_eq, lt_nat, inL_nat, decide_eq_true hi, w64_succ i _ hi (by have := hb.1; omega), to_PatchFunc _ (hw.2 _ (rd_mem_list (τ := TFun) x i hi)) (hb.2 _ (rd_mem_list (τ := TFun) x i hi))]
    simp only [cond_true, Option.bind_some]
    rw [inL_nat, show decide (i < acc.length) = true from decide_eq_true (by rw [ha]; exact hi), Int.toNat_natCast]; rfl) (fun acc => by
    rw [Z5p.a_eq, lt_nat, decide_eq_false (Nat.lt_irrefl _), cond_false])
theorem to_PatchData : ToP TDat Z5q := by
  intro x _ _
  show Z5q x = _
  rw [Z5q_eq]
theorem to_PatchDataS : ToP (.list TDat) Z5r := by
  intro x hw hb
  show Z5r x = _
  rw [Z5r_eq]
  exact to_list (τ := TDat) x 32 (by omega) hb.1 _ (Z5r.a x) (fun acc i hi ha => by
    rw [Z5r.a_eq, lt_nat, inL_nat, decide_eq_true hi, w64_succ i _ hi (by have := hb.1; omega), to_PatchData _ (hw.2 _ (rd_mem_list (τ := TDat) x i hi)) (hb.2 _ (rd_mem_list (τ := TDat) x i hi))]
    simp only [cond_true, Option.bind_some]
    rw [inL_nat, show decide (i < acc.length) = true from decide_eq_true (by rw [ha]; exact hi), Int.toNat_natCast]; rfl) (fun acc => by
    rw [Z5r.a_eq, lt_nat, decide_eq_false (Nat.lt_irrefl _), cond_false])
theorem to_Reloc : ToP TRel Z5s := by
  intro x _ _
  show Z5s x = _
  rw [Z5s_eq]
theorem to_RelocS : ToP (.list TRel) Z5t := by
  intro x hw hb
  show Z5t x = _
  rw [Z5t_eq]
  exact to_list (τ := TRel) x 48 (by omega) hb.1 _ (Z5t.a x) (fun acc i hi ha => by
    rw [Z5t.a_eq, lt_nat, inL_nat, decide_eq_true hi, w64_succ i _ hi (by have := hb.1; omega), to_Reloc _ (hw.2 _ (rd_mem_list (τ := TRel) x i hi)) (hb.2 _ (rd_mem_list (τ := TRel) x i hi))]
    simp only [cond_true, Option.bind_some]
    rw [inL_nat, show decide (i < acc.length) = true from decide_eq_true (by rw [ha]; exact hi), Int.toNat_natCast]; rfl) (fun acc => by
    rw [Z5t.a_eq, lt_nat, decide_eq_false (Nat.lt_irrefl _), cond_false])
theorem to_ShadowDecl : ToP TDcl Z5u := by
  intro x _ _
  show Z5u x = _
  rw [Z5u_eq]
theorem to_ShadowDeclS : ToP (.list TDcl) Z5v := by
  intro x hw hb
  show Z5v x = _
  rw [Z5v_eq]
  exact to_list (τ := TDcl) x 16 (by omega) hb.1 _ (Z5v.a x) (fun acc i hi ha => by
    rw [Z5v.a_eq, lt_nat, inL_nat, decide_eq_true hi, w64_succ i _ hi (by have := hb.1; omega), to_ShadowDecl _ (hw.2 _ (rd_mem_list (τ := TDcl) x i hi)) (hb.2 _ (rd_mem_list (τ := TDcl) x i hi))]
    simp only [cond_true, Option.bind_some]
    rw [inL_nat, show decide (i < acc.length) = true from decide_eq_true (by rw [ha]; exact hi), Int.toNat_natCast]; rfl) (fun acc => by
    rw [Z5v.a_eq, lt_nat, decide_eq_false (Nat.lt_irrefl _), cond_false])
theorem to_Save : ToP TI2 Z5z := by
  intro x _ _
  show Z5z x = _
  rw [Z5z_eq]
theorem to_SaveS : ToP (.list TI2) Z60 := by
  intro x hw hb
  show Z60 x = _
  rw [Z60_eq]
  exact to_list (τ := TI2) x 16 (by omega) hb.1 _ (Z60.a x) (fun acc i hi ha => by
    rw [Z60.a_eq, lt_nat, inL_nat, decide_eq_true hi, w64_succ i _ hi (by have := hb.1; omega), to_Save _ (hw.2 _ (rd_mem_list (τ := TI2) x i hi)) (hb.2 _ (rd_mem_list (τ := TI2) x i hi))]
    simp only [cond_true, Option.bind_some]
    rw [inL_nat, show decide (i < acc.length) = true from decide_eq_true (by rw [ha]; exact hi), Int.toNat_natCast]; rfl) (fun acc => by
    rw [Z60.a_eq, lt_nat, decide_eq_false (Nat.lt_irrefl _), cond_false])
theorem to_IntS : ToP (.list (.int .i64)) Z5g := by
  intro x hw hb
  show Z5g x = _
  rw [Z5g_eq]
  exact to_list (τ := (.int .i64)) x 8 (by omega) hb.1 _ (Z5g.a x) (fun acc i hi ha => by
    rw [Z5g.a_eq, lt_nat, inL_nat, decide_eq_true hi, w64_succ i _ hi (by have := hb.1; omega)]
    rw [inL_nat, show decide (i < acc.length) = true from decide_eq_true (by rw [ha]; exact hi), Int.toNat_natCast]; rfl) (fun acc => by
    rw [Z5g.a_eq, lt_nat, decide_eq_false (Nat.lt_irrefl _), cond_false])
theorem to_StringS : ToP (.list .str) Z5x := by
  intro x hw hb
  show Z5x x = _
  rw [Z5x_eq]
  exact to_list (τ := .str) x 16 (by omega) hb.1 _ (Z5x.a x) (fun acc i hi ha => by
    rw [Z5x.a_eq, lt_nat, inL_nat, decide_eq_true hi, w64_succ i _ hi (by have := hb.1; omega)]
    rw [inL_nat, show decide (i < acc.length) = true from decide_eq_true (by rw [ha]; exact hi), Int.toNat_natCast]; rfl) (fun acc => by
    rw [Z5x.a_eq, lt_nat, decide_eq_false (Nat.lt_irrefl _), cond_false])
theorem to_IntA32 : ToP (.arr (.int .i64) 32) Z5e := by
  intro x hw hb
  show Z5e x = _
  have hl : List.length x = 32 := hw.1
  rw [Z5e_eq]
  have h := to_loop' (τ := .int .i64) x (fun acc i => Z5e.a x [0, 0, 0, 0, 0, 0, 0, 0, 0, 0, 0, 0, 0, 0, 0, 0, 0, 0, 0, 0, 0, 0, 0, 0, 0, 0, 0, 0, 0, 0, 0, 0] acc i) (fun acc i hi ha => by
    show Z5e.a x _ acc (i : Int) = _
    rw [Z5e.a_eq, decide_eq_true (show (i : Int) < 32 by omega), inL_nat, decide_eq_true (show i < 32 by omega), w64_succ i 32 (by omega) (by omega), Int.toNat_natCast]; rfl) (fun acc => by
    show Z5e.a x _ acc (List.length x : Int) = _
    rw [Z5e.a_eq, hl]; rfl) 32 0 (List.replicate 32 (0 : Int)) (by rw [hl]) (by simp)
  exact h
theorem to_Hart : ToP THart Z5f := by
  intro x hw hb
  show Z5f x = _
  rw [Z5f_eq, to_IntA32 x.1 hw.1 hb.1]
  rfl
theorem to_Thread : ToP TThr Z5h := by
  intro x hw hb
  show Z5h x = _
  rw [Z5h_eq, to_Hart x.2.1 hw.2.1 hb.2.1, to_IntS x.2.2.1 hw.2.2.1 hb.2.2.1]
  rfl
theorem to_ThreadS : ToP (.list TThr) Z5i := by
  intro x hw hb
  show Z5i x = _
  rw [Z5i_eq]
  exact to_list (τ := TThr) x 304 (by omega) hb.1 _ (Z5i.a x) (fun acc i hi ha => by
    rw [Z5i.a_eq, lt_nat, inL_nat, decide_eq_true hi, w64_succ i _ hi (by have := hb.1; omega), to_Thread _ (hw.2 _ (rd_mem_list (τ := TThr) x i hi)) (hb.2 _ (rd_mem_list (τ := TThr) x i hi))]
    simp only [cond_true, Option.bind_some]
    rw [inL_nat, show decide (i < acc.length) = true from decide_eq_true (by rw [ha]; exact hi), Int.toNat_natCast]; rfl) (fun acc => by
    rw [Z5i.a_eq, lt_nat, decide_eq_false (Nat.lt_irrefl _), cond_false])
theorem to_Image : ToP TImg Z5a := by
  intro x hw hb
  show Z5a x = _
  rw [Z5a_eq, to_SymbolS x.2.2 hw.2.2 hb.2.2]
  rfl
theorem to_Memory : ToP (.list TPage) Z5d := by
  intro x hw hb
  show Z5d x = _
  rw [Z5d_eq, to_PageS x hw hb]
  rfl
theorem to_Machine : ToP TMac Z5n := by
  intro x hw hb
  show Z5n x = _
  rw [Z5n_eq, to_Memory x.1 hw.1 hb.1, to_ThreadS x.2.1 hw.2.1 hb.2.1, to_EntryS x.2.2.1 hw.2.2.1 hb.2.2.1, to_ShadowS x.2.2.2 hw.2.2.2 hb.2.2.2]
  rfl
theorem to_Linked : ToP TLnk Z5y := by
  intro x hw hb
  show Z5y x = _
  rw [Z5y_eq, to_IntS x.1 hw.1 hb.1, to_StringS x.2.1 hw.2.1 hb.2.1, to_IntS x.2.2.1 hw.2.2.1 hb.2.2.1, to_StringS x.2.2.2 hw.2.2.2 hb.2.2.2]
  rfl
theorem to_Object : ToP TObj Z5w := by
  intro x hw hb
  show Z5w x = _
  rw [Z5w_eq, to_PatchFuncS x.2.2.1 hw.2.2.1 hb.2.2.1, to_PatchDataS x.2.2.2.1 hw.2.2.2.1 hb.2.2.2.1, to_RelocS x.2.2.2.2.1 hw.2.2.2.2.1 hb.2.2.2.2.1, to_ShadowDeclS x.2.2.2.2.2 hw.2.2.2.2.2 hb.2.2.2.2.2]
  rfl
theorem to_Patch : ToP TPat Z61 := by
  intro x hw hb
  show Z61 x = _
  rw [Z61_eq, to_Object x.1 hw.1 hb.1, to_Linked x.2.1 hw.2.1 hb.2.1, to_SaveS x.2.2 hw.2.2 hb.2.2]
  rfl
theorem to_PatchS : ToP (.list TPat) Z62 := by
  intro x hw hb
  show Z62 x = _
  rw [Z62_eq]
  exact to_list (τ := TPat) x 240 (by omega) hb.1 _ (Z62.a x) (fun acc i hi ha => by
    rw [Z62.a_eq, lt_nat, inL_nat, decide_eq_true hi, w64_succ i _ hi (by have := hb.1; omega), to_Patch _ (hw.2 _ (rd_mem_list (τ := TPat) x i hi)) (hb.2 _ (rd_mem_list (τ := TPat) x i hi))]
    simp only [cond_true, Option.bind_some]
    rw [inL_nat, show decide (i < acc.length) = true from decide_eq_true (by rw [ha]; exact hi), Int.toNat_natCast]; rfl) (fun acc => by
    rw [Z62.a_eq, lt_nat, decide_eq_false (Nat.lt_irrefl _), cond_false])
theorem to_System : ToP TSys Z63 := by
  intro x hw hb
  show Z63 x = _
  rw [Z63_eq, to_Image x.1 hw.1 hb.1, to_Machine x.2.1 hw.2.1 hb.2.1, to_PatchS x.2.2 hw.2.2 hb.2.2]
  rfl
theorem eq_Symbol : EqP TSym Zy := by
  intro x _ _
  show Zy x x = _
  rw [Zy_eq]
  simp [strEq_dec]
theorem eq_SymbolS : EqP (.list TSym) Zz := by
  intro x hw hb
  show Zz x x = _
  have h1 : List.length x ≤ 1048576 := hb.1
  rw [Zz_eq, decide_eq_true (rfl : (List.length x : Int) = (List.length x : Int)), Bool.not_true, cond_false]
  refine eq_loop (Zz.a x x) (List.length x) (fun i hi => ?_) ?_
  · rw [Zz.a_eq, lt_nat, inL_nat, decide_eq_true hi, w64_succ i _ hi (by omega), eq_Symbol _ (hw.2 _ (rd_mem_list (τ := TSym) x i hi)) (hb.2 _ (rd_mem_list (τ := TSym) x i hi))]; rfl
  · rw [Zz.a_eq, lt_nat, decide_eq_false (Nat.lt_irrefl _), cond_false]
theorem eq_Entry : EqP TEnt Z19 := by
  intro x _ _
  show Z19 x x = _
  rw [Z19_eq]
  simp [strEq_dec]
theorem eq_EntryS : EqP (.list TEnt) Z1a := by
  intro x hw hb
  show Z1a x x = _
  have h1 : List.length x ≤ 1048576 := hb.1
  rw [Z1a_eq, decide_eq_true (rfl : (List.length x : Int) = (List.length x : Int)), Bool.not_true, cond_false]
  refine eq_loop (Z1a.a x x) (List.length x) (fun i hi => ?_) ?_
  · rw [Z1a.a_eq, lt_nat, inL_nat, decide_eq_true hi, w64_succ i _ hi (by omega), eq_Entry _ (hw.2 _ (rd_mem_list (τ := TEnt) x i hi)) (hb.2 _ (rd_mem_list (τ := TEnt) x i hi))]; rfl
  · rw [Z1a.a_eq, lt_nat, decide_eq_false (Nat.lt_irrefl _), cond_false]
theorem eq_Page : EqP TPage Z11 := by
  intro x _ _
  show Z11 x x = _
  rw [Z11_eq]
  simp [strEq_dec]
theorem eq_PageS : EqP (.list TPage) Z12 := by
  intro x hw hb
  show Z12 x x = _
  have h1 : List.length x ≤ 1048576 := hb.1
  rw [Z12_eq, decide_eq_true (rfl : (List.length x : Int) = (List.length x : Int)), Bool.not_true, cond_false]
  refine eq_loop (Z12.a x x) (List.length x) (fun i hi => ?_) ?_
  · rw [Z12.a_eq, lt_nat, inL_nat, decide_eq_true hi, w64_succ i _ hi (by omega), eq_Page _ (hw.2 _ (rd_mem_list (τ := TPage) x i hi)) (hb.2 _ (rd_mem_list (τ := TPage) x i hi))]; rfl
  · rw [Z12.a_eq, lt_nat, decide_eq_false (Nat.lt_irrefl _), cond_false]
theorem eq_Shadow : EqP TSh Z1b := by
  intro x _ _
  show Z1b x x = _
  rw [Z1b_eq]
  simp
theorem eq_ShadowS : EqP (.list TSh) Z1c := by
  intro x hw hb
  show Z1c x x = _
  have h1 : List.length x ≤ 1048576 := hb.1
  rw [Z1c_eq, decide_eq_true (rfl : (List.length x : Int) = (List.length x : Int)), Bool.not_true, cond_false]
  refine eq_loop (Z1c.a x x) (List.length x) (fun i hi => ?_) ?_
  · rw [Z1c.a_eq, lt_nat, inL_nat, decide_eq_true hi, w64_succ i _ hi (by omega), eq_Shadow _ (hw.2 _ (rd_mem_list (τ := TSh) x i hi)) (hb.2 _ (rd_mem_list (τ := TSh) x i hi))]; rfl
  · rw [Z1c.a_eq, lt_nat, decide_eq_false (Nat.lt_irrefl _), cond_false]
theorem eq_PatchFunc : EqP TFun Z1e := by
  intro x _ _
  show Z1e x x = _
  rw [Z1e_eq]
  simp [strEq_dec]
theorem eq_PatchFuncS : EqP (.list TFun) Z1f := by
  intro x hw hb
  show Z1f x x = _
  have h1 : List.length x ≤ 1048576 := hb.1
  rw [Z1f_eq, decide_eq_true (rfl : (List.length x : Int) = (List.length x : Int)), Bool.not_true, cond_false]
  refine eq_loop (Z1f.a x x) (List.length x) (fun i hi => ?_) ?_
  · rw [Z1f.a_eq, lt_nat, inL_nat, decide_eq_true hi, w64_succ i _ hi (by omega), eq_PatchFunc _ (hw.2 _ (rd_mem_list (τ := TFun) x i hi)) (hb.2 _ (rd_mem_list (τ := TFun) x i hi))]; rfl
  · rw [Z1f.a_eq, lt_nat, decide_eq_false (Nat.lt_irrefl _), cond_false]
theorem eq_PatchData : EqP TDat Z1g := by
  intro x _ _
  show Z1g x x = _
  rw [Z1g_eq]
  simp [strEq_dec]
theorem eq_PatchDataS : EqP (.list TDat) Z1h := by
  intro x hw hb
  show Z1h x x = _
  have h1 : List.length x ≤ 1048576 := hb.1
  rw [Z1h_eq, decide_eq_true (rfl : (List.length x : Int) = (List.length x : Int)), Bool.not_true, cond_false]
  refine eq_loop (Z1h.a x x) (List.length x) (fun i hi => ?_) ?_
  · rw [Z1h.a_eq, lt_nat, inL_nat, decide_eq_true hi, w64_succ i _ hi (by omega), eq_PatchData _ (hw.2 _ (rd_mem_list (τ := TDat) x i hi)) (hb.2 _ (rd_mem_list (τ := TDat) x i hi))]; rfl
  · rw [Z1h.a_eq, lt_nat, decide_eq_false (Nat.lt_irrefl _), cond_false]
theorem eq_Reloc : EqP TRel Z1i := by
  intro x _ _
  show Z1i x x = _
  rw [Z1i_eq]
  simp [strEq_dec]
theorem eq_RelocS : EqP (.list TRel) Z1j := by
  intro x hw hb
  show Z1j x x = _
  have h1 : List.length x ≤ 1048576 := hb.1
  rw [Z1j_eq, decide_eq_true (rfl : (List.length x : Int) = (List.length x : Int)), Bool.not_true, cond_false]
  refine eq_loop (Z1j.a x x) (List.length x) (fun i hi => ?_) ?_
  · rw [Z1j.a_eq, lt_nat, inL_nat, decide_eq_true hi, w64_succ i _ hi (by omega), eq_Reloc _ (hw.2 _ (rd_mem_list (τ := TRel) x i hi)) (hb.2 _ (rd_mem_list (τ := TRel) x i hi))]; rfl
  · rw [Z1j.a_eq, lt_nat, decide_eq_false (Nat.lt_irrefl _), cond_false]
theorem eq_ShadowDecl : EqP TDcl Z1k := by
  intro x _ _
  show Z1k x x = _
  rw [Z1k_eq]
  simp
theorem eq_ShadowDeclS : EqP (.list TDcl) Z1l := by
  intro x hw hb
  show Z1l x x = _
  have h1 : List.length x ≤ 1048576 := hb.1
  rw [Z1l_eq, decide_eq_true (rfl : (List.length x : Int) = (List.length x : Int)), Bool.not_true, cond_false]
  refine eq_loop (Z1l.a x x) (List.length x) (fun i hi => ?_) ?_
  · rw [Z1l.a_eq, lt_nat, inL_nat, decide_eq_true hi, w64_succ i _ hi (by omega), eq_ShadowDecl _ (hw.2 _ (rd_mem_list (τ := TDcl) x i hi)) (hb.2 _ (rd_mem_list (τ := TDcl) x i hi))]; rfl
  · rw [Z1l.a_eq, lt_nat, decide_eq_false (Nat.lt_irrefl _), cond_false]
theorem eq_Save : EqP TI2 Z1p := by
  intro x _ _
  show Z1p x x = _
  rw [Z1p_eq]
  simp
theorem eq_SaveS : EqP (.list TI2) Z1q := by
  intro x hw hb
  show Z1q x x = _
  have h1 : List.length x ≤ 1048576 := hb.1
  rw [Z1q_eq, decide_eq_true (rfl : (List.length x : Int) = (List.length x : Int)), Bool.not_true, cond_false]
  refine eq_loop (Z1q.a x x) (List.length x) (fun i hi => ?_) ?_
  · rw [Z1q.a_eq, lt_nat, inL_nat, decide_eq_true hi, w64_succ i _ hi (by omega), eq_Save _ (hw.2 _ (rd_mem_list (τ := TI2) x i hi)) (hb.2 _ (rd_mem_list (τ := TI2) x i hi))]; rfl
  · rw [Z1q.a_eq, lt_nat, decide_eq_false (Nat.lt_irrefl _), cond_false]
theorem eq_IntS : EqP (.list (.int .i64)) Z16 := by
  intro x hw hb
  show Z16 x x = _
  have h1 : List.length x ≤ 1048576 := hb.1
  rw [Z16_eq, decide_eq_true (rfl : (List.length x : Int) = (List.length x : Int)), Bool.not_true, cond_false]
  refine eq_loop (Z16.a x x) (List.length x) (fun i hi => ?_) ?_
  · rw [Z16.a_eq, lt_nat, inL_nat, decide_eq_true hi, w64_succ i _ hi (by omega), decide_eq_true (rfl : rd (τ := .int .i64) x (i : Int) = rd (τ := .int .i64) x (i : Int))]; rfl
  · rw [Z16.a_eq, lt_nat, decide_eq_false (Nat.lt_irrefl _), cond_false]
theorem eq_StringS : EqP (.list .str) Z1n := by
  intro x hw hb
  show Z1n x x = _
  have h1 : List.length x ≤ 1048576 := hb.1
  rw [Z1n_eq, decide_eq_true (rfl : (List.length x : Int) = (List.length x : Int)), Bool.not_true, cond_false]
  refine eq_loop (Z1n.a x x) (List.length x) (fun i hi => ?_) ?_
  · rw [Z1n.a_eq, lt_nat, inL_nat, decide_eq_true hi, w64_succ i _ hi (by omega), strEq_dec, decide_eq_true (rfl : rd (τ := .str) x (i : Int) = rd (τ := .str) x (i : Int))]; rfl
  · rw [Z1n.a_eq, lt_nat, decide_eq_false (Nat.lt_irrefl _), cond_false]
theorem eq_IntA32 : EqP (.arr (.int .i64) 32) Z14 := by
  intro x hw hb
  show Z14 x x = _
  rw [Z14_eq]
  refine eq_loop (Z14.a x x) 32 (fun i hi => ?_) ?_
  · rw [Z14.a_eq, decide_eq_true (show (i : Int) < 32 by omega), inL_nat, decide_eq_true hi, w64_succ i 32 hi (by omega), decide_eq_true (rfl : rd (τ := .int .i64) x (i : Int) = rd (τ := .int .i64) x (i : Int))]; rfl
  · rw [Z14.a_eq]; rfl
theorem eq_Hart : EqP THart Z15 := by
  intro x hw hb
  show Z15 x x = _
  rw [Z15_eq, eq_IntA32 x.1 hw.1 hb.1]
  simp
theorem eq_Thread : EqP TThr Z17 := by
  intro x hw hb
  show Z17 x x = _
  rw [Z17_eq, eq_Hart x.2.1 hw.2.1 hb.2.1, eq_IntS x.2.2.1 hw.2.2.1 hb.2.2.1]
  simp
theorem eq_ThreadS : EqP (.list TThr) Z18 := by
  intro x hw hb
  show Z18 x x = _
  have h1 : List.length x ≤ 1048576 := hb.1
  rw [Z18_eq, decide_eq_true (rfl : (List.length x : Int) = (List.length x : Int)), Bool.not_true, cond_false]
  refine eq_loop (Z18.a x x) (List.length x) (fun i hi => ?_) ?_
  · rw [Z18.a_eq, lt_nat, inL_nat, decide_eq_true hi, w64_succ i _ hi (by omega), eq_Thread _ (hw.2 _ (rd_mem_list (τ := TThr) x i hi)) (hb.2 _ (rd_mem_list (τ := TThr) x i hi))]; rfl
  · rw [Z18.a_eq, lt_nat, decide_eq_false (Nat.lt_irrefl _), cond_false]
theorem eq_Image : EqP TImg Z10 := by
  intro x hw hb
  show Z10 x x = _
  rw [Z10_eq, eq_SymbolS x.2.2 hw.2.2 hb.2.2]
  simp [strEq_dec]
theorem eq_Memory : EqP (.list TPage) Z13 := by
  intro x hw hb
  show Z13 x x = _
  rw [Z13_eq, eq_PageS x hw hb]
  rfl
theorem eq_Machine : EqP TMac Z1d := by
  intro x hw hb
  show Z1d x x = _
  rw [Z1d_eq, eq_Memory x.1 hw.1 hb.1, eq_ThreadS x.2.1 hw.2.1 hb.2.1, eq_EntryS x.2.2.1 hw.2.2.1 hb.2.2.1, eq_ShadowS x.2.2.2 hw.2.2.2 hb.2.2.2]
  simp
theorem eq_Linked : EqP TLnk Z1o := by
  intro x hw hb
  show Z1o x x = _
  rw [Z1o_eq, eq_IntS x.1 hw.1 hb.1, eq_StringS x.2.1 hw.2.1 hb.2.1, eq_IntS x.2.2.1 hw.2.2.1 hb.2.2.1, eq_StringS x.2.2.2 hw.2.2.2 hb.2.2.2]
  simp
theorem eq_Object : EqP TObj Z1m := by
  intro x hw hb
  show Z1m x x = _
  rw [Z1m_eq, eq_PatchFuncS x.2.2.1 hw.2.2.1 hb.2.2.1, eq_PatchDataS x.2.2.2.1 hw.2.2.2.1 hb.2.2.2.1, eq_RelocS x.2.2.2.2.1 hw.2.2.2.2.1 hb.2.2.2.2.1, eq_ShadowDeclS x.2.2.2.2.2 hw.2.2.2.2.2 hb.2.2.2.2.2]
  simp [strEq_dec]
theorem eq_Patch : EqP TPat Z1r := by
  intro x hw hb
  show Z1r x x = _
  rw [Z1r_eq, eq_Object x.1 hw.1 hb.1, eq_Linked x.2.1 hw.2.1 hb.2.1, eq_SaveS x.2.2 hw.2.2 hb.2.2]
  simp
theorem eq_PatchS : EqP (.list TPat) Z1s := by
  intro x hw hb
  show Z1s x x = _
  have h1 : List.length x ≤ 1048576 := hb.1
  rw [Z1s_eq, decide_eq_true (rfl : (List.length x : Int) = (List.length x : Int)), Bool.not_true, cond_false]
  refine eq_loop (Z1s.a x x) (List.length x) (fun i hi => ?_) ?_
  · rw [Z1s.a_eq, lt_nat, inL_nat, decide_eq_true hi, w64_succ i _ hi (by omega), eq_Patch _ (hw.2 _ (rd_mem_list (τ := TPat) x i hi)) (hb.2 _ (rd_mem_list (τ := TPat) x i hi))]; rfl
  · rw [Z1s.a_eq, lt_nat, decide_eq_false (Nat.lt_irrefl _), cond_false]
theorem eq_System : EqP TSys Z1t := by
  intro x hw hb
  show Z1t x x = _
  rw [Z1t_eq, eq_Image x.1 hw.1 hb.1, eq_Machine x.2.1 hw.2.1 hb.2.1, eq_PatchS x.2.2 hw.2.2 hb.2.2]
  simp
theorem patsR_of {ps : List Pat} (h : wfT (.list TPat) ps) : PatsR ps := by
  intro j hj k hk
  have hp := h.2 _ (rd_mem_list (τ := TPat) ps j hj)
  generalize rd (τ := TPat) ps (j : Int) = p at *
  have hr := hp.1.2.2.2.2.1.2 _ (rd_mem_list (τ := TRel) p.1.2.2.2.2.1 k hk)
  exact hr.1
theorem room_law (s : Sys) (hw : wfT TSys s) : Z1u s = some true := by
  rw [Z1u_eq]
  obtain ⟨r, e1, e2, e3⟩ := sz_System s hw 1048576 ⟨by decide, by decide⟩
  rw [e1]
  simp only [Option.bind_some]
  by_cases h : r < 0
  · rw [decide_eq_true h]; rfl
  · have hb := e3 (by omega)
    obtain ⟨v, v1, v2⟩ := room_both s (patsR_of hw.2.2)
    rw [decide_eq_false h, to_System s hw hb]
    simp only [Option.bind_some, cond_false, joinB]
    rw [v1, v2]
    simp only [Option.bind_some, decide_true, Bool.not_true, cond_false]
    rw [eq_System s hw hb]
    rfl
end Go.Proofs.YtaplgfojdekgkaaGreat.S
