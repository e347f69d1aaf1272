/- Operations that may be carried out in any order: silent ones, and calls beside silent ones. -/
import Derived.Test.YtpfplngeakmghaaPrS
import Derived.Test.YtpfplngeakmghaaPrD
namespace Go.Pr
set_option linter.unusedVariables false
variable {C : Cfg} {R : Type}

abbrev Mem := Nat → Option Blk
abbrev memSt (mem : Mem) : St := ⟨0, fun _ => .v .undef, mem⟩

/-- What a silent operation yields. -/
def sil (C : Cfg) (mem : Mem) (ev : Operand → SV) (op : Op) : Option SV :=
  match op with
  | .move x | .assign x => some (ev x)
  | .pick c a b => pickK (ev c) (ev a) (ev b) some
  | .binOp op t x y _ => match ev x, ev y with
    | .v (.bool x), .v (.bool y) => boolK C op t x y fun r => some (.v r)
    | .v x, .v y => binK op x y fun r => some (.v r)
    | _, _ => none
  | .unOp op _ x => match ev x with
    | .v x => unK op x fun r => some (.v r)
    | _ => none
  | .load t a => match ev a with
    | .v p => loadK C (memSt mem) t p some
    | _ => none
  | .fieldAddr t x f => match ev x, fieldOff C t f with
    | .v p, some (off, size) => bif Nat.ble 1 size then (match movePtr p off with | some p => some (.v p) | none => none) else none
    | _, _ => none
  | .field t x f => match ev x, fieldOff C t f, fieldAgg C t f with
    | .agg cs, some (off, size), some agg => match cutC cs off size with
      | some c => bif agg then some (.agg c) else match c with
        | [c] => bif Nat.beq c.width 1 then some (.v c) else none
        | _ => none
      | none => none
    | _, _, _ => none
  | .indexAddr t x i => indexAddrK C (memSt mem) t (ev x) (ev i).pv fun p => some (.v p)
  | .index t x i => match ev x, ev i with
    | .v (.str u), .v (.int _ n) => bif isStr C t then (bif inL n u.size then some (.v (.int .u8 (bt u n))) else none) else none
    | _, _ => none
  | .nilCheck x => match ev x with
    | .v (.ptr a b) => some (.v (.ptr a b))
    | .v (.elt a b c) => some (.v (.elt a b c))
    | .v (.cptr a b c) => some (.v (.cptr a b c))
    | _ => none
  | .convert src dst x => match ev x with
    | .v p => bif isStr C src && isSlice C dst then bytesK C (memSt mem) src dst p (fun p => some (.v p)) else convK C (memSt mem) src dst p fun p => some (.v p)
    | _ => none
  | .extract t i => extractK (ev t) i some
  | .call c => match c.callee with
    | .builtin .len => match c.args.toList, c.argTypes.toList with
      | [x], [t] => lenK C (memSt mem) t (ev x) fun p => some (.v p)
      | _, _ => none
    | _ => none
  | _ => none

theorem bind2 {α β γ : Type} (x : Option α) (f : α → β) (k : β → Option γ) : (x.bind fun a => some (f a)).bind k = x.bind fun a => k (f a) := by cases x <;> rfl
theorem loadK_m (s : St) (t : TypeId) (p : PV) (k : SV → Option R) : loadK C s t p k = loadK C (memSt s.mem) t p k := rfl
theorem lenK_m (s : St) (t : TypeId) (p : SV) (k : PV → Option R) : lenK C s t p k = lenK C (memSt s.mem) t p k := rfl
theorem indexAddrK_m (s : St) (t : TypeId) (x : SV) (i : PV) (k : PV → Option R) : indexAddrK C s t x i k = indexAddrK C (memSt s.mem) t x i k := rfl
theorem convK_m (s : St) (t u : TypeId) (p : PV) (k : PV → Option R) : convK C s t u p k = convK C (memSt s.mem) t u p k := rfl
theorem bytesK_m (s : St) (t u : TypeId) (p : PV) (k : PV → Option R) : bytesK C s t u p k = bytesK C (memSt s.mem) t u p k := rfl

theorem sil_do {env : C.Env} {id : Nat} {op : Op} (h : silentOp op = true) (s : St) (k : SV → St → Option R) : doK C env id op s k = (sil C s.mem s.ev op).bind fun x => k x s := by
  cases op <;> simp only [silentOp] at h <;> try (simp at h; done)
  case call c =>
    split at h
    · rename_i hc
      simp only [doK, sil, hc]
      match c.args.toList, c.argTypes.toList with
      | [x], [t] => simp only []; rw [lenK_f, ← lenK_m, lenK_f (k := fun p => some (SV.v p)), bind2]
      | [], _ => rfl
      | _ :: _ :: _, _ => rfl
      | [_], [] => rfl
      | [_], _ :: _ :: _ => rfl
    · simp at h
  case move => rfl
  case assign => rfl
  case pick c a b => simp only [doK, sil]; exact pickK_f _ _ _ _
  case binOp op t x y _ =>
    simp only [doK, sil]
    cases s.ev x with
    | v a =>
      cases s.ev y with
      | v b =>
        cases a <;> cases b <;> simp only [] <;> first | (rw [boolK_f, boolK_f (k := fun r => some (SV.v r)), bind2]; done) | (rw [binK_f, binK_f (k := fun r => some (SV.v r)), bind2])
      | agg _ => cases a <;> rfl
      | tup _ _ => cases a <;> rfl
    | agg _ => rfl
    | tup _ _ => rfl
  case unOp op t x =>
    simp only [doK, sil]
    cases s.ev x <;> simp only [] <;> try rfl
    rw [unK_f, unK_f (k := fun r => some (SV.v r)), bind2]
  case load t a =>
    simp only [doK, sil]
    cases s.ev a <;> simp only [] <;> try rfl
    rw [loadK_f, loadK_m]
  case fieldAddr t x f =>
    simp only [doK, sil]
    cases s.ev x <;> cases fieldOff C t f <;> simp only [] <;> try rfl
    rw [condB]; refine condN _ _ _ _ _ ?_ rfl
    rename_i p q
    cases movePtr p q.1 <;> rfl
  case field t x f =>
    simp only [doK, sil]
    cases s.ev x <;> cases fieldOff C t f <;> cases fieldAgg C t f <;> simp only [] <;> try rfl
    rename_i cs q agg
    cases cutC cs q.1 q.2 <;> simp only [] <;> try rfl
    rename_i c
    rw [condB]; refine condN _ _ _ _ _ rfl ?_
    match c with
    | [] => rfl
    | [c] => simp only []; rw [condB]; rfl
    | _ :: _ :: _ => rfl
  case indexAddr t x i =>
    simp only [doK, sil]
    rw [indexAddrK_f, ← indexAddrK_m, indexAddrK_f (k := fun r => some (SV.v r)), bind2]
  case index t x i =>
    simp only [doK, sil]
    cases s.ev x with
    | v a =>
      cases s.ev i with
      | v b =>
        cases a <;> cases b <;> simp only [] <;> try rfl
        rw [condB]; refine condN _ _ _ _ _ ?_ rfl
        rw [condB]; rfl
      | agg _ => cases a <;> rfl
      | tup _ _ => cases a <;> rfl
    | agg _ => rfl
    | tup _ _ => rfl
  case nilCheck x =>
    simp only [doK, sil]
    cases s.ev x with
    | v a => cases a <;> rfl
    | agg _ => rfl
    | tup _ _ => rfl
  case convert t u x =>
    simp only [doK, sil]
    cases s.ev x <;> simp only [] <;> try rfl
    rw [condB]
    refine condN _ _ _ _ _ ?_ ?_
    · rw [bytesK_f, ← bytesK_m, bytesK_f (k := fun r => some (SV.v r)), bind2]
    · rw [convK_f, ← convK_m, convK_f (k := fun r => some (SV.v r)), bind2]
  case extract x i =>
    simp only [doK, sil]
    rw [extractK_f]

/-! ### Freezing leaves what they yield -/
def memFreeze (mem : Mem) (id : Nat) (e : Ty) (xs : List e.den) : Mem := fun t => bif Nat.beq t id then none else (mem t).map (Blk.map (PV.freeze id e xs))

section
variable {mem : Mem} {id : Nat} {T : TypeId} {e : Ty} {xs : List e.den}
abbrev fz (id : Nat) (e : Ty) (xs : List e.den) : PV → PV := PV.freeze id e xs

theorem fz_width (p : PV) : (fz id e xs p).width = p.width := by
  cases p <;> simp only [fz, PV.freeze] <;> try rfl
  case own i => cases Nat.beq i id <;> rfl
  case elt i _ _ => cases Nat.beq i id <;> rfl
theorem dropC_map {f : PV → PV} (hf : ∀ p, (f p).width = p.width) : ∀ (cs : List PV) (n : Nat), dropC (cs.map f) n = (dropC cs n).map (·.map f)
  | cs, 0 => by cases cs <;> rfl
  | [], _ + 1 => rfl
  | p :: cs, n + 1 => by
    simp only [List.map_cons, dropC, hf]
    cases Nat.ble p.width (n + 1)
    · rfl
    · exact dropC_map hf cs _
theorem takeC_map {f : PV → PV} (hf : ∀ p, (f p).width = p.width) : ∀ (cs : List PV) (n : Nat), takeC (cs.map f) n = (takeC cs n).map (·.map f)
  | cs, 0 => by cases cs <;> rfl
  | [], _ + 1 => rfl
  | p :: cs, n + 1 => by
    simp only [List.map_cons, takeC, hf]
    cases Nat.ble p.width (n + 1)
    · rfl
    · simp only [cond_true, takeC_map hf cs]
      cases takeC cs (n + 1 - p.width) <;> rfl
theorem cutC_map {f : PV → PV} (hf : ∀ p, (f p).width = p.width) (cs : List PV) (o n : Nat) : cutC (cs.map f) o n = (cutC cs o n).map (·.map f) := by
  unfold cutC
  rw [dropC_map hf]
  cases dropC cs o with
  | none => rfl
  | some t => exact takeC_map hf t n
theorem inj_fz (τ : Ty) (x : τ.den) : (inj τ x).map (fz id e xs) = inj τ x := by
  have h := inj_ids τ x
  rw [List.map_congr_left (g := fun p => p) (fun p hp => ?_), List.map_id']
  have := h p hp
  cases p <;> first | rfl | simp [PV.ids] at this

/-- What a pointer sees. -/
theorem look_fz (hm : mem id = some (.rows T e xs)) (p : PV) (n : Nat) : (memSt (memFreeze mem id e xs)).look (fz id e xs p) n = ((memSt mem).look p n).map (·.map (fz id e xs)) := by
  cases p <;> simp only [fz, PV.freeze, St.look, Option.map_none] <;> try rfl
  case own i => cases Nat.beq i id <;> rfl
  case ptr i o =>
    simp only [memFreeze]
    by_cases hi : i = id
    · subst hi; simp only [Nat.beq_refl, cond_true, hm]; rfl
    · simp only [beq_ne hi, cond_false]
      cases hmi : mem i with
      | none => rfl
      | some b => cases b with
        | box cs => simp only [Option.map_some, Blk.map]; exact cutC_map fz_width cs o n
        | rows _ _ _ => rfl
  case elt i j o =>
    by_cases hi : i = id
    · subst hi
      simp only [Nat.beq_refl, cond_true, hm]
      rw [show rd xs j = xs.getD j.toNat e.dflt from rfl, ← cutC_map fz_width, inj_fz]
    · simp only [beq_ne hi, cond_false, memFreeze]
      cases hmi : mem i with
      | none => rfl
      | some b => cases b with
        | box cs => rfl
        | rows _ e' ys => simp only [Option.map_some, Blk.map]; rw [← cutC_map fz_width, inj_fz]
  case cptr τ x o => rw [← cutC_map fz_width, inj_fz]

theorem asList_fz (hm : mem id = some (.rows T e xs)) (p : PV) : (memSt (memFreeze mem id e xs)).asList (fz id e xs p) = (memSt mem).asList p := by
  cases p <;> simp only [fz, PV.freeze, St.asList] <;> try rfl
  case own i =>
    by_cases hi : i = id
    · subst hi; simp only [Nat.beq_refl, cond_true, hm]
    · simp only [beq_ne hi, cond_false, memFreeze]
      cases hmi : mem i with
      | none => rfl
      | some b => cases b <;> rfl
  case elt i _ _ => cases Nat.beq i id <;> rfl

theorem omap_cond {α β : Type} (c : Bool) (x y : Option α) (f : α → β) : (bif c then x else y).map f = bif c then x.map f else y.map f := by cases c <;> rfl
theorem omap_bind {α β γ : Type} (x : Option α) (f : α → Option β) (g : β → γ) : (x.bind f).map g = x.bind fun a => (f a).map g := by cases x <;> rfl

def isB : SV → Option Bool
  | .v (.bool b) => some b
  | _ => none
theorem isB_fz (a : SV) : isB (a.map (fz id e xs)) = isB a := by
  cases a with
  | v p =>
    cases p <;> simp only [SV.map, fz, PV.freeze] <;> try rfl
    case own i => cases Nat.beq i id <;> rfl
    case elt i _ _ => cases Nat.beq i id <;> rfl
  | agg _ => rfl
  | tup _ _ => rfl
theorem pickK_isB (c a b : SV) (k : SV → Option R) : pickK c a b k = match isB c with
    | none => none
    | some c => match isB a, isB b with
      | some x, some y => k (.v (.bool (bif c then x else y)))
      | _, _ => bif c then k a else k b := by
  cases c with
  | v p =>
    cases p <;> try rfl
    case bool c =>
      cases a with
      | v p =>
        cases b with
        | v q => cases p <;> cases q <;> rfl
        | agg _ => cases p <;> rfl
        | tup _ _ => cases p <;> rfl
      | agg _ => rfl
      | tup _ _ => rfl
  | agg _ => rfl
  | tup _ _ => rfl

def scalS : SV → Bool
  | .v (.int _ _) | .v (.str _) | .v (.bool _) => true
  | _ => false
theorem scal_fz {a : SV} (h : scalS a = true) : a.map (fz id e xs) = a := by
  cases a with
  | v p => cases p <;> first | rfl | simp [scalS] at h
  | agg _ => simp [scalS] at h
  | tup _ _ => simp [scalS] at h
theorem scal_fz2 (a : SV) : scalS (a.map (fz id e xs)) = scalS a := by
  cases a with
  | v p =>
    cases p <;> simp only [SV.map, fz, PV.freeze] <;> try rfl
    case own i => cases Nat.beq i id <;> rfl
    case elt i _ _ => cases Nat.beq i id <;> rfl
  | agg _ => rfl
  | tup _ _ => rfl
theorem fz_scal {p : PV} (h : scalS (.v (fz id e xs p)) = true) : fz id e xs p = p := by
  have h' : scalS ((SV.v p).map (fz id e xs)) = true := h
  rw [scal_fz2] at h'
  have := scal_fz (id := id) (e := e) (xs := xs) h'
  simpa [SV.map] using this
def bin2 (C : Cfg) (op : BinOp) (t : TypeId) (a b : SV) : Option SV := match a, b with
  | .v (.bool x), .v (.bool y) => boolK C op t x y fun r => some (.v r)
  | .v x, .v y => binK op x y fun r => some (.v r)
  | _, _ => none
theorem bin2_none (op : BinOp) (t : TypeId) {a b : SV} (h : scalS a = false ∨ scalS b = false) : bin2 C op t a b = none := by
  cases a with
  | v p =>
    cases b with
    | v q => cases p <;> cases q <;> first | rfl | simp [scalS] at h
    | agg _ => cases p <;> rfl
    | tup _ _ => cases p <;> rfl
  | agg _ => rfl
  | tup _ _ => rfl
theorem bin2_closed (op : BinOp) (t : TypeId) (a b : SV) : (bin2 C op t a b).map (SV.map (fz id e xs)) = bin2 C op t a b := by
  unfold bin2
  split
  · unfold boolK; split <;> (try split) <;> (try split) <;> rfl
  · unfold binK binI
    (repeat' (first | rfl | (simp only [omap_cond]; apply condN) | split))
  · rfl
theorem bin2_fz (op : BinOp) (t : TypeId) (a b : SV) : bin2 C op t (a.map (fz id e xs)) (b.map (fz id e xs)) = (bin2 C op t a b).map (SV.map (fz id e xs)) := by
  cases ha : scalS a with
  | false => rw [bin2_none op t (.inl ha), bin2_none op t (.inl (by rw [scal_fz2]; exact ha))]; rfl
  | true =>
    cases hb : scalS b with
    | false => rw [bin2_none op t (.inr hb), bin2_none op t (.inr (by rw [scal_fz2]; exact hb))]; rfl
    | true => rw [scal_fz ha, scal_fz hb, bin2_closed]
def un1 (op : UnOp) (a : SV) : Option SV := match a with
  | .v x => unK op x fun r => some (.v r)
  | _ => none
theorem un2_fz (op : UnOp) (a : SV) : un1 op (a.map (fz id e xs)) = (un1 op a).map (SV.map (fz id e xs)) := by
  have hn : ∀ {a : SV}, scalS a = false → un1 op a = none := by
    intro a h
    cases a with
    | v p => cases p <;> cases op <;> first | rfl | simp [scalS] at h
    | agg _ => rfl
    | tup _ _ => rfl
  cases ha : scalS a with
  | false => rw [hn ha, hn (by rw [scal_fz2]; exact ha)]; rfl
  | true =>
    rw [scal_fz ha]
    unfold un1
    split
    · unfold unK; split <;> rfl
    · rfl
def idx (C : Cfg) (t : TypeId) (a b : SV) : Option SV := match a, b with
  | .v (.str u), .v (.int _ n) => bif isStr C t then (bif inL n u.size then some (.v (.int .u8 (bt u n))) else none) else none
  | _, _ => none
theorem idx_fz (t : TypeId) (a b : SV) : idx C t (a.map (fz id e xs)) (b.map (fz id e xs)) = (idx C t a b).map (SV.map (fz id e xs)) := by
  have hn : ∀ {a b : SV}, (scalS a = false ∨ scalS b = false) → idx C t a b = none := by
    intro a b h
    cases a with
    | v p =>
      cases b with
      | v q => cases p <;> cases q <;> first | rfl | simp [scalS] at h
      | agg _ => cases p <;> rfl
      | tup _ _ => cases p <;> rfl
    | agg _ => rfl
    | tup _ _ => rfl
  cases ha : scalS a with
  | false => rw [hn (.inl ha), hn (.inl (by rw [scal_fz2]; exact ha))]; rfl
  | true =>
    cases hb : scalS b with
    | false => rw [hn (.inr hb), hn (.inr (by rw [scal_fz2]; exact hb))]; rfl
    | true =>
      rw [scal_fz ha, scal_fz hb]
      unfold idx
      split
      · rw [omap_cond]; refine condN _ _ _ _ _ ?_ rfl; rw [omap_cond]; rfl
      · rfl
theorem movePtr_fz (p : PV) (n : Nat) : movePtr (fz id e xs p) n = (movePtr p n).map (fz id e xs) := by
  cases p <;> simp only [fz, PV.freeze, movePtr, Option.map_none, Option.map_some] <;> try rfl
  case own i => cases Nat.beq i id <;> rfl
  case elt i _ _ => cases Nat.beq i id <;> rfl
theorem pv_fz (a : SV) : (a.map (fz id e xs)).pv = fz id e xs a.pv := by cases a <;> rfl
theorem conv_fz (hm : mem id = some (.rows T e xs)) (t u : TypeId) (p : PV) : (convK C (memSt (memFreeze mem id e xs)) t u (fz id e xs p) fun p => some (SV.v p)) = (convK C (memSt mem) t u p fun p => some (SV.v p)).map (SV.map (fz id e xs)) := by
  have last : ∀ q : PV, (∀ k n, q ≠ .int k n) → (∀ s, q ≠ .str s) → ∀ m : Mem, (convK C (memSt m) t u q fun p => some (SV.v p)) = match C.ti t, C.ti u with
      | some _, some D => (match D.ty, sliceElem C t, (memSt m).asList q with
        | .str, some (.int .u8), some ⟨.int .u8, xs⟩ => some (.v (.str (bytesOf xs)))
        | _, _, _ => none)
      | _, _ => none := by
    intro q h1 h2 m
    unfold convK
    cases C.ti t with
    | none => rfl
    | some I =>
      cases C.ti u with
      | none => rfl
      | some D => cases q <;> first | rfl | exact absurd rfl (h1 _ _) | exact absurd rfl (h2 _)
  have closed : ∀ (x : Option SV), (∀ y, x = some y → scalS y = true) → x.map (SV.map (fz id e xs)) = x := by
    intro x h
    cases x with
    | none => rfl
    | some y => simp only [Option.map_some, scal_fz (h y rfl)]
  by_cases h1 : ∃ k n, p = .int k n
  · obtain ⟨k, n, rfl⟩ := h1
    simp only [fz, PV.freeze, convK]
    cases C.ti t <;> cases C.ti u <;> try rfl
    simp only []
    split <;> rfl
  · by_cases h2 : ∃ s, p = .str s
    · obtain ⟨s, rfl⟩ := h2
      simp only [fz, PV.freeze, convK]
      cases C.ti t <;> cases C.ti u <;> try rfl
      simp only []
      split <;> rfl
    · rw [last p (fun k n e => h1 ⟨k, n, e⟩) (fun s e => h2 ⟨s, e⟩) mem, last (fz id e xs p) (fun k n e' => ?_) (fun s e' => ?_), asList_fz hm]
      · refine (closed _ fun y hy => ?_).symm
        split at hy
        · split at hy
          · simp only [Option.some.injEq] at hy; subst hy; rfl
          · simp at hy
        · simp at hy
      · exact h1 ⟨k, n, fz_scal (by rw [e']; rfl) ▸ e'⟩
      · exact h2 ⟨s, fz_scal (by rw [e']; rfl) ▸ e'⟩

theorem sil_fz (hm : mem id = some (.rows T e xs)) {op : Op} (h : silentOp op = true) (ev : Operand → SV) : sil C (memFreeze mem id e xs) (fun x => (ev x).map (fz id e xs)) op = (sil C mem ev op).map (SV.map (fz id e xs)) := by
  cases op <;> simp only [silentOp] at h <;> try (simp at h; done)
  case move => rfl
  case assign => rfl
  case call c =>
    split at h
    · rename_i hc
      simp only [sil, hc]
      match c.args.toList, c.argTypes.toList with
      | [x], [t] =>
        simp only []
        cases ev x with
        | v p =>
          cases p <;> simp only [SV.map, fz, PV.freeze, lenK] <;> try (first | rfl | (rw [omap_cond]; rfl))
          case own i =>
            by_cases hi : i = id
            · subst hi; simp only [Nat.beq_refl, cond_true, hm]; rw [omap_cond]; rfl
            · simp only [beq_ne hi, cond_false, memFreeze]
              cases hmi : mem i with
              | none => rfl
              | some b => cases b <;> simp only [Option.map_some, Blk.map] <;> first | rfl | (rw [omap_cond]; rfl)
          case elt i _ _ => cases Nat.beq i id <;> rfl
        | agg _ => rfl
        | tup _ _ => rfl
      | [], _ => rfl
      | _ :: _ :: _, _ => rfl
      | [_], [] => rfl
      | [_], _ :: _ :: _ => rfl
    · simp at h
  case load t a =>
    simp only [sil]
    cases ev a with
    | v p =>
      simp only [SV.map, loadK]
      cases C.ti t with
      | none => rfl
      | some I =>
        simp only [look_fz hm]
        cases (memSt mem).look p I.size with
        | none => rfl
        | some cs =>
          simp only [Option.map_some]
          rw [omap_cond]
          refine condN _ _ _ _ _ rfl ?_
          match cs with
          | [] => rfl
          | [c] => simp only [List.map_cons, List.map_nil, fz_width]; rw [omap_cond]; rfl
          | _ :: _ :: _ => rfl
    | agg _ => rfl
    | tup _ _ => rfl
  case nilCheck x =>
    simp only [sil]
    cases ev x with
    | v p =>
      cases p <;> simp only [SV.map, fz, PV.freeze] <;> try rfl
      case own i => cases Nat.beq i id <;> rfl
      case elt i _ _ => cases hb : Nat.beq i id <;> simp [SV.map, PV.freeze, hb]
    | agg _ => rfl
    | tup _ _ => rfl
  case pick c a b => 
    simp only [sil, pickK_isB, isB_fz]
    cases isB (ev c) with
    | none => rfl
    | some c =>
      cases isB (ev a) with
      | none => cases c <;> rfl
      | some x =>
        cases isB (ev b) with
        | none => cases c <;> rfl
        | some y => rfl
  case binOp op t x y _ => exact bin2_fz op t (ev x) (ev y)
  case unOp op t x => exact un2_fz op (ev x)
  case index t x i => exact idx_fz t (ev x) (ev i)
  case fieldAddr t x f =>
    simp only [sil]
    cases fieldOff C t f with
    | none => cases ev x <;> rfl
    | some q =>
      cases ev x with
      | v p =>
        simp only [SV.map, movePtr_fz]
        rw [omap_cond]
        refine condN _ _ _ _ _ ?_ rfl
        cases movePtr p q.1 <;> rfl
      | agg _ => rfl
      | tup _ _ => rfl
  case field t x f =>
    simp only [sil]
    cases ev x with
    | agg cs =>
      cases fieldOff C t f with
      | none => rfl
      | some q =>
        cases fieldAgg C t f with
        | none => rfl
        | some agg =>
          simp only [SV.map, cutC_map fz_width]
          cases cutC cs q.1 q.2 with
          | none => rfl
          | some c =>
            simp only [Option.map_some]
            rw [omap_cond]
            refine condN _ _ _ _ _ rfl ?_
            match c with
            | [] => rfl
            | [c] => simp only [List.map_cons, List.map_nil, fz_width]; rw [omap_cond]; rfl
            | _ :: _ :: _ => rfl
    | v _ => rfl
    | tup _ _ => rfl
  case extract x i =>
    simp only [sil]
    cases ev x with
    | tup cs sh =>
      simp only [SV.map, extractK]
      cases sh[i]? with
      | none => rfl
      | some q =>
        obtain ⟨n, agg⟩ := q
        simp only [cutC_map fz_width]
        cases cutC cs ((sh.take i).foldr (fun a b => a.1 + b) 0) n with
        | none => rfl
        | some c =>
          simp only [Option.map_some]
          rw [omap_cond]
          refine condN _ _ _ _ _ rfl ?_
          match c with
          | [] => rfl
          | [c] => rfl
          | _ :: _ :: _ => rfl
    | v _ => rfl
    | agg _ => rfl
  case indexAddr t x i =>
    simp only [sil, pv_fz]
    generalize (ev i).pv = j
    cases j <;> simp only [fz, PV.freeze, indexAddrK] <;> try rfl
    case own i => cases Nat.beq i id <;> rfl
    case elt i _ _ => cases Nat.beq i id <;> rfl
    case int k n =>
      cases ev x with
      | v p =>
        cases p <;> simp only [SV.map, PV.freeze] <;> try rfl
        case list e' ys => rw [omap_cond]; refine condN _ _ _ _ _ ?_ rfl; rw [omap_cond]; rfl
        case own i =>
          by_cases hi : i = id
          · subst hi
            simp only [Nat.beq_refl, cond_true, hm]
            rw [omap_cond]; refine condN _ _ _ _ _ ?_ rfl; rw [omap_cond]; refine condN _ _ _ _ _ ?_ rfl
            simp [SV.map, PV.freeze, rd]
          · simp only [beq_ne hi, cond_false, memFreeze]
            cases hmi : mem i with
            | none => rfl
            | some b =>
              cases b with
              | box _ => rfl
              | rows _ e' ys =>
                simp only [Option.map_some, Blk.map]
                rw [omap_cond]; refine condN _ _ _ _ _ ?_ rfl; rw [omap_cond]; refine condN _ _ _ _ _ ?_ rfl
                simp [SV.map, PV.freeze, beq_ne hi]
        case elt i _ _ => cases Nat.beq i id <;> rfl
      | agg _ => rfl
      | tup _ _ => rfl
  case convert t u x =>
    simp only [sil]
    cases ev x with
    | v p =>
      simp only [SV.map]
      rw [omap_cond]
      refine condN _ _ _ _ _ ?_ ?_
      · cases p <;> simp only [fz, PV.freeze, bytesK] <;> try rfl
        case own i => cases Nat.beq i id <;> rfl
        case elt i _ _ => cases Nat.beq i id <;> rfl
        case str s => rw [omap_cond]; refine condN _ _ _ _ _ ?_ rfl; split <;> rfl
      · exact conv_fz hm t u p
    | agg _ => rfl
    | tup _ _ => rfl
end
end Go.Pr
