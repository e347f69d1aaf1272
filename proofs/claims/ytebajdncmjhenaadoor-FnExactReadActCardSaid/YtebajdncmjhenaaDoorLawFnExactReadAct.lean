/- FnExactReadAct: for every input, the law returns true, and each argument reads afterwards as it did. No condition. -/
import Derived.Test.YtebajdncmjhenaaDoorRows
import Derived.Test.YtebajdncmjhenaaDoorSxW
import Derived.WalkKit
import Derived.ProofKit
import Derived.OpenShut
import Derived.ShutString
import Derived.ChangeOld
import Derived.Below
import Derived.SizedLaws
import Derived.LaidMore
import Derived.SevenTiedAt
import Derived.Test.YtebajdncmjhenaaDoorPsZe
import Derived.Shelf.Vars
import Derived.Test.YtebajdncmjhenaaDoorCards
import Derived.Test.YtebajdncmjhenaaDoorTie
namespace Go.Proofs.YtebajdncmjhenaaDoor.fnExactReadAct
open Go.ChangeShapes Go.WideShapes Go.ChangeAt Go.RowKit
open Go.ChangeMaps (open_string shut_string)
set_option linter.unusedVariables false
theorem own : ownKnob Tryd.prog.godebug = none := by kernel_rfl
theorem laidOut : laidOutB Tryd.prog = true := by kernel_rfl
theorem gTab : Tryd.prog.globalNamed "internal/strconv.uint64pow10" = some 5 := by kernel_rfl
theorem tTab : (Tryd.prog.globals[5]?).map (·.type) = some 107 := by kernel_rfl
/-- What the tables hold as the call begins. -/
abbrev laidL : List (String × DataW Unit) := [("math/bits.deBruijn32tab", Rows.laid_math_bits_deBruijn32tab), ("math/bits.deBruijn64tab", Rows.laid_math_bits_deBruijn64tab), ("internal/strconv.uint64pow10", Rows.laid_internal_strconv_uint64pow10), ("unicode/utf8.acceptRanges", Rows.laid_unicode_utf8_acceptRanges), ("strconv.ErrRange", Rows.laid_strconv_ErrRange), ("strconv.ErrSyntax", Rows.laid_strconv_ErrSyntax), ("unicode/utf8.first", Rows.laid_unicode_utf8_first)]
/-- The witness's start: what the door's run leaves, and the pinned table in its place. -/
noncomputable def startW (os : Os) : World :=
  let w0 := World.doorLaid Tryd.prog 400 os
  { w0 with heap := w0.heap.modify 3 fun
    | .cells _ t frozen => .cells (Pinned.utf8FirstZ.map fun z : Nat => Value.int .u8 (z : Int)).toArray t frozen
    | o => o }
theorem door_met (os : Os) (args : Array Value) : laidMetH Tryd.prog laidL ((startW os).forCall (fun _ _ => 0) ⟨#[], args, []⟩).memory :=
  laidMetH_of_parts3 (fuel := 8) (laidMet_of_run' 8 (by kernel_rfl) (by kernel_rfl)) (by kernel_rfl) (by kernel_rfl)
theorem gSyn : Tryd.prog.globalNamed "strconv.ErrSyntax" = some 0 := by kernel_rfl
theorem tSyn : (Tryd.prog.globals[0]?).map (·.type) = some 50 := by kernel_rfl
theorem of_laid {W : World} (h : laidMetH Tryd.prog laidL W) (hsh : W.ShapedOpen Tryd.prog) : S.inv.at_ (Go.Ps.InHeap W) W := by
  rw [MakeChecks.laidMetH_plain _ _ _ (by kernel_rfl)] at h
  obtain ⟨ps, h, _⟩ := h
  obtain ⟨g0, t0, cs0, f0, p0, q0, hg0, ht0, hv0, hd0, h, _⟩ := h
  obtain ⟨g1, t1, cs1, f1, p1, q1, hg1, ht1, hv1, hd1, h, _⟩ := h
  obtain ⟨g2, t2, cs2, f2, p2, q2, hg2, ht2, hv2, hd2, h, _⟩ := h
  obtain ⟨g3, t3, cs3, f3, p3, q3, hg3, ht3, hv3, hd3, h, _⟩ := h
  obtain ⟨g4, t4, cs4, f4, p4, q4, hg4, ht4, hv4, hd4, h, _⟩ := h
  obtain ⟨g5, t5, cs5, f5, p5, q5, hg5, ht5, hv5, hd5, h, _⟩ := h
  obtain rfl := Option.some.inj (gTab.symm.trans hg2)
  obtain rfl := Option.some.inj (tTab.symm.trans ht2)
  have h2 : Lib.TabIs Tryd.prog W "internal/strconv.uint64pow10" .u64 Lib.pow10Tab := by
    unfold Lib.TabIs
    rw [hv2, ← Lib.cells_of_tab (k := .u64) (zs := Lib.pow10Tab) (show Tryd.prog.underlying 107 = some (.array 20 80) by kernel_rfl) (show Tryd.prog.underlying 80 = some (.int .u64) by kernel_rfl) (by kernel_rfl) (by kernel_rfl) hd2]
  obtain ⟨m, hm⟩ : ∃ m, W.cell? ⟨2, 0, none⟩ = some (.int .i64 m) := cell_of_shapedOpen_int (P := Tryd.prog) (g := 2) (t := 3) (zero := #[.int .i64 0]) hsh (of_decide_eq_true (by kernel_rfl)) (by kernel_rfl) rfl (by kernel_rfl) (by kernel_rfl) Tryd.underlying3
  obtain rfl := Option.some.inj (gSyn.symm.trans hg5)
  obtain rfl := Option.some.inj (tSyn.symm.trans ht5)
  have hs : ∃ v, W.cell? ⟨0, 0, none⟩ = some v ∧ (v = .nilIface ∨ ∃ te pe, v = .iface te pe) := by
    rcases Go.Ps.trod_iface (by kernel_rfl) hd5 with e | ⟨u, v, e⟩
    · exact ⟨_, (Go.Ps.cell_of_var gSyn hv5 e).2, .inl rfl⟩
    · exact ⟨_, (Go.Ps.cell_of_var gSyn hv5 e).2, .inr ⟨u, v, rfl⟩⟩
  have hsz : 0 < W.heap.size := by
    obtain ⟨v, h, _⟩ := hs
    exact Go.Ps.cell_in h
  refine ⟨⟨?_, h2⟩, ⟨hsz, hs⟩, ⟨Go.Ps.cell_in hm, _, hm, m, rfl⟩⟩
  unfold Lib.TabIs World.var? at h2
  simp only [gTab, Option.bind_some] at h2
  show 5 < W.heap.size
  cases hh : W.heap[5]? with
  | none => rw [hh] at h2; cases h2
  | some b => exact (Array.getElem?_eq_some_iff.1 hh).1
set_option maxRecDepth 100000 in
theorem lifted (os : Os) (started : os.Started) (H : Type) (enc : TypeId × Value → H) :
    ReturnsInHanded {} Tryd.checked os 3 .any (fun w args => (Rows.fnExactReadActSpec.pre enc Tryd.prog Tryd.f3 [] false w args ∧ laidMetH Tryd.prog laidL w) ∧ sizedMet enc Tryd.prog Tryd.f3 (OpenSpec.ofChange Rows.fnExactReadActSpec) false w args) (Rows.fnExactReadActSpec.post enc Tryd.prog Tryd.f3 false true false false) := by
  refine returnsInHanded_of_change_and_shaped (C := Tryd.checked) (X := fun w _ => laidMetH Tryd.prog laidL w) (fun _ _ _ hh h => h.of_heap hh) own started (by kernel_rfl) Tryd.func3
    (ChangeSpec.witness_shaped (enc := enc) (C := Tryd.checked) (os := os) (X := fun w _ => laidMetH Tryd.prog laidL w) false (startW os) #[.string ByteArray.empty] 8 rfl (World.shaped_of_RefB (by kernel_rfl) (by kernel_rfl)) (by kernel_rfl) (by kernel_rfl) (by kernel_rfl) (door_met os _)) ?_
  intro W base args ds gs before hval0 hW hcnd hsz0 hL hsh
  have hval : ∀ (j : Nat) t v, Tryd.f3.params[j]? = some t → args[j]? = some v → Value.okWide Tryd.prog W .any base t v := hval0
  have hW' := hW
  obtain ⟨p, q, hA0, hV, rfl, hfz, hnd⟩ := hW
  have hA : DataW.TrodAll enc Tryd.prog W 0 (fun _ => true) true Tryd.f3.params.toList args.toList ds p := hA0
  rw [Tryd.params3] at hA hval
  obtain ⟨v0, vs0, d0, ds0, p0, q0, hargs0, rfl, rfl, h0, z0⟩ := trodAll_cons hA
  obtain ⟨rfl, rfl, rfl⟩ := trodAll_nil z0
  obtain rfl : args = #[v0] := by cases args; simp_all
  obtain ⟨rfl, rfl⟩ := trodVars_none hV
  have lt0 : ∀ x ∈ p0, x.block < W.heap.size := by obtain ⟨m, hm⟩ := h0; exact DataW.trod_lt m _ _ _ hm
  have h0' := h0
  obtain ⟨b0, rfl⟩ := okWide_string Tryd.underlying9 (hval 0 _ v0 rfl rfl)
  obtain ⟨fuel0, hf0⟩ := h0
  obtain ⟨s0, hs0, hw0⟩ := Go.Ps.trod_rep 30 fuel0 _ .str _ _ (by kernel_rfl) hf0
  clear hA0 hval0 hsz0
  have hwalk := S.walk s0 hw0 W (of_laid hL hsh) _ hs0
  refine hwalk.mono fun e W' ⟨he, bel⟩ => ?_
  subst he
  exact ⟨_, rfl, _, _, _, [], _, [], hW', trodAll_mk1 (shut_bool Tryd.underlying4 _), (trodAll_cons_mk (Below.trod laidOut (by kernel_rfl) (of_decide_eq_true (by kernel_rfl)) h0' bel lt0) trodAll_mk0), rfl, bel.frame _, fun h => by cases h⟩
theorem andI {a b : Bool} (ha : a = true) (hb : b = true) : (a && b) = true := by rw [ha, hb]; rfl
theorem j0 : (Rows.fnExactReadActRow.wf (OpenSpec.ofChange Rows.fnExactReadActSpec)) = true := (by kernel_rfl)
theorem j1 : (laidOutB Tryd.prog) = true := laidOut
theorem j2 : (mapsRowed Tryd.prog) = true := (by kernel_rfl)
theorem j3 : (Tryd.f3.params.all (Tryd.prog.readableRec ·)) = true := (by kernel_rfl)
theorem j4 : (namedTie Tryd.prog Rows.fnExactReadActRow.named Rows.fnExactReadActSpec.vars) = true := (by kernel_rfl)
theorem j5 : ((Rows.fnExactReadActRow.stops == [])) = true := (by kernel_rfl)
theorem j6 : ((Tryd.prog.stops == [])) = true := (by kernel_rfl)
theorem j7 : ((Rows.fnExactReadActRow.knobs == [])) = true := (by kernel_rfl)
theorem j8 : ((Tryd.prog.stopKnobs == [])) = true := (by kernel_rfl)
theorem j9 : ((Rows.fnExactReadActRow.inPlace == Tryd.prog.inPlace 3)) = true := (by kernel_rfl)
theorem j10 : ((Rows.fnExactReadActRow.unfollowed == Tryd.prog.unfollowed 3)) = true := (by kernel_rfl)
theorem j11 : ((Rows.fnExactReadActRow.recurses == Tryd.prog.recurses 3)) = true := (by kernel_rfl)
theorem j12 : ((Rows.fnExactReadActRow.named == Tryd.prog.varsNamed 3)) = true := (by kernel_rfl)
theorem j13 : ((Rows.fnExactReadActRow.maps == (Tryd.f3.params.toList ++ Rows.fnExactReadActSpec.plain.varTypes Tryd.prog).any (Tryd.prog.mapsRec ·))) = true := (by kernel_rfl)
theorem j14 : ((Rows.fnExactReadActRow.ifaces == (Tryd.f3.params.toList ++ Rows.fnExactReadActSpec.plain.varTypes Tryd.prog).any (Tryd.prog.ifacesRec ·))) = true := (by kernel_rfl)
theorem j15 : ((Rows.fnExactReadActRow.mapsOut == Tryd.prog.mapsAmong Tryd.f3.resultTypes.toList)) = true := (by kernel_rfl)
theorem j16 : ((Rows.fnExactReadActRow.loops == (Tryd.f3.params.toList ++ Rows.fnExactReadActSpec.plain.varTypes Tryd.prog).any (Tryd.prog.loopsFrom ·))) = true := (by kernel_rfl)
theorem j17 : ((Rows.fnExactReadActRow.wideKeys == (Tryd.f3.params.toList ++ Rows.fnExactReadActSpec.plain.varTypes Tryd.prog ++ Tryd.f3.resultTypes.toList).any (Tryd.prog.wideKeysFrom ·))) = true := (by kernel_rfl)
theorem j18 : (Rows.fnExactReadActSpec.vars.all (Tryd.prog.varReadable ·)) = true := (by kernel_rfl)
theorem j19 : (Tryd.f3.resultTypes.all (fun t => Tryd.prog.readableRec t && decide (t < Tryd.prog.types.size))) = true := (by kernel_rfl)
theorem j20 : ((Rows.fnExactReadActRow.ifacesOut == Tryd.f3.resultTypes.toList.any (Tryd.prog.ifacesRec ·))) = true := (by kernel_rfl)
theorem j21 : ((Rows.fnExactReadActRow.loopsOut == Tryd.f3.resultTypes.toList.any (Tryd.prog.loopsFrom ·))) = true := (by kernel_rfl)
theorem j22 : ((Rows.fnExactReadActRow.plainKeys == Tryd.prog.plainKeys)) = true := (by kernel_rfl)
theorem j23 : (Rows.fnExactReadActRow.shortTexts.isNone) = true := (by kernel_rfl)
theorem j24 : (Tryd.prog.stopsHeard) = true := (by kernel_rfl)
theorem j25 : (Tryd.prog.mayEnter) = true := (by kernel_rfl)
theorem j26 : ((Rows.fnExactReadActRow.lifted == Tryd.prog.liftsFinal)) = true := (by kernel_rfl)
theorem j27 : ((Tryd.prog.make == some Rows.fnExactReadActRow.make)) = true := (by kernel_rfl)
theorem j29 : ((Rows.fnExactReadActRow.pinned == Rows.fnExactReadActRow.pinnedBy)) = true := (by kernel_rfl)
theorem j30 : ((Rows.fnExactReadActRow.veiled == (Tryd.f3.params.toList ++ Rows.fnExactReadActSpec.plain.varTypes Tryd.prog ++ Tryd.f3.resultTypes.toList).any (Tryd.prog.veiledRec ·))) = true := (by kernel_rfl)
theorem j31 : (Rows.fnExactReadActRow.veiledFits Tryd.prog Tryd.f3.params.toList (Tryd.f3.params.toList ++ Rows.fnExactReadActSpec.plain.varTypes Tryd.prog ++ Tryd.f3.resultTypes.toList)) = true := (by kernel_rfl)
theorem closed : joinedFacts Tryd.prog 3 Tryd.f3 Rows.fnExactReadActSpec Rows.fnExactReadActRow = true := by
  unfold joinedFacts
  exact andI (andI (andI (andI (andI (andI (andI (andI (andI (andI (andI (andI (andI (andI (andI (andI (andI (andI (andI (andI (andI (andI (andI (andI (andI (andI (andI (andI (andI (andI (andI (j0) j1) j2) j3) j4) j5) j6) j7) j8) j9) j10) j11) j12) j13) j14) j15) j16) j17) j18) j19) j20) j21) j22) j23) j24) j25) j26) j27) (by kernel_rfl)) j29) j30) j31
theorem named3 : Tryd.prog.funcNamed Rows.fnExactReadActRow.func = some 3 := by kernel_rfl
theorem inst3 : Tryd.f3.isInstance Tryd.prog Rows.fnExactReadActRow.origin Rows.fnExactReadActRow.targs := of_decide_eq_true (by kernel_rfl)
theorem wrap3 : Tryd.f3.isWrapper Tryd.prog Rows.fnExactReadActRow.wrapper Rows.fnExactReadActRow.mainSum := by unfold Func.isWrapper; first | (rw [if_pos (by decide +kernel)]; kernel_rfl) | (rw [if_neg (by decide +kernel)]; exact ⟨rfl, rfl⟩)
theorem over : Rows.fnExactReadActRow.holds Tryd.pinned (OpenSpec.ofChange Rows.fnExactReadActSpec) :=
  OpenClaim.holds_of_wide 3 Tryd.f3 rfl rfl rfl rfl rfl rfl rfl ⟨rfl, rfl, rfl, rfl, rfl⟩ rfl rfl rfl rfl rfl named3 Tryd.func3 closed
    inst3 wrap3
    (fun os started H enc _ => lifted os started H enc)
theorem proved : Rows.FnExactReadActSaid := over
#print axioms proved
end Go.Proofs.YtebajdncmjhenaaDoor.fnExactReadAct
namespace Go.Proofs.YtebajdncmjhenaaDoor
/-- The row, under a short name, for the claim. -/
theorem fnExactReadAct_holds : Rows.FnExactReadActCardSaid :=
  Claim7.holds_tied_plain_at .later [] [.data, .data, .data, .data, .sentinel, .sentinel, .pinned] true (true, "840d1f742daf2e1b521aa19f9e9d97b4c65e4ea7895aeef2b6c645298454b4bd") true
    fnExactReadAct.proved (fun _ h => by cases h) (by kernel_rfl) (fun _ h => by cases h) fnExactReadAct_row_tie rfl ⟨rfl, rfl⟩ (by kernel_rfl) rfl
    (fun f fn hf hfn => by
      obtain rfl : f = 3 := Option.some.inj ((show Tryd.prog.funcNamed "loop.example/g00654/laws.FnExactReadAct" = some 3 by kernel_rfl).symm.trans hf) |>.symm
      obtain rfl : fn = Tryd.f3 := (Option.some.inj (Tryd.func3.symm.trans hfn)).symm
      exact ⟨by kernel_rfl, fun j t ht => by
        rw [Tryd.params3] at ht
        have hm : t ∈ [9] := by simpa using Array.mem_of_getElem? ht
        have hall : ([9].all fun u => !Tryd.prog.wantsStandIn u) = true := by kernel_rfl
        exact (show Tryd.prog.wantsStandIn t = false by simpa using List.all_eq_true.1 hall t hm)⟩)
    (by kernel_rfl)
#print axioms fnExactReadAct_holds
end Go.Proofs.YtebajdncmjhenaaDoor
