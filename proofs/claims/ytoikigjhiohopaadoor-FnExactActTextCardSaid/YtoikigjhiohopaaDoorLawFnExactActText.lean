/- FnExactActText: for every input, the law returns true, and each argument reads afterwards as it did. No condition. -/
import Derived.Test.YtoikigjhiohopaaDoorRows
import Derived.Test.YtoikigjhiohopaaDoorSxW
import Derived.WalkKit
import Derived.ProofKit
import Derived.OpenShut
import Derived.ShutString
import Derived.ChangeOld
import Derived.Below
import Derived.SizedLaws
import Derived.LaidMore
import Derived.SevenTiedAt
import Derived.Test.YtoikigjhiohopaaDoorCards
import Derived.Test.YtoikigjhiohopaaDoorTie
namespace Go.Proofs.YtoikigjhiohopaaDoor.fnExactActText
open Go.ChangeShapes Go.WideShapes Go.ChangeAt Go.RowKit
open Go.ChangeMaps (open_string shut_string)
set_option linter.unusedVariables false
theorem own : ownKnob Tryd.prog.godebug = none := by kernel_rfl
theorem laidOut : laidOutB Tryd.prog = true := by kernel_rfl
theorem gTab : Tryd.prog.globalNamed "internal/strconv.uint64pow10" = some 3 := by kernel_rfl
theorem tTab : (Tryd.prog.globals[3]?).map (·.type) = some 106 := by kernel_rfl
/-- What the tables hold as the call begins. -/
abbrev laidL : List (String × DataW Unit) := [("math/bits.deBruijn32tab", Rows.laid_math_bits_deBruijn32tab), ("math/bits.deBruijn64tab", Rows.laid_math_bits_deBruijn64tab), ("internal/strconv.uint64pow10", Rows.laid_internal_strconv_uint64pow10), ("strconv.ErrRange", Rows.laid_strconv_ErrRange), ("strconv.ErrSyntax", Rows.laid_strconv_ErrSyntax)]
theorem door_met (os : Os) (args : Array Value) : laidMetH Tryd.prog laidL ((World.doorLaid Tryd.prog 400 os).forCall (fun _ _ => 0) ⟨#[], args, []⟩).memory :=
  laidMetH_of_parts3 (fuel := 8) (laidMet_of_run' 8 (by kernel_rfl) (by kernel_rfl)) (by kernel_rfl) (by kernel_rfl)
theorem of_laid {W : World} (h : laidMetH Tryd.prog laidL W) : S.inv.at_ (Go.Ps.InHeap W) W := by
  rw [MakeChecks.laidMetH_plain _ _ _ (by kernel_rfl)] at h
  obtain ⟨ps, h, _⟩ := h
  obtain ⟨g0, t0, cs0, f0, p0, q0, hg0, ht0, hv0, hd0, h, _⟩ := h
  obtain ⟨g1, t1, cs1, f1, p1, q1, hg1, ht1, hv1, hd1, h, _⟩ := h
  obtain ⟨g2, t2, cs2, f2, p2, q2, hg2, ht2, hv2, hd2, h, _⟩ := h
  obtain rfl := Option.some.inj (gTab.symm.trans hg2)
  obtain rfl := Option.some.inj (tTab.symm.trans ht2)
  have h2 : Lib.TabIs Tryd.prog W "internal/strconv.uint64pow10" .u64 Lib.pow10Tab := by
    unfold Lib.TabIs
    rw [hv2, ← Lib.cells_of_tab (k := .u64) (zs := Lib.pow10Tab) (show Tryd.prog.underlying 106 = some (.array 20 87) by kernel_rfl) (show Tryd.prog.underlying 87 = some (.int .u64) by kernel_rfl) (by kernel_rfl) (by kernel_rfl) hd2]
  refine ⟨?_, h2⟩
  unfold Lib.TabIs World.var? at h2
  simp only [gTab, Option.bind_some] at h2
  show 3 < W.heap.size
  cases hh : W.heap[3]? with
  | none => rw [hh] at h2; cases h2
  | some b => exact (Array.getElem?_eq_some_iff.1 hh).1
set_option maxRecDepth 100000 in
theorem lifted (os : Os) (started : os.Started) (H : Type) (enc : TypeId × Value → H) :
    ReturnsInHanded {} Tryd.checked os 3 .any (fun w args => (Rows.fnExactActTextSpec.pre enc Tryd.prog Tryd.f3 [] false w args ∧ laidMetH Tryd.prog laidL w) ∧ sizedMet enc Tryd.prog Tryd.f3 (OpenSpec.ofChange Rows.fnExactActTextSpec) false w args) (Rows.fnExactActTextSpec.post enc Tryd.prog Tryd.f3 false true false false) := by
  refine returnsInHanded_of_change_and (C := Tryd.checked) (X := fun w _ => laidMetH Tryd.prog laidL w) (fun _ _ _ hh h => h.of_heap hh) own started (by kernel_rfl) Tryd.func3
    (ChangeSpec.witness_shaped (enc := enc) (C := Tryd.checked) (os := os) (X := fun w _ => laidMetH Tryd.prog laidL w) false (World.doorLaid Tryd.prog 400 os) #[.agg #[.int .i64 0, .int .i64 0, .int .i64 0, .int .i64 0, .string ByteArray.empty]] 8 rfl (World.shaped_of_RefB (by kernel_rfl) (by kernel_rfl)) (by kernel_rfl) (by kernel_rfl) (by kernel_rfl) (door_met os _)) ?_
  intro W base args ds gs before hval0 hW hcnd hsz0 hL _
  have hval : ∀ (j : Nat) t v, Tryd.f3.params[j]? = some t → args[j]? = some v → Value.okWide Tryd.prog W .any base t v := hval0
  have hW' := hW
  obtain ⟨p, q, hA0, hV, rfl, hfz, hnd⟩ := hW
  have hA : DataW.TrodAll enc Tryd.prog W 0 (fun _ => true) true Tryd.f3.params.toList args.toList ds p := hA0
  rw [Tryd.params3] at hA hval
  obtain ⟨v0, vs0, d0, ds0, p0, q0, hargs0, rfl, rfl, h0, z0⟩ := trodAll_cons hA
  obtain ⟨rfl, rfl, rfl⟩ := trodAll_nil z0
  obtain rfl : args = #[v0] := by cases args; simp_all
  obtain ⟨rfl, rfl⟩ := trodVars_none hV
  have lt0 : ∀ x ∈ p0, x.block < W.heap.size := by obtain ⟨m, hm⟩ := h0; exact DataW.trod_lt m _ _ _ hm
  have h0' := h0
  obtain ⟨cs0, rfl, hcs0⟩ := okWide_struct Tryd.underlying23 (hval 0 _ v0 rfl rfl)
  obtain ⟨fuel0, hf0⟩ := h0
  obtain ⟨s0, hs0, hw0⟩ := Go.Ps.trod_rep 30 fuel0 _ S.TAct _ _ (by kernel_rfl) hf0
  clear hA0 hval0 hsz0
  have hwalk := S.walk s0 hw0 W (of_laid hL) _ hs0
  rw [show (Value.agg cs0).cells.toList.toArray = cs0 from Array.toArray_toList] at hwalk
  refine hwalk.mono fun e W' ⟨he, bel⟩ => ?_
  subst he
  exact ⟨_, rfl, _, _, _, [], _, [], hW', trodAll_mk1 (shut_bool Tryd.underlying4 _), (trodAll_cons_mk (Below.trod laidOut (by kernel_rfl) (of_decide_eq_true (by kernel_rfl)) h0' bel lt0) trodAll_mk0), rfl, bel.frame _, fun h => by cases h⟩
theorem andI {a b : Bool} (ha : a = true) (hb : b = true) : (a && b) = true := by rw [ha, hb]; rfl
theorem j0 : (Rows.fnExactActTextRow.wf (OpenSpec.ofChange Rows.fnExactActTextSpec)) = true := (by kernel_rfl)
theorem j1 : (laidOutB Tryd.prog) = true := laidOut
theorem j2 : (mapsRowed Tryd.prog) = true := (by kernel_rfl)
theorem j3 : (Tryd.f3.params.all (Tryd.prog.readableRec ·)) = true := (by kernel_rfl)
theorem j4 : (namedTie Tryd.prog Rows.fnExactActTextRow.named Rows.fnExactActTextSpec.vars) = true := (by kernel_rfl)
theorem j5 : ((Rows.fnExactActTextRow.stops == [])) = true := (by kernel_rfl)
theorem j6 : ((Tryd.prog.stops == [])) = true := (by kernel_rfl)
theorem j7 : ((Rows.fnExactActTextRow.knobs == [])) = true := (by kernel_rfl)
theorem j8 : ((Tryd.prog.stopKnobs == [])) = true := (by kernel_rfl)
theorem j9 : ((Rows.fnExactActTextRow.inPlace == Tryd.prog.inPlace 3)) = true := (by kernel_rfl)
theorem j10 : ((Rows.fnExactActTextRow.unfollowed == Tryd.prog.unfollowed 3)) = true := (by kernel_rfl)
theorem j11 : ((Rows.fnExactActTextRow.recurses == Tryd.prog.recurses 3)) = true := (by kernel_rfl)
theorem j12 : ((Rows.fnExactActTextRow.named == Tryd.prog.varsNamed 3)) = true := (by kernel_rfl)
theorem j13 : ((Rows.fnExactActTextRow.maps == (Tryd.f3.params.toList ++ Rows.fnExactActTextSpec.plain.varTypes Tryd.prog).any (Tryd.prog.mapsRec ·))) = true := (by kernel_rfl)
theorem j14 : ((Rows.fnExactActTextRow.ifaces == (Tryd.f3.params.toList ++ Rows.fnExactActTextSpec.plain.varTypes Tryd.prog).any (Tryd.prog.ifacesRec ·))) = true := (by kernel_rfl)
theorem j15 : ((Rows.fnExactActTextRow.mapsOut == Tryd.prog.mapsAmong Tryd.f3.resultTypes.toList)) = true := (by kernel_rfl)
theorem j16 : ((Rows.fnExactActTextRow.loops == (Tryd.f3.params.toList ++ Rows.fnExactActTextSpec.plain.varTypes Tryd.prog).any (Tryd.prog.loopsFrom ·))) = true := (by kernel_rfl)
theorem j17 : ((Rows.fnExactActTextRow.wideKeys == (Tryd.f3.params.toList ++ Rows.fnExactActTextSpec.plain.varTypes Tryd.prog ++ Tryd.f3.resultTypes.toList).any (Tryd.prog.wideKeysFrom ·))) = true := (by kernel_rfl)
theorem j18 : (Rows.fnExactActTextSpec.vars.all (Tryd.prog.varReadable ·)) = true := (by kernel_rfl)
theorem j19 : (Tryd.f3.resultTypes.all (fun t => Tryd.prog.readableRec t && decide (t < Tryd.prog.types.size))) = true := (by kernel_rfl)
theorem j20 : ((Rows.fnExactActTextRow.ifacesOut == Tryd.f3.resultTypes.toList.any (Tryd.prog.ifacesRec ·))) = true := (by kernel_rfl)
theorem j21 : ((Rows.fnExactActTextRow.loopsOut == Tryd.f3.resultTypes.toList.any (Tryd.prog.loopsFrom ·))) = true := (by kernel_rfl)
theorem j22 : ((Rows.fnExactActTextRow.plainKeys == Tryd.prog.plainKeys)) = true := (by kernel_rfl)
theorem j23 : (Rows.fnExactActTextRow.shortTexts.isNone) = true := (by kernel_rfl)
theorem j24 : (Tryd.prog.stopsHeard) = true := (by kernel_rfl)
theorem j25 : (Tryd.prog.mayEnter) = true := (by kernel_rfl)
theorem j26 : ((Rows.fnExactActTextRow.lifted == Tryd.prog.liftsFinal)) = true := (by kernel_rfl)
theorem j27 : ((Tryd.prog.make == some Rows.fnExactActTextRow.make)) = true := (by kernel_rfl)
theorem j29 : ((Rows.fnExactActTextRow.pinned == Rows.fnExactActTextRow.pinnedBy)) = true := (by kernel_rfl)
theorem j30 : ((Rows.fnExactActTextRow.veiled == (Tryd.f3.params.toList ++ Rows.fnExactActTextSpec.plain.varTypes Tryd.prog ++ Tryd.f3.resultTypes.toList).any (Tryd.prog.veiledRec ·))) = true := (by kernel_rfl)
theorem j31 : (Rows.fnExactActTextRow.veiledFits Tryd.prog Tryd.f3.params.toList (Tryd.f3.params.toList ++ Rows.fnExactActTextSpec.plain.varTypes Tryd.prog ++ Tryd.f3.resultTypes.toList)) = true := (by kernel_rfl)
theorem closed : joinedFacts Tryd.prog 3 Tryd.f3 Rows.fnExactActTextSpec Rows.fnExactActTextRow = true := by
  unfold joinedFacts
  exact andI (andI (andI (andI (andI (andI (andI (andI (andI (andI (andI (andI (andI (andI (andI (andI (andI (andI (andI (andI (andI (andI (andI (andI (andI (andI (andI (andI (andI (andI (andI (j0) j1) j2) j3) j4) j5) j6) j7) j8) j9) j10) j11) j12) j13) j14) j15) j16) j17) j18) j19) j20) j21) j22) j23) j24) j25) j26) j27) (by kernel_rfl)) j29) j30) j31
theorem named3 : Tryd.prog.funcNamed Rows.fnExactActTextRow.func = some 3 := by kernel_rfl
theorem inst3 : Tryd.f3.isInstance Tryd.prog Rows.fnExactActTextRow.origin Rows.fnExactActTextRow.targs := of_decide_eq_true (by kernel_rfl)
theorem wrap3 : Tryd.f3.isWrapper Tryd.prog Rows.fnExactActTextRow.wrapper Rows.fnExactActTextRow.mainSum := by unfold Func.isWrapper; first | (rw [if_pos (by decide +kernel)]; kernel_rfl) | (rw [if_neg (by decide +kernel)]; exact ⟨rfl, rfl⟩)
theorem over : Rows.fnExactActTextRow.holds Tryd.pinned (OpenSpec.ofChange Rows.fnExactActTextSpec) :=
  OpenClaim.holds_of_wide 3 Tryd.f3 rfl rfl rfl rfl rfl rfl rfl ⟨rfl, rfl, rfl, rfl, rfl⟩ rfl rfl rfl rfl rfl named3 Tryd.func3 closed
    inst3 wrap3
    (fun os started H enc _ => lifted os started H enc)
theorem proved : Rows.FnExactActTextSaid := over
#print axioms proved
end Go.Proofs.YtoikigjhiohopaaDoor.fnExactActText
namespace Go.Proofs.YtoikigjhiohopaaDoor
/-- The row, under a short name, for the claim. -/
theorem fnExactActText_holds : Rows.FnExactActTextCardSaid :=
  Claim7.holds_tied_plain_at .later [] [.data, .data, .data, .sentinel, .sentinel] true (true, "e55f92b83054ad70d047e1b5ae388cc1c03bdd1421bce4d9ee52b736cbb29d57") true
    fnExactActText.proved (fun _ h => by cases h) (by kernel_rfl) (fun _ h => by cases h) fnExactActText_row_tie rfl ⟨rfl, rfl⟩ (by kernel_rfl) rfl
    (fun f fn hf hfn => by
      obtain rfl : f = 3 := Option.some.inj ((show Tryd.prog.funcNamed "loop.example/g00654/laws.FnExactActText" = some 3 by kernel_rfl).symm.trans hf) |>.symm
      obtain rfl : fn = Tryd.f3 := (Option.some.inj (Tryd.func3.symm.trans hfn)).symm
      exact ⟨by kernel_rfl, fun j t ht => by
        rw [Tryd.params3] at ht
        have hm : t ∈ [23] := by simpa using Array.mem_of_getElem? ht
        have hall : ([23].all fun u => !Tryd.prog.wantsStandIn u) = true := by kernel_rfl
        exact (show Tryd.prog.wantsStandIn t = false by simpa using List.all_eq_true.1 hall t hm)⟩)
    (by kernel_rfl)
#print axioms fnExactActText_holds
end Go.Proofs.YtoikigjhiohopaaDoor
