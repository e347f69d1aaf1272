/- FnExactListFunction: for every input, the law returns true, and each argument reads afterwards as it did. No condition. -/
import Derived.Test.YtijpmnicihmoaaaGreatDoorRows
import Derived.Test.YtijpmnicihmoaaaGreatDoorSxW
import Derived.WalkKit
import Derived.ProofKit
import Derived.OpenShut
import Derived.ShutString
import Derived.ChangeOld
import Derived.Below
import Derived.SizedLaws
import Derived.LaidMore
import Derived.SevenTiedAt
import Derived.Test.YtijpmnicihmoaaaGreatDoorCards
import Derived.Test.YtijpmnicihmoaaaGreatDoorTie
namespace Go.Proofs.YtijpmnicihmoaaaGreatDoor.fnExactListFunction
open Go.ChangeShapes Go.WideShapes Go.ChangeAt Go.RowKit
open Go.ChangeMaps (open_string shut_string)
set_option linter.unusedVariables false
theorem own : ownKnob Tryz.prog.godebug = none := by kernel_rfl
theorem laidOut : laidOutB Tryz.prog = true := by kernel_rfl
theorem gTab : Tryz.prog.globalNamed "internal/strconv.uint64pow10" = some 0 := by kernel_rfl
theorem tTab : (Tryz.prog.globals[0]?).map (·.type) = some 411 := by kernel_rfl
/-- What the tables hold as the call begins. -/
abbrev laidL : List (String × DataW Unit) := [("math/bits.deBruijn32tab", Rows.laid_math_bits_deBruijn32tab), ("math/bits.deBruijn64tab", Rows.laid_math_bits_deBruijn64tab), ("internal/strconv.uint64pow10", Rows.laid_internal_strconv_uint64pow10)]
theorem door_met (os : Os) (args : Array Value) : laidMetH Tryz.prog laidL ((World.doorLaid Tryz.prog 400 os).forCall (fun _ _ => 0) ⟨#[], args, []⟩).memory :=
  laidMetH_of_parts3 (fuel := 8) (laidMet_of_run' 8 (by kernel_rfl) (by kernel_rfl)) (by kernel_rfl) (by kernel_rfl)
theorem of_laid {W : World} (h : laidMetH Tryz.prog laidL W) : S.inv.at_ (Go.Ps.InHeap W) W := by
  rw [MakeChecks.laidMetH_plain _ _ _ (by kernel_rfl)] at h
  obtain ⟨ps, h, _⟩ := h
  obtain ⟨g0, t0, cs0, f0, p0, q0, hg0, ht0, hv0, hd0, h, _⟩ := h
  obtain ⟨g1, t1, cs1, f1, p1, q1, hg1, ht1, hv1, hd1, h, _⟩ := h
  obtain ⟨g2, t2, cs2, f2, p2, q2, hg2, ht2, hv2, hd2, h, _⟩ := h
  obtain rfl := Option.some.inj (gTab.symm.trans hg2)
  obtain rfl := Option.some.inj (tTab.symm.trans ht2)
  have h2 : Lib.TabIs Tryz.prog W "internal/strconv.uint64pow10" .u64 Lib.pow10Tab := by
    unfold Lib.TabIs
    rw [hv2, ← Lib.cells_of_tab (k := .u64) (zs := Lib.pow10Tab) (show Tryz.prog.underlying 411 = some (.array 20 350) by kernel_rfl) (show Tryz.prog.underlying 350 = some (.int .u64) by kernel_rfl) (by kernel_rfl) (by kernel_rfl) hd2]
  refine ⟨?_, h2⟩
  unfold Lib.TabIs World.var? at h2
  simp only [gTab, Option.bind_some] at h2
  show 0 < W.heap.size
  cases hh : W.heap[0]? with
  | none => rw [hh] at h2; cases h2
  | some b => exact (Array.getElem?_eq_some_iff.1 hh).1
set_option maxRecDepth 100000 in
theorem lifted (os : Os) (started : os.Started) (H : Type) (enc : TypeId × Value → H) :
    ReturnsInHanded {} Tryz.checked os 3 .any (fun w args => (Rows.fnExactListFunctionSpec.pre enc Tryz.prog Tryz.f3 [] false w args ∧ laidMetH Tryz.prog laidL w) ∧ sizedMet enc Tryz.prog Tryz.f3 (OpenSpec.ofChange Rows.fnExactListFunctionSpec) false w args) (Rows.fnExactListFunctionSpec.post enc Tryz.prog Tryz.f3 false true false false) := by
  refine returnsInHanded_of_change_and (C := Tryz.checked) (X := fun w _ => laidMetH Tryz.prog laidL w) (fun _ _ _ hh h => h.of_heap hh) own started (by kernel_rfl) Tryz.func3
    (ChangeSpec.witness_shaped (enc := enc) (C := Tryz.checked) (os := os) (X := fun w _ => laidMetH Tryz.prog laidL w) false (World.doorLaid Tryz.prog 400 os) #[.agg #[.string ByteArray.empty, .string ByteArray.empty, .slice none 0 0, .slice none 0 0, .slice none 0 0, .slice none 0 0, .slice none 0 0, .slice none 0 0], .string ByteArray.empty] 8 rfl (World.shaped_of_RefB (by kernel_rfl) (by kernel_rfl)) (by kernel_rfl) (by kernel_rfl) (by kernel_rfl) (door_met os _)) ?_
  intro W base args ds gs before hval0 hW hcnd hsz0 hL _
  have hval : ∀ (j : Nat) t v, Tryz.f3.params[j]? = some t → args[j]? = some v → Value.okWide Tryz.prog W .any base t v := hval0
  have hW' := hW
  obtain ⟨p, q, hA0, hV, rfl, hfz, hnd⟩ := hW
  have hA : DataW.TrodAll enc Tryz.prog W 0 (fun _ => true) true Tryz.f3.params.toList args.toList ds p := hA0
  rw [Tryz.params3] at hA hval
  obtain ⟨v0, vs0, d0, ds0, p0, q0, hargs0, rfl, rfl, h0, z0⟩ := trodAll_cons hA
  obtain ⟨v1, vs1, d1, ds1, p1, q1, hargs1, rfl, rfl, h1, z1⟩ := trodAll_cons z0
  obtain ⟨rfl, rfl, rfl⟩ := trodAll_nil z1
  obtain rfl : args = #[v0, v1] := by cases args; simp_all
  obtain ⟨rfl, rfl⟩ := trodVars_none hV
  have lt0 : ∀ x ∈ p0, x.block < W.heap.size := by obtain ⟨m, hm⟩ := h0; exact DataW.trod_lt m _ _ _ hm
  have lt1 : ∀ x ∈ p1, x.block < W.heap.size := by obtain ⟨m, hm⟩ := h1; exact DataW.trod_lt m _ _ _ hm
  have h0' := h0
  have h1' := h1
  obtain ⟨cs0, rfl, hcs0⟩ := okWide_struct Tryz.underlying35 (hval 0 _ v0 rfl rfl)
  obtain ⟨fuel0, hf0⟩ := h0
  obtain ⟨s0, hs0, hw0⟩ := Go.Ps.trod_rep 30 fuel0 _ S.TSys _ _ (by kernel_rfl) hf0
  obtain ⟨b1, rfl⟩ := okWide_string Tryz.underlying9 (hval 1 _ v1 rfl rfl)
  obtain ⟨fuel1, hf1⟩ := h1
  obtain ⟨s1, hs1, hw1⟩ := Go.Ps.trod_rep 30 fuel1 _ .str _ _ (by kernel_rfl) hf1
  clear hA0 hval0 hsz0
  have hwalk := S.walk s0 hw0 s1 hw1 W (of_laid hL) _ hs0 _ hs1
  rw [show (Value.agg cs0).cells.toList.toArray = cs0 from Array.toArray_toList] at hwalk
  refine hwalk.mono fun e W' ⟨he, bel⟩ => ?_
  subst he
  exact ⟨_, rfl, _, _, _, [], _, [], hW', trodAll_mk1 (shut_bool Tryz.underlying4 _), (trodAll_cons_mk (Below.trod laidOut (by kernel_rfl) (of_decide_eq_true (by kernel_rfl)) h0' bel lt0) (trodAll_cons_mk (Below.trod laidOut (by kernel_rfl) (of_decide_eq_true (by kernel_rfl)) h1' bel lt1) trodAll_mk0)), rfl, bel.frame _, fun h => by cases h⟩
theorem andI {a b : Bool} (ha : a = true) (hb : b = true) : (a && b) = true := by rw [ha, hb]; rfl
theorem j0 : (Rows.fnExactListFunctionRow.wf (OpenSpec.ofChange Rows.fnExactListFunctionSpec)) = true := (by kernel_rfl)
theorem j1 : (laidOutB Tryz.prog) = true := laidOut
theorem j2 : (mapsRowed Tryz.prog) = true := (by kernel_rfl)
theorem j3 : (Tryz.f3.params.all (Tryz.prog.readableRec ·)) = true := (by kernel_rfl)
theorem j4 : (namedTie Tryz.prog Rows.fnExactListFunctionRow.named Rows.fnExactListFunctionSpec.vars) = true := (by kernel_rfl)
theorem j5 : ((Rows.fnExactListFunctionRow.stops == [])) = true := (by kernel_rfl)
theorem j6 : ((Tryz.prog.stops == [])) = true := (by kernel_rfl)
theorem j7 : ((Rows.fnExactListFunctionRow.knobs == [])) = true := (by kernel_rfl)
theorem j8 : ((Tryz.prog.stopKnobs == [])) = true := (by kernel_rfl)
theorem j9 : ((Rows.fnExactListFunctionRow.inPlace == Tryz.prog.inPlace 3)) = true := (by kernel_rfl)
theorem j10 : ((Rows.fnExactListFunctionRow.unfollowed == Tryz.prog.unfollowed 3)) = true := (by kernel_rfl)
theorem j11 : ((Rows.fnExactListFunctionRow.recurses == Tryz.prog.recurses 3)) = true := (by kernel_rfl)
theorem j12 : ((Rows.fnExactListFunctionRow.named == Tryz.prog.varsNamed 3)) = true := (by kernel_rfl)
theorem j13 : ((Rows.fnExactListFunctionRow.maps == (Tryz.f3.params.toList ++ Rows.fnExactListFunctionSpec.plain.varTypes Tryz.prog).any (Tryz.prog.mapsRec ·))) = true := (by kernel_rfl)
theorem j14 : ((Rows.fnExactListFunctionRow.ifaces == (Tryz.f3.params.toList ++ Rows.fnExactListFunctionSpec.plain.varTypes Tryz.prog).any (Tryz.prog.ifacesRec ·))) = true := (by kernel_rfl)
theorem j15 : ((Rows.fnExactListFunctionRow.mapsOut == Tryz.prog.mapsAmong Tryz.f3.resultTypes.toList)) = true := (by kernel_rfl)
theorem j16 : ((Rows.fnExactListFunctionRow.loops == (Tryz.f3.params.toList ++ Rows.fnExactListFunctionSpec.plain.varTypes Tryz.prog).any (Tryz.prog.loopsFrom ·))) = true := (by kernel_rfl)
theorem j17 : ((Rows.fnExactListFunctionRow.wideKeys == (Tryz.f3.params.toList ++ Rows.fnExactListFunctionSpec.plain.varTypes Tryz.prog ++ Tryz.f3.resultTypes.toList).any (Tryz.prog.wideKeysFrom ·))) = true := (by kernel_rfl)
theorem j18 : (Rows.fnExactListFunctionSpec.vars.all (Tryz.prog.varReadable ·)) = true := (by kernel_rfl)
theorem j19 : (Tryz.f3.resultTypes.all (fun t => Tryz.prog.readableRec t && decide (t < Tryz.prog.types.size))) = true := (by kernel_rfl)
theorem j20 : ((Rows.fnExactListFunctionRow.ifacesOut == Tryz.f3.resultTypes.toList.any (Tryz.prog.ifacesRec ·))) = true := (by kernel_rfl)
theorem j21 : ((Rows.fnExactListFunctionRow.loopsOut == Tryz.f3.resultTypes.toList.any (Tryz.prog.loopsFrom ·))) = true := (by kernel_rfl)
theorem j22 : ((Rows.fnExactListFunctionRow.plainKeys == Tryz.prog.plainKeys)) = true := (by kernel_rfl)
theorem j23 : (Rows.fnExactListFunctionRow.shortTexts.isNone) = true := (by kernel_rfl)
theorem j24 : (Tryz.prog.stopsHeard) = true := (by kernel_rfl)
theorem j25 : (Tryz.prog.mayEnter) = true := (by kernel_rfl)
theorem j26 : ((Rows.fnExactListFunctionRow.lifted == Tryz.prog.liftsFinal)) = true := (by kernel_rfl)
theorem j27 : ((Tryz.prog.make == some Rows.fnExactListFunctionRow.make)) = true := (by kernel_rfl)
theorem j29 : ((Rows.fnExactListFunctionRow.pinned == Rows.fnExactListFunctionRow.pinnedBy)) = true := (by kernel_rfl)
theorem j30 : ((Rows.fnExactListFunctionRow.veiled == (Tryz.f3.params.toList ++ Rows.fnExactListFunctionSpec.plain.varTypes Tryz.prog ++ Tryz.f3.resultTypes.toList).any (Tryz.prog.veiledRec ·))) = true := (by kernel_rfl)
theorem j31 : (Rows.fnExactListFunctionRow.veiledFits Tryz.prog Tryz.f3.params.toList (Tryz.f3.params.toList ++ Rows.fnExactListFunctionSpec.plain.varTypes Tryz.prog ++ Tryz.f3.resultTypes.toList)) = true := (by kernel_rfl)
theorem closed : joinedFacts Tryz.prog 3 Tryz.f3 Rows.fnExactListFunctionSpec Rows.fnExactListFunctionRow = true := by
  unfold joinedFacts
  exact andI (andI (andI (andI (andI (andI (andI (andI (andI (andI (andI (andI (andI (andI (andI (andI (andI (andI (andI (andI (andI (andI (andI (andI (andI (andI (andI (andI (andI (andI (andI (j0) j1) j2) j3) j4) j5) j6) j7) j8) j9) j10) j11) j12) j13) j14) j15) j16) j17) j18) j19) j20) j21) j22) j23) j24) j25) j26) j27) (by kernel_rfl)) j29) j30) j31
theorem named3 : Tryz.prog.funcNamed Rows.fnExactListFunctionRow.func = some 3 := by kernel_rfl
theorem inst3 : Tryz.f3.isInstance Tryz.prog Rows.fnExactListFunctionRow.origin Rows.fnExactListFunctionRow.targs := of_decide_eq_true (by kernel_rfl)
theorem wrap3 : Tryz.f3.isWrapper Tryz.prog Rows.fnExactListFunctionRow.wrapper Rows.fnExactListFunctionRow.mainSum := by unfold Func.isWrapper; first | (rw [if_pos (by decide +kernel)]; kernel_rfl) | (rw [if_neg (by decide +kernel)]; exact ⟨rfl, rfl⟩)
theorem over : Rows.fnExactListFunctionRow.holds Tryz.pinned (OpenSpec.ofChange Rows.fnExactListFunctionSpec) :=
  OpenClaim.holds_of_wide 3 Tryz.f3 rfl rfl rfl rfl rfl rfl rfl ⟨rfl, rfl, rfl, rfl, rfl⟩ rfl rfl rfl rfl rfl named3 Tryz.func3 closed
    inst3 wrap3
    (fun os started H enc _ => lifted os started H enc)
theorem proved : Rows.FnExactListFunctionSaid := over
end Go.Proofs.YtijpmnicihmoaaaGreatDoor.fnExactListFunction
