/- FnExactReadObject: for every input, the law returns true, and each argument reads afterwards as it did. No condition. -/
import Derived.Test.YtamgeifafllcgaaRows
import Derived.Test.YtamgeifafllcgaaSxW
import Derived.WalkKit
import Derived.ProofKit
import Derived.OpenShut
import Derived.ShutString
import Derived.ChangeOld
import Derived.Below
import Derived.SizedLaws
namespace Go.Proofs.Ytamgeifafllcgaa.fnExactReadObject
open Go.ChangeShapes Go.WideShapes Go.ChangeAt Go.RowKit
open Go.ChangeMaps (open_string shut_string)
set_option linter.unusedVariables false
theorem own : ownKnob Try.prog.godebug = none := by kernel_rfl
theorem laidOut : laidOutB Try.prog = true := by kernel_rfl
set_option maxRecDepth 100000 in
theorem lifted (os : Os) (started : os.Started) (H : Type) (enc : TypeId × Value → H) :
    ReturnsInHanded {} Try.checked os 3 .any (Rows.fnExactReadObjectSpec.pre6 enc Try.prog Try.f3 Rows.fnExactReadObjectRow.domain false) (Rows.fnExactReadObjectSpec.post enc Try.prog Try.f3 false true false false) := by
  refine returnsInHanded_of_change_sized (C := Try.checked) own started (by kernel_rfl) Try.func3
    (ChangeSpec.witness6 (enc := enc) (C := Try.checked) false ⟨#[], #[.string ByteArray.empty], []⟩ 8 (by kernel_rfl) (by kernel_rfl) (by kernel_rfl) (by kernel_rfl)) ?_
  intro W base args ds gs before hval0 hW hcnd hsz0 _
  have hval : ∀ (j : Nat) t v, Try.f3.params[j]? = some t → args[j]? = some v → Value.okWide Try.prog W .any base t v := hval0
  have hW' := hW
  obtain ⟨p, q, hA0, hV, rfl, hfz, hnd⟩ := hW
  have hA : DataW.TrodAll enc Try.prog W 0 (fun _ => true) true Try.f3.params.toList args.toList ds p := hA0
  rw [Try.params3] at hA hval
  obtain ⟨v0, vs0, d0, ds0, p0, q0, hargs0, rfl, rfl, h0, z0⟩ := trodAll_cons hA
  obtain ⟨rfl, rfl, rfl⟩ := trodAll_nil z0
  obtain rfl : args = #[v0] := by cases args; simp_all
  obtain ⟨rfl, rfl⟩ := trodVars_none hV
  have lt0 : ∀ x ∈ p0, x.block < W.heap.size := by obtain ⟨m, hm⟩ := h0; exact DataW.trod_lt m _ _ _ hm
  have h0' := h0
  obtain ⟨b0, rfl⟩ := okWide_string Try.underlying9 (hval 0 _ v0 rfl rfl)
  obtain ⟨fuel0, hf0⟩ := h0
  obtain ⟨s0, hs0, hw0⟩ := Go.Ps.trod_rep 30 fuel0 _ .str _ _ (by kernel_rfl) hf0
  clear hA0 hval0 hsz0
  have hwalk := S.walk s0 hw0 W _ hs0
  refine hwalk.mono fun e W' ⟨he, bel⟩ => ?_
  subst he
  exact ⟨_, rfl, _, _, _, [], _, [], hW', trodAll_mk1 (shut_bool Try.underlying4 _), (trodAll_cons_mk (Below.trod laidOut (by kernel_rfl) (of_decide_eq_true (by kernel_rfl)) h0' bel lt0) trodAll_mk0), rfl, bel.frame _, fun h => by cases h⟩
theorem andI {a b : Bool} (ha : a = true) (hb : b = true) : (a && b) = true := by rw [ha, hb]; rfl
theorem j0 : (Rows.fnExactReadObjectRow.wf (OpenSpec.ofChange Rows.fnExactReadObjectSpec)) = true := (by kernel_rfl)
theorem j1 : (laidOutB Try.prog) = true := laidOut
theorem j2 : (mapsRowed Try.prog) = true := (by kernel_rfl)
theorem j3 : (Try.f3.params.all (Try.prog.readableRec ·)) = true := (by kernel_rfl)
theorem j4 : (namedTie Try.prog Rows.fnExactReadObjectRow.named Rows.fnExactReadObjectSpec.vars) = true := (by kernel_rfl)
theorem j5 : ((Rows.fnExactReadObjectRow.stops == [])) = true := (by kernel_rfl)
theorem j6 : ((Try.prog.stops == [])) = true := (by kernel_rfl)
theorem j7 : ((Rows.fnExactReadObjectRow.knobs == [])) = true := (by kernel_rfl)
theorem j8 : ((Try.prog.stopKnobs == [])) = true := (by kernel_rfl)
theorem j9 : ((Rows.fnExactReadObjectRow.inPlace == Try.prog.inPlace 3)) = true := (by kernel_rfl)
theorem j10 : ((Rows.fnExactReadObjectRow.unfollowed == Try.prog.unfollowed 3)) = true := (by kernel_rfl)
theorem j11 : ((Rows.fnExactReadObjectRow.recurses == Try.prog.recurses 3)) = true := (by kernel_rfl)
theorem j12 : ((Rows.fnExactReadObjectRow.named == Try.prog.varsNamed 3)) = true := (by kernel_rfl)
theorem j13 : ((Rows.fnExactReadObjectRow.maps == (Try.f3.params.toList ++ Rows.fnExactReadObjectSpec.plain.varTypes Try.prog).any (Try.prog.mapsRec ·))) = true := (by kernel_rfl)
theorem j14 : ((Rows.fnExactReadObjectRow.ifaces == (Try.f3.params.toList ++ Rows.fnExactReadObjectSpec.plain.varTypes Try.prog).any (Try.prog.ifacesRec ·))) = true := (by kernel_rfl)
theorem j15 : ((Rows.fnExactReadObjectRow.mapsOut == Try.prog.mapsAmong Try.f3.resultTypes.toList)) = true := (by kernel_rfl)
theorem j16 : ((Rows.fnExactReadObjectRow.loops == (Try.f3.params.toList ++ Rows.fnExactReadObjectSpec.plain.varTypes Try.prog).any (Try.prog.loopsFrom ·))) = true := (by kernel_rfl)
theorem j17 : ((Rows.fnExactReadObjectRow.wideKeys == (Try.f3.params.toList ++ Rows.fnExactReadObjectSpec.plain.varTypes Try.prog ++ Try.f3.resultTypes.toList).any (Try.prog.wideKeysFrom ·))) = true := (by kernel_rfl)
theorem j18 : (Rows.fnExactReadObjectSpec.vars.all (Try.prog.varReadable ·)) = true := (by kernel_rfl)
theorem j19 : (Try.f3.resultTypes.all (fun t => Try.prog.readableRec t && decide (t < Try.prog.types.size))) = true := (by kernel_rfl)
theorem j20 : ((Rows.fnExactReadObjectRow.ifacesOut == Try.f3.resultTypes.toList.any (Try.prog.ifacesRec ·))) = true := (by kernel_rfl)
theorem j21 : ((Rows.fnExactReadObjectRow.loopsOut == Try.f3.resultTypes.toList.any (Try.prog.loopsFrom ·))) = true := (by kernel_rfl)
theorem j22 : ((Rows.fnExactReadObjectRow.plainKeys == Try.prog.plainKeys)) = true := (by kernel_rfl)
theorem j23 : (Rows.fnExactReadObjectRow.shortTexts.isNone) = true := (by kernel_rfl)
theorem j24 : (Try.prog.stopsHeard) = true := (by kernel_rfl)
theorem j25 : (Try.prog.mayEnter) = true := (by kernel_rfl)
theorem j26 : ((Rows.fnExactReadObjectRow.lifted == Try.prog.liftsFinal)) = true := (by kernel_rfl)
theorem j27 : ((Try.prog.make == some Rows.fnExactReadObjectRow.make)) = true := (by kernel_rfl)
theorem j29 : ((Rows.fnExactReadObjectRow.pinned == Rows.fnExactReadObjectRow.pinnedBy)) = true := (by kernel_rfl)
theorem j30 : ((Rows.fnExactReadObjectRow.veiled == (Try.f3.params.toList ++ Rows.fnExactReadObjectSpec.plain.varTypes Try.prog ++ Try.f3.resultTypes.toList).any (Try.prog.veiledRec ·))) = true := (by kernel_rfl)
theorem j31 : (Rows.fnExactReadObjectRow.veiledFits Try.prog Try.f3.params.toList (Try.f3.params.toList ++ Rows.fnExactReadObjectSpec.plain.varTypes Try.prog ++ Try.f3.resultTypes.toList)) = true := (by kernel_rfl)
theorem closed : joinedFacts Try.prog 3 Try.f3 Rows.fnExactReadObjectSpec Rows.fnExactReadObjectRow = true := by
  unfold joinedFacts
  exact andI (andI (andI (andI (andI (andI (andI (andI (andI (andI (andI (andI (andI (andI (andI (andI (andI (andI (andI (andI (andI (andI (andI (andI (andI (andI (andI (andI (andI (andI (andI (j0) j1) j2) j3) j4) j5) j6) j7) j8) j9) j10) j11) j12) j13) j14) j15) j16) j17) j18) j19) j20) j21) j22) j23) j24) j25) j26) j27) (by kernel_rfl)) j29) j30) j31
theorem named3 : Try.prog.funcNamed Rows.fnExactReadObjectRow.func = some 3 := by kernel_rfl
theorem inst3 : Try.f3.isInstance Try.prog Rows.fnExactReadObjectRow.origin Rows.fnExactReadObjectRow.targs := of_decide_eq_true (by kernel_rfl)
theorem wrap3 : Try.f3.isWrapper Try.prog Rows.fnExactReadObjectRow.wrapper Rows.fnExactReadObjectRow.mainSum := by unfold Func.isWrapper; first | (rw [if_pos (by decide +kernel)]; kernel_rfl) | (rw [if_neg (by decide +kernel)]; exact ⟨rfl, rfl⟩)
theorem over : Rows.fnExactReadObjectRow.holds Try.pinned (OpenSpec.ofChange Rows.fnExactReadObjectSpec) :=
  OpenClaim.holds_of_wide 3 Try.f3 rfl rfl rfl rfl rfl rfl rfl ⟨rfl, rfl, rfl, rfl, rfl⟩ rfl rfl rfl rfl rfl named3 Try.func3 closed
    inst3 wrap3
    (fun os started H enc _ => lifted os started H enc)
theorem proved : Rows.FnExactReadObjectSaid := over
#print axioms proved
end Go.Proofs.Ytamgeifafllcgaa.fnExactReadObject
namespace Go.Proofs.Ytamgeifafllcgaa
/-- The row, under a short name, for the claim. -/
theorem fnExactReadObject_holds : Rows.FnExactReadObjectSaid := fnExactReadObject.proved
end Go.Proofs.Ytamgeifafllcgaa
