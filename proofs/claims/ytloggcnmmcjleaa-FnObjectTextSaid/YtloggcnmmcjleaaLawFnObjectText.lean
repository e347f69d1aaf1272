/- FnObjectText: for every input, the law returns true, and each argument reads afterwards as it did. No condition. -/
import Derived.Test.YtloggcnmmcjleaaRows
import Derived.Test.YtloggcnmmcjleaaSxW
import Derived.WalkKit
import Derived.ProofKit
import Derived.OpenShut
import Derived.ShutString
import Derived.ChangeOld
import Derived.Below
import Derived.SizedLaws
namespace Go.Proofs.Ytloggcnmmcjleaa.fnObjectText
open Go.ChangeShapes Go.WideShapes Go.ChangeAt Go.RowKit
open Go.ChangeMaps (open_string shut_string)
set_option linter.unusedVariables false
theorem own : ownKnob Try.prog.godebug = none := by kernel_rfl
theorem laidOut : laidOutB Try.prog = true := by kernel_rfl
set_option maxRecDepth 100000 in
theorem lifted (os : Os) (started : os.Started) (H : Type) (enc : TypeId × Value → H) :
    ReturnsInHanded {} Try.checked os 4 .any (Rows.fnObjectTextSpec.pre6 enc Try.prog Try.f4 Rows.fnObjectTextRow.domain false) (Rows.fnObjectTextSpec.post enc Try.prog Try.f4 false true false false) := by
  refine returnsInHanded_of_change_sized (C := Try.checked) own started (by kernel_rfl) Try.func4
    (ChangeSpec.witness6 (enc := enc) (C := Try.checked) false ⟨#[], #[.slice none 0 0, .slice none 0 0], []⟩ 8 (by kernel_rfl) (by kernel_rfl) (by kernel_rfl) (by kernel_rfl)) ?_
  intro W base args ds gs before hval0 hW hcnd hsz0 _
  have hval : ∀ (j : Nat) t v, Try.f4.params[j]? = some t → args[j]? = some v → Value.okWide Try.prog W .any base t v := hval0
  have hW' := hW
  obtain ⟨p, q, hA0, hV, rfl, hfz, hnd⟩ := hW
  have hA : DataW.TrodAll enc Try.prog W 0 (fun _ => true) true Try.f4.params.toList args.toList ds p := hA0
  rw [Try.params4] at hA hval
  obtain ⟨v0, vs0, d0, ds0, p0, q0, hargs0, rfl, rfl, h0, z0⟩ := trodAll_cons hA
  obtain ⟨v1, vs1, d1, ds1, p1, q1, hargs1, rfl, rfl, h1, z1⟩ := trodAll_cons z0
  obtain ⟨rfl, rfl, rfl⟩ := trodAll_nil z1
  obtain rfl : args = #[v0, v1] := by cases args; simp_all
  obtain ⟨rfl, rfl⟩ := trodVars_none hV
  have lt0 : ∀ x ∈ p0, x.block < W.heap.size := by obtain ⟨m, hm⟩ := h0; exact DataW.trod_lt m _ _ _ hm
  have lt1 : ∀ x ∈ p1, x.block < W.heap.size := by obtain ⟨m, hm⟩ := h1; exact DataW.trod_lt m _ _ _ hm
  have h0' := h0
  have h1' := h1
  obtain ⟨b0, n0, c0, rfl⟩ := okWide_slice Try.underlying22 (hval 0 _ v0 rfl rfl)
  obtain ⟨fuel0, hf0⟩ := h0
  obtain ⟨s0, hs0, hw0⟩ := Go.Ps.trod_rep 30 fuel0 _ (.list (.int .u8)) _ _ (by kernel_rfl) hf0
  obtain ⟨b1, n1, c1, rfl⟩ := okWide_slice Try.underlying22 (hval 1 _ v1 rfl rfl)
  obtain ⟨fuel1, hf1⟩ := h1
  obtain ⟨s1, hs1, hw1⟩ := Go.Ps.trod_rep 30 fuel1 _ (.list (.int .u8)) _ _ (by kernel_rfl) hf1
  clear hA0 hval0 hsz0
  have hwalk := S.walk s0 hw0 s1 hw1 W _ hs0 _ hs1
  refine hwalk.mono fun e W' ⟨he, bel⟩ => ?_
  subst he
  exact ⟨_, rfl, _, _, _, [], _, [], hW', trodAll_mk1 (shut_bool Try.underlying4 _), (trodAll_cons_mk (Below.trod laidOut (by kernel_rfl) (of_decide_eq_true (by kernel_rfl)) h0' bel lt0) (trodAll_cons_mk (Below.trod laidOut (by kernel_rfl) (of_decide_eq_true (by kernel_rfl)) h1' bel lt1) trodAll_mk0)), rfl, bel.frame _, fun h => by cases h⟩
theorem andI {a b : Bool} (ha : a = true) (hb : b = true) : (a && b) = true := by rw [ha, hb]; rfl
theorem j0 : (Rows.fnObjectTextRow.wf (OpenSpec.ofChange Rows.fnObjectTextSpec)) = true := (by kernel_rfl)
theorem j1 : (laidOutB Try.prog) = true := laidOut
theorem j2 : (mapsRowed Try.prog) = true := (by kernel_rfl)
theorem j3 : (Try.f4.params.all (Try.prog.readableRec ·)) = true := (by kernel_rfl)
theorem j4 : (namedTie Try.prog Rows.fnObjectTextRow.named Rows.fnObjectTextSpec.vars) = true := (by kernel_rfl)
theorem j5 : ((Rows.fnObjectTextRow.stops == [])) = true := (by kernel_rfl)
theorem j6 : ((Try.prog.stops == [])) = true := (by kernel_rfl)
theorem j7 : ((Rows.fnObjectTextRow.knobs == [])) = true := (by kernel_rfl)
theorem j8 : ((Try.prog.stopKnobs == [])) = true := (by kernel_rfl)
theorem j9 : ((Rows.fnObjectTextRow.inPlace == Try.prog.inPlace 4)) = true := (by kernel_rfl)
theorem j10 : ((Rows.fnObjectTextRow.unfollowed == Try.prog.unfollowed 4)) = true := (by kernel_rfl)
theorem j11 : ((Rows.fnObjectTextRow.recurses == Try.prog.recurses 4)) = true := (by kernel_rfl)
theorem j12 : ((Rows.fnObjectTextRow.named == Try.prog.varsNamed 4)) = true := (by kernel_rfl)
theorem j13 : ((Rows.fnObjectTextRow.maps == (Try.f4.params.toList ++ Rows.fnObjectTextSpec.plain.varTypes Try.prog).any (Try.prog.mapsRec ·))) = true := (by kernel_rfl)
theorem j14 : ((Rows.fnObjectTextRow.ifaces == (Try.f4.params.toList ++ Rows.fnObjectTextSpec.plain.varTypes Try.prog).any (Try.prog.ifacesRec ·))) = true := (by kernel_rfl)
theorem j15 : ((Rows.fnObjectTextRow.mapsOut == Try.prog.mapsAmong Try.f4.resultTypes.toList)) = true := (by kernel_rfl)
theorem j16 : ((Rows.fnObjectTextRow.loops == (Try.f4.params.toList ++ Rows.fnObjectTextSpec.plain.varTypes Try.prog).any (Try.prog.loopsFrom ·))) = true := (by kernel_rfl)
theorem j17 : ((Rows.fnObjectTextRow.wideKeys == (Try.f4.params.toList ++ Rows.fnObjectTextSpec.plain.varTypes Try.prog ++ Try.f4.resultTypes.toList).any (Try.prog.wideKeysFrom ·))) = true := (by kernel_rfl)
theorem j18 : (Rows.fnObjectTextSpec.vars.all (Try.prog.varReadable ·)) = true := (by kernel_rfl)
theorem j19 : (Try.f4.resultTypes.all (fun t => Try.prog.readableRec t && decide (t < Try.prog.types.size))) = true := (by kernel_rfl)
theorem j20 : ((Rows.fnObjectTextRow.ifacesOut == Try.f4.resultTypes.toList.any (Try.prog.ifacesRec ·))) = true := (by kernel_rfl)
theorem j21 : ((Rows.fnObjectTextRow.loopsOut == Try.f4.resultTypes.toList.any (Try.prog.loopsFrom ·))) = true := (by kernel_rfl)
theorem j22 : ((Rows.fnObjectTextRow.plainKeys == Try.prog.plainKeys)) = true := (by kernel_rfl)
theorem j23 : (Rows.fnObjectTextRow.shortTexts.isNone) = true := (by kernel_rfl)
theorem j24 : (Try.prog.stopsHeard) = true := (by kernel_rfl)
theorem j25 : (Try.prog.mayEnter) = true := (by kernel_rfl)
theorem j26 : ((Rows.fnObjectTextRow.lifted == Try.prog.liftsFinal)) = true := (by kernel_rfl)
theorem j27 : ((Try.prog.make == some Rows.fnObjectTextRow.make)) = true := (by kernel_rfl)
theorem j29 : ((Rows.fnObjectTextRow.pinned == Rows.fnObjectTextRow.pinnedBy)) = true := (by kernel_rfl)
theorem j30 : ((Rows.fnObjectTextRow.veiled == (Try.f4.params.toList ++ Rows.fnObjectTextSpec.plain.varTypes Try.prog ++ Try.f4.resultTypes.toList).any (Try.prog.veiledRec ·))) = true := (by kernel_rfl)
theorem j31 : (Rows.fnObjectTextRow.veiledFits Try.prog Try.f4.params.toList (Try.f4.params.toList ++ Rows.fnObjectTextSpec.plain.varTypes Try.prog ++ Try.f4.resultTypes.toList)) = true := (by kernel_rfl)
theorem closed : joinedFacts Try.prog 4 Try.f4 Rows.fnObjectTextSpec Rows.fnObjectTextRow = true := by
  unfold joinedFacts
  exact andI (andI (andI (andI (andI (andI (andI (andI (andI (andI (andI (andI (andI (andI (andI (andI (andI (andI (andI (andI (andI (andI (andI (andI (andI (andI (andI (andI (andI (andI (andI (j0) j1) j2) j3) j4) j5) j6) j7) j8) j9) j10) j11) j12) j13) j14) j15) j16) j17) j18) j19) j20) j21) j22) j23) j24) j25) j26) j27) (by kernel_rfl)) j29) j30) j31
theorem named3 : Try.prog.funcNamed Rows.fnObjectTextRow.func = some 4 := by kernel_rfl
theorem inst3 : Try.f4.isInstance Try.prog Rows.fnObjectTextRow.origin Rows.fnObjectTextRow.targs := of_decide_eq_true (by kernel_rfl)
theorem wrap3 : Try.f4.isWrapper Try.prog Rows.fnObjectTextRow.wrapper Rows.fnObjectTextRow.mainSum := by unfold Func.isWrapper; first | (rw [if_pos (by decide +kernel)]; kernel_rfl) | (rw [if_neg (by decide +kernel)]; exact ⟨rfl, rfl⟩)
theorem over : Rows.fnObjectTextRow.holds Try.pinned (OpenSpec.ofChange Rows.fnObjectTextSpec) :=
  OpenClaim.holds_of_wide 4 Try.f4 rfl rfl rfl rfl rfl rfl rfl ⟨rfl, rfl, rfl, rfl, rfl⟩ rfl rfl rfl rfl rfl named3 Try.func4 closed
    inst3 wrap3
    (fun os started H enc _ => lifted os started H enc)
theorem proved : Rows.FnObjectTextSaid := over
#print axioms proved
end Go.Proofs.Ytloggcnmmcjleaa.fnObjectText
namespace Go.Proofs.Ytloggcnmmcjleaa
/-- The row, under a short name, for the claim. -/
theorem fnObjectText_holds : Rows.FnObjectTextSaid := fnObjectText.proved
end Go.Proofs.Ytloggcnmmcjleaa
