/- FnLink: for every input, the law returns true, and each argument reads afterwards as it did. No condition. -/
import Derived.Test.YtfgjcohcpehcjaaGreatRows
import Derived.Test.YtfgjcohcpehcjaaGreatSxW
import Derived.WalkKit
import Derived.ProofKit
import Derived.OpenShut
import Derived.ShutString
import Derived.ChangeOld
import Derived.Below
import Derived.SizedLaws
namespace Go.Proofs.YtfgjcohcpehcjaaGreat.fnLink
open Go.ChangeShapes Go.WideShapes Go.ChangeAt Go.RowKit
open Go.ChangeMaps (open_string shut_string)
set_option linter.unusedVariables false
theorem own : ownKnob Tryz.prog.godebug = none := by kernel_rfl
theorem laidOut : laidOutB Tryz.prog = true := by kernel_rfl
set_option maxRecDepth 100000 in
theorem lifted (os : Os) (started : os.Started) (H : Type) (enc : TypeId × Value → H) :
    ReturnsInHanded {} Tryz.checked os 3 .any (Rows.fnLinkSpec.pre6 enc Tryz.prog Tryz.f3 Rows.fnLinkRow.domain false) (Rows.fnLinkSpec.post enc Tryz.prog Tryz.f3 false true false false) := by
  refine returnsInHanded_of_change_sized (C := Tryz.checked) own started (by kernel_rfl) Tryz.func3
    (ChangeSpec.witness6 (enc := enc) (C := Tryz.checked) false ⟨#[], #[.slice none 0 0, .slice none 0 0], []⟩ 8 (by kernel_rfl) (by kernel_rfl) (by kernel_rfl) (by kernel_rfl)) ?_
  intro W base args ds gs before hval0 hW hcnd hsz0 _
  have hval : ∀ (j : Nat) t v, Tryz.f3.params[j]? = some t → args[j]? = some v → Value.okWide Tryz.prog W .any base t v := hval0
  have hW' := hW
  obtain ⟨p, q, hA0, hV, rfl, hfz, hnd⟩ := hW
  have hA : DataW.TrodAll enc Tryz.prog W 0 (fun _ => true) true Tryz.f3.params.toList args.toList ds p := hA0
  rw [Tryz.params3] at hA hval
  obtain ⟨v0, vs0, d0, ds0, p0, q0, hargs0, rfl, rfl, h0, z0⟩ := trodAll_cons hA
  obtain ⟨v1, vs1, d1, ds1, p1, q1, hargs1, rfl, rfl, h1, z1⟩ := trodAll_cons z0
  obtain ⟨rfl, rfl, rfl⟩ := trodAll_nil z1
  obtain rfl : args = #[v0, v1] := by cases args; simp_all
  obtain ⟨rfl, rfl⟩ := trodVars_none hV
  have lt0 : ∀ x ∈ p0, x.block < W.heap.size := by obtain ⟨m, hm⟩ := h0; exact DataW.trod_lt m _ _ _ hm
  have lt1 : ∀ x ∈ p1, x.block < W.heap.size := by obtain ⟨m, hm⟩ := h1; exact DataW.trod_lt m _ _ _ hm
  have h0' := h0
  have h1' := h1
  obtain ⟨b0, n0, c0, rfl⟩ := okWide_slice Tryz.underlying22 (hval 0 _ v0 rfl rfl)
  obtain ⟨fuel0, hf0⟩ := h0
  obtain ⟨s0, hs0, hw0⟩ := Go.Ps.trod_rep 30 fuel0 _ (.list (.int .u8)) _ _ (by kernel_rfl) hf0
  obtain ⟨b1, n1, c1, rfl⟩ := okWide_slice Tryz.underlying22 (hval 1 _ v1 rfl rfl)
  obtain ⟨fuel1, hf1⟩ := h1
  obtain ⟨s1, hs1, hw1⟩ := Go.Ps.trod_rep 30 fuel1 _ (.list (.int .u8)) _ _ (by kernel_rfl) hf1
  clear hA0 hval0 hsz0
  have hwalk := S.walk s0 hw0 s1 hw1 W _ hs0 _ hs1
  refine hwalk.mono fun e W' ⟨he, bel⟩ => ?_
  subst he
  exact ⟨_, rfl, _, _, _, [], _, [], hW', trodAll_mk1 (shut_bool Tryz.underlying4 _), (trodAll_cons_mk (Below.trod laidOut (by kernel_rfl) (of_decide_eq_true (by kernel_rfl)) h0' bel lt0) (trodAll_cons_mk (Below.trod laidOut (by kernel_rfl) (of_decide_eq_true (by kernel_rfl)) h1' bel lt1) trodAll_mk0)), rfl, bel.frame _, fun h => by cases h⟩
theorem andI {a b : Bool} (ha : a = true) (hb : b = true) : (a && b) = true := by rw [ha, hb]; rfl
theorem j0 : (Rows.fnLinkRow.wf (OpenSpec.ofChange Rows.fnLinkSpec)) = true := (by kernel_rfl)
theorem j1 : (laidOutB Tryz.prog) = true := laidOut
theorem j2 : (mapsRowed Tryz.prog) = true := (by kernel_rfl)
theorem j3 : (Tryz.f3.params.all (Tryz.prog.readableRec ·)) = true := (by kernel_rfl)
theorem j4 : (namedTie Tryz.prog Rows.fnLinkRow.named Rows.fnLinkSpec.vars) = true := (by kernel_rfl)
theorem j5 : ((Rows.fnLinkRow.stops == [])) = true := (by kernel_rfl)
theorem j6 : ((Tryz.prog.stops == [])) = true := (by kernel_rfl)
theorem j7 : ((Rows.fnLinkRow.knobs == [])) = true := (by kernel_rfl)
theorem j8 : ((Tryz.prog.stopKnobs == [])) = true := (by kernel_rfl)
theorem j9 : ((Rows.fnLinkRow.inPlace == Tryz.prog.inPlace 3)) = true := (by kernel_rfl)
theorem j10 : ((Rows.fnLinkRow.unfollowed == Tryz.prog.unfollowed 3)) = true := (by kernel_rfl)
theorem j11 : ((Rows.fnLinkRow.recurses == Tryz.prog.recurses 3)) = true := (by kernel_rfl)
theorem j12 : ((Rows.fnLinkRow.named == Tryz.prog.varsNamed 3)) = true := (by kernel_rfl)
theorem j13 : ((Rows.fnLinkRow.maps == (Tryz.f3.params.toList ++ Rows.fnLinkSpec.plain.varTypes Tryz.prog).any (Tryz.prog.mapsRec ·))) = true := (by kernel_rfl)
theorem j14 : ((Rows.fnLinkRow.ifaces == (Tryz.f3.params.toList ++ Rows.fnLinkSpec.plain.varTypes Tryz.prog).any (Tryz.prog.ifacesRec ·))) = true := (by kernel_rfl)
theorem j15 : ((Rows.fnLinkRow.mapsOut == Tryz.prog.mapsAmong Tryz.f3.resultTypes.toList)) = true := (by kernel_rfl)
theorem j16 : ((Rows.fnLinkRow.loops == (Tryz.f3.params.toList ++ Rows.fnLinkSpec.plain.varTypes Tryz.prog).any (Tryz.prog.loopsFrom ·))) = true := (by kernel_rfl)
theorem j17 : ((Rows.fnLinkRow.wideKeys == (Tryz.f3.params.toList ++ Rows.fnLinkSpec.plain.varTypes Tryz.prog ++ Tryz.f3.resultTypes.toList).any (Tryz.prog.wideKeysFrom ·))) = true := (by kernel_rfl)
theorem j18 : (Rows.fnLinkSpec.vars.all (Tryz.prog.varReadable ·)) = true := (by kernel_rfl)
theorem j19 : (Tryz.f3.resultTypes.all (fun t => Tryz.prog.readableRec t && decide (t < Tryz.prog.types.size))) = true := (by kernel_rfl)
theorem j20 : ((Rows.fnLinkRow.ifacesOut == Tryz.f3.resultTypes.toList.any (Tryz.prog.ifacesRec ·))) = true := (by kernel_rfl)
theorem j21 : ((Rows.fnLinkRow.loopsOut == Tryz.f3.resultTypes.toList.any (Tryz.prog.loopsFrom ·))) = true := (by kernel_rfl)
theorem j22 : ((Rows.fnLinkRow.plainKeys == Tryz.prog.plainKeys)) = true := (by kernel_rfl)
theorem j23 : (Rows.fnLinkRow.shortTexts.isNone) = true := (by kernel_rfl)
theorem j24 : (Tryz.prog.stopsHeard) = true := (by kernel_rfl)
theorem j25 : (Tryz.prog.mayEnter) = true := (by kernel_rfl)
theorem j26 : ((Rows.fnLinkRow.lifted == Tryz.prog.liftsFinal)) = true := (by kernel_rfl)
theorem j27 : ((Tryz.prog.make == some Rows.fnLinkRow.make)) = true := (by kernel_rfl)
theorem j29 : ((Rows.fnLinkRow.pinned == Rows.fnLinkRow.pinnedBy)) = true := (by kernel_rfl)
theorem j30 : ((Rows.fnLinkRow.veiled == (Tryz.f3.params.toList ++ Rows.fnLinkSpec.plain.varTypes Tryz.prog ++ Tryz.f3.resultTypes.toList).any (Tryz.prog.veiledRec ·))) = true := (by kernel_rfl)
theorem j31 : (Rows.fnLinkRow.veiledFits Tryz.prog Tryz.f3.params.toList (Tryz.f3.params.toList ++ Rows.fnLinkSpec.plain.varTypes Tryz.prog ++ Tryz.f3.resultTypes.toList)) = true := (by kernel_rfl)
theorem closed : joinedFacts Tryz.prog 3 Tryz.f3 Rows.fnLinkSpec Rows.fnLinkRow = true := by
  unfold joinedFacts
  exact andI (andI (andI (andI (andI (andI (andI (andI (andI (andI (andI (andI (andI (andI (andI (andI (andI (andI (andI (andI (andI (andI (andI (andI (andI (andI (andI (andI (andI (andI (andI (j0) j1) j2) j3) j4) j5) j6) j7) j8) j9) j10) j11) j12) j13) j14) j15) j16) j17) j18) j19) j20) j21) j22) j23) j24) j25) j26) j27) (by kernel_rfl)) j29) j30) j31
theorem named3 : Tryz.prog.funcNamed Rows.fnLinkRow.func = some 3 := by kernel_rfl
theorem inst3 : Tryz.f3.isInstance Tryz.prog Rows.fnLinkRow.origin Rows.fnLinkRow.targs := of_decide_eq_true (by kernel_rfl)
theorem wrap3 : Tryz.f3.isWrapper Tryz.prog Rows.fnLinkRow.wrapper Rows.fnLinkRow.mainSum := by unfold Func.isWrapper; first | (rw [if_pos (by decide +kernel)]; kernel_rfl) | (rw [if_neg (by decide +kernel)]; exact ⟨rfl, rfl⟩)
theorem over : Rows.fnLinkRow.holds Tryz.pinned (OpenSpec.ofChange Rows.fnLinkSpec) :=
  OpenClaim.holds_of_wide 3 Tryz.f3 rfl rfl rfl rfl rfl rfl rfl ⟨rfl, rfl, rfl, rfl, rfl⟩ rfl rfl rfl rfl rfl named3 Tryz.func3 closed
    inst3 wrap3
    (fun os started H enc _ => lifted os started H enc)
theorem proved : Rows.FnLinkSaid := over
#print axioms proved
end Go.Proofs.YtfgjcohcpehcjaaGreat.fnLink
namespace Go.Proofs.YtfgjcohcpehcjaaGreat
/-- The row, under a short name, for the claim. -/
theorem fnLink_holds : Rows.FnLinkSaid := fnLink.proved
end Go.Proofs.YtfgjcohcpehcjaaGreat
