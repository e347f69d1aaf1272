/- FnExactRoomOf: for every system, the law returns true (the program's RoomOf answers as the reference's), and the system reads afterwards as it did. No condition. -/
import Derived.Test.YtaplgfojdekgkaaGreatRows
import Derived.Test.YtaplgfojdekgkaaGreatSxW
import Derived.WalkKit
import Derived.ProofKit
import Derived.OpenShut
import Derived.ShutString
import Derived.ChangeOld
import Derived.Below
import Derived.SizedLaws
namespace Go.Proofs.YtaplgfojdekgkaaGreat.fnExactRoomOf
open Go.ChangeShapes Go.WideShapes Go.ChangeAt Go.RowKit
open Go.ChangeMaps (open_string shut_string)
set_option linter.unusedVariables false
theorem own : ownKnob Tryz.prog.godebug = none := by kernel_rfl
theorem laidOut : laidOutB Tryz.prog = true := by kernel_rfl
set_option maxRecDepth 100000 in
theorem lifted (os : Os) (started : os.Started) (H : Type) (enc : TypeId × Value → H) :
    ReturnsInHanded {} Tryz.checked os 3 .any (Rows.fnExactRoomOfSpec.pre6 enc Tryz.prog Tryz.f3 Rows.fnExactRoomOfRow.domain false) (Rows.fnExactRoomOfSpec.post enc Tryz.prog Tryz.f3 false true false false) := by
  refine returnsInHanded_of_change_sized (C := Tryz.checked) own started (by kernel_rfl) Tryz.func3
    (ChangeSpec.witness6 (enc := enc) (C := Tryz.checked) false ⟨#[], #[.agg #[.string ByteArray.empty, .string ByteArray.empty, .slice none 0 0, .slice none 0 0, .slice none 0 0, .slice none 0 0, .slice none 0 0, .slice none 0 0]], []⟩ 8 (by kernel_rfl) (by kernel_rfl) (by kernel_rfl) (by kernel_rfl)) ?_
  intro W base args ds gs before hval0 hW hcnd hsz0 _
  have hval : ∀ (j : Nat) t v, Tryz.f3.params[j]? = some t → args[j]? = some v → Value.okWide Tryz.prog W .any base t v := hval0
  have hW' := hW
  obtain ⟨p, q, hA0, hV, rfl, hfz, hnd⟩ := hW
  have hA : DataW.TrodAll enc Tryz.prog W 0 (fun _ => true) true Tryz.f3.params.toList args.toList ds p := hA0
  rw [Tryz.params3] at hA hval
  obtain ⟨v0, vs0, d0, ds0, p0, q0, hargs, rfl, rfl, h0, r0⟩ := trodAll_cons hA
  obtain ⟨rfl, rfl, rfl⟩ := trodAll_nil r0
  obtain rfl : args = #[v0] := by cases args; simp_all
  obtain ⟨rfl, rfl⟩ := trodVars_none hV
  have lt0 : ∀ x ∈ p0, x.block < W.heap.size := by obtain ⟨m, hm⟩ := h0; exact DataW.trod_lt m _ _ _ hm
  have h0' := h0
  obtain ⟨cs, rfl, hcs⟩ := okWide_struct Tryz.underlying35 (hval 0 _ v0 rfl rfl)
  obtain ⟨fuel, hf⟩ := h0
  obtain ⟨s, hs, hw⟩ := Go.Ps.trod_rep 30 fuel _ S.TSys _ _ (by kernel_rfl) hf
  clear hA0 hval0 hsz0
  have hwalk := S.walk s hw W _ hs
  rw [show (Value.agg cs).cells.toList.toArray = cs from Array.toArray_toList] at hwalk
  refine hwalk.mono fun e W' ⟨he, bel⟩ => ?_
  subst he
  exact ⟨_, rfl, _, _, _, [], _, [], hW', trodAll_mk1 (shut_bool Tryz.underlying4 _), (trodAll_cons_mk (Below.trod laidOut (by kernel_rfl) (of_decide_eq_true (by kernel_rfl)) h0' bel lt0) trodAll_mk0), rfl, bel.frame _, fun h => by cases h⟩
theorem andI {a b : Bool} (ha : a = true) (hb : b = true) : (a && b) = true := by rw [ha, hb]; rfl
theorem j0 : (Rows.fnExactRoomOfRow.wf (OpenSpec.ofChange Rows.fnExactRoomOfSpec)) = true := (by kernel_rfl)
theorem j1 : (laidOutB Tryz.prog) = true := laidOut
theorem j2 : (mapsRowed Tryz.prog) = true := (by kernel_rfl)
theorem j3 : (Tryz.f3.params.all (Tryz.prog.readableRec ·)) = true := (by kernel_rfl)
theorem j4 : (namedTie Tryz.prog Rows.fnExactRoomOfRow.named Rows.fnExactRoomOfSpec.vars) = true := (by kernel_rfl)
theorem j5 : ((Rows.fnExactRoomOfRow.stops == [])) = true := (by kernel_rfl)
theorem j6 : ((Tryz.prog.stops == [])) = true := (by kernel_rfl)
theorem j7 : ((Rows.fnExactRoomOfRow.knobs == [])) = true := (by kernel_rfl)
theorem j8 : ((Tryz.prog.stopKnobs == [])) = true := (by kernel_rfl)
theorem j9 : ((Rows.fnExactRoomOfRow.inPlace == Tryz.prog.inPlace 3)) = true := (by kernel_rfl)
theorem j10 : ((Rows.fnExactRoomOfRow.unfollowed == Tryz.prog.unfollowed 3)) = true := (by kernel_rfl)
theorem j11 : ((Rows.fnExactRoomOfRow.recurses == Tryz.prog.recurses 3)) = true := (by kernel_rfl)
theorem j12 : ((Rows.fnExactRoomOfRow.named == Tryz.prog.varsNamed 3)) = true := (by kernel_rfl)
theorem j13 : ((Rows.fnExactRoomOfRow.maps == (Tryz.f3.params.toList ++ Rows.fnExactRoomOfSpec.plain.varTypes Tryz.prog).any (Tryz.prog.mapsRec ·))) = true := (by kernel_rfl)
theorem j14 : ((Rows.fnExactRoomOfRow.ifaces == (Tryz.f3.params.toList ++ Rows.fnExactRoomOfSpec.plain.varTypes Tryz.prog).any (Tryz.prog.ifacesRec ·))) = true := (by kernel_rfl)
theorem j15 : ((Rows.fnExactRoomOfRow.mapsOut == Tryz.prog.mapsAmong Tryz.f3.resultTypes.toList)) = true := (by kernel_rfl)
theorem j16 : ((Rows.fnExactRoomOfRow.loops == (Tryz.f3.params.toList ++ Rows.fnExactRoomOfSpec.plain.varTypes Tryz.prog).any (Tryz.prog.loopsFrom ·))) = true := (by kernel_rfl)
theorem j17 : ((Rows.fnExactRoomOfRow.wideKeys == (Tryz.f3.params.toList ++ Rows.fnExactRoomOfSpec.plain.varTypes Tryz.prog ++ Tryz.f3.resultTypes.toList).any (Tryz.prog.wideKeysFrom ·))) = true := (by kernel_rfl)
theorem j18 : (Rows.fnExactRoomOfSpec.vars.all (Tryz.prog.varReadable ·)) = true := (by kernel_rfl)
theorem j19 : (Tryz.f3.resultTypes.all (fun t => Tryz.prog.readableRec t && decide (t < Tryz.prog.types.size))) = true := (by kernel_rfl)
theorem j20 : ((Rows.fnExactRoomOfRow.ifacesOut == Tryz.f3.resultTypes.toList.any (Tryz.prog.ifacesRec ·))) = true := (by kernel_rfl)
theorem j21 : ((Rows.fnExactRoomOfRow.loopsOut == Tryz.f3.resultTypes.toList.any (Tryz.prog.loopsFrom ·))) = true := (by kernel_rfl)
theorem j22 : ((Rows.fnExactRoomOfRow.plainKeys == Tryz.prog.plainKeys)) = true := (by kernel_rfl)
theorem j23 : (Rows.fnExactRoomOfRow.shortTexts.isNone) = true := (by kernel_rfl)
theorem j24 : (Tryz.prog.stopsHeard) = true := (by kernel_rfl)
theorem j25 : (Tryz.prog.mayEnter) = true := (by kernel_rfl)
theorem j26 : ((Rows.fnExactRoomOfRow.lifted == Tryz.prog.liftsFinal)) = true := (by kernel_rfl)
theorem j27 : ((Tryz.prog.make == some Rows.fnExactRoomOfRow.make)) = true := (by kernel_rfl)
theorem j29 : ((Rows.fnExactRoomOfRow.pinned == Rows.fnExactRoomOfRow.pinnedBy)) = true := (by kernel_rfl)
theorem j30 : ((Rows.fnExactRoomOfRow.veiled == (Tryz.f3.params.toList ++ Rows.fnExactRoomOfSpec.plain.varTypes Tryz.prog ++ Tryz.f3.resultTypes.toList).any (Tryz.prog.veiledRec ·))) = true := (by kernel_rfl)
theorem j31 : (Rows.fnExactRoomOfRow.veiledFits Tryz.prog Tryz.f3.params.toList (Tryz.f3.params.toList ++ Rows.fnExactRoomOfSpec.plain.varTypes Tryz.prog ++ Tryz.f3.resultTypes.toList)) = true := (by kernel_rfl)
theorem closed : joinedFacts Tryz.prog 3 Tryz.f3 Rows.fnExactRoomOfSpec Rows.fnExactRoomOfRow = true := by
  unfold joinedFacts
  exact andI (andI (andI (andI (andI (andI (andI (andI (andI (andI (andI (andI (andI (andI (andI (andI (andI (andI (andI (andI (andI (andI (andI (andI (andI (andI (andI (andI (andI (andI (andI (j0) j1) j2) j3) j4) j5) j6) j7) j8) j9) j10) j11) j12) j13) j14) j15) j16) j17) j18) j19) j20) j21) j22) j23) j24) j25) j26) j27) (by kernel_rfl)) j29) j30) j31
theorem named3 : Tryz.prog.funcNamed Rows.fnExactRoomOfRow.func = some 3 := by kernel_rfl
theorem inst3 : Tryz.f3.isInstance Tryz.prog Rows.fnExactRoomOfRow.origin Rows.fnExactRoomOfRow.targs := of_decide_eq_true (by kernel_rfl)
theorem wrap3 : Tryz.f3.isWrapper Tryz.prog Rows.fnExactRoomOfRow.wrapper Rows.fnExactRoomOfRow.mainSum := by unfold Func.isWrapper; first | (rw [if_pos (by decide +kernel)]; kernel_rfl) | (rw [if_neg (by decide +kernel)]; exact ⟨rfl, rfl⟩)
theorem over : Rows.fnExactRoomOfRow.holds Tryz.pinned (OpenSpec.ofChange Rows.fnExactRoomOfSpec) :=
  OpenClaim.holds_of_wide 3 Tryz.f3 rfl rfl rfl rfl rfl rfl rfl ⟨rfl, rfl, rfl, rfl, rfl⟩ rfl rfl rfl rfl rfl named3 Tryz.func3 closed
    inst3 wrap3
    (fun os started H enc _ => lifted os started H enc)
theorem proved : Rows.FnExactRoomOfSaid := over
#print axioms proved
end Go.Proofs.YtaplgfojdekgkaaGreat.fnExactRoomOf
namespace Go.Proofs.YtaplgfojdekgkaaGreat
/-- The row, under a short name, for the claim. -/
theorem fnExactRoomOf_holds : Rows.FnExactRoomOfSaid := fnExactRoomOf.proved
end Go.Proofs.YtaplgfojdekgkaaGreat
