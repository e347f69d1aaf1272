/- FnActs: for every input, the law returns true, and each argument reads afterwards as it did. No condition. -/
import Derived.Test.YtploohppgddamaaGreatDoorRows
import Derived.Test.YtploohppgddamaaGreatDoorSxW
import Derived.WalkKit
import Derived.ProofKit
import Derived.OpenShut
import Derived.ShutString
import Derived.ChangeOld
import Derived.Below
import Derived.SizedLaws
import Derived.LaidMore
import Derived.SevenTiedAt
import Derived.Test.YtploohppgddamaaGreatDoorPsZe
import Derived.Shelf.Vars
import Derived.Test.YtploohppgddamaaGreatDoorCards
import Derived.Test.YtploohppgddamaaGreatDoorTie
namespace Go.Proofs.YtploohppgddamaaGreatDoor.fnActs
open Go.ChangeShapes Go.WideShapes Go.ChangeAt Go.RowKit
open Go.ChangeMaps (open_string shut_string)
set_option linter.unusedVariables false
theorem own : ownKnob Tryz.prog.godebug = none := by kernel_rfl
theorem laidOut : laidOutB Tryz.prog = true := by kernel_rfl
theorem gTab : Tryz.prog.globalNamed "internal/strconv.uint64pow10" = some 5 := by kernel_rfl
theorem tTab : (Tryz.prog.globals[5]?).map (·.type) = some 118 := by kernel_rfl
/-- What the tables hold as the call begins. -/
abbrev laidL : List (String × DataW Unit) := [("math/bits.deBruijn32tab", Rows.laid_math_bits_deBruijn32tab), ("math/bits.deBruijn64tab", Rows.laid_math_bits_deBruijn64tab), ("internal/strconv.uint64pow10", Rows.laid_internal_strconv_uint64pow10), ("unicode/utf8.acceptRanges", Rows.laid_unicode_utf8_acceptRanges), ("strconv.ErrRange", Rows.laid_strconv_ErrRange), ("strconv.ErrSyntax", Rows.laid_strconv_ErrSyntax), ("unicode/utf8.first", Rows.laid_unicode_utf8_first)]
/-- The witness's start: what the door's run leaves, and the pinned table in its place. -/
noncomputable def startW (os : Os) : World :=
  let w0 := World.doorLaid Tryz.prog 400 os
  { w0 with heap := w0.heap.modify 3 fun
    | .cells _ t frozen => .cells (Pinned.utf8FirstZ.map fun z : Nat => Value.int .u8 (z : Int)).toArray t frozen
    | o => o }
theorem door_met (os : Os) (args : Array Value) : laidMetH Tryz.prog laidL ((startW os).forCall (fun _ _ => 0) ⟨#[], args, []⟩).memory :=
  laidMetH_of_parts3 (fuel := 8) (laidMet_of_run' 8 (by kernel_rfl) (by kernel_rfl)) (by kernel_rfl) (by kernel_rfl)
theorem gSyn : Tryz.prog.globalNamed "strconv.ErrSyntax" = some 0 := by kernel_rfl
theorem tSyn : (Tryz.prog.globals[0]?).map (·.type) = some 65 := by kernel_rfl
theorem of_laid {W : World} (h : laidMetH Tryz.prog laidL W) (hsh : W.ShapedOpen Tryz.prog) : S.inv.at_ (Go.Ps.InHeap W) W := by
  rw [MakeChecks.laidMetH_plain _ _ _ (by kernel_rfl)] at h
  obtain ⟨ps, h, _⟩ := h
  obtain ⟨g0, t0, cs0, f0, p0, q0, hg0, ht0, hv0, hd0, h, _⟩ := h
  obtain ⟨g1, t1, cs1, f1, p1, q1, hg1, ht1, hv1, hd1, h, _⟩ := h
  obtain ⟨g2, t2, cs2, f2, p2, q2, hg2, ht2, hv2, hd2, h, _⟩ := h
  obtain ⟨g3, t3, cs3, f3, p3, q3, hg3, ht3, hv3, hd3, h, _⟩ := h
  obtain ⟨g4, t4, cs4, f4, p4, q4, hg4, ht4, hv4, hd4, h, _⟩ := h
  obtain ⟨g5, t5, cs5, f5, p5, q5, hg5, ht5, hv5, hd5, h, _⟩ := h
  obtain rfl := Option.some.inj (gTab.symm.trans hg2)
  obtain rfl := Option.some.inj (tTab.symm.trans ht2)
  have h2 : Lib.TabIs Tryz.prog W "internal/strconv.uint64pow10" .u64 Lib.pow10Tab := by
    unfold Lib.TabIs
    rw [hv2, ← Lib.cells_of_tab (k := .u64) (zs := Lib.pow10Tab) (show Tryz.prog.underlying 118 = some (.array 20 94) by kernel_rfl) (show Tryz.prog.underlying 94 = some (.int .u64) by kernel_rfl) (by kernel_rfl) (by kernel_rfl) hd2]
  obtain ⟨m, hm⟩ : ∃ m, W.cell? ⟨2, 0, none⟩ = some (.int .i64 m) := cell_of_shapedOpen_int (P := Tryz.prog) (g := 2) (t := 3) (zero := #[.int .i64 0]) hsh (of_decide_eq_true (by kernel_rfl)) (by kernel_rfl) rfl (by kernel_rfl) (by kernel_rfl) Tryz.underlying3
  obtain rfl := Option.some.inj (gSyn.symm.trans hg5)
  obtain rfl := Option.some.inj (tSyn.symm.trans ht5)
  have hs : ∃ v, W.cell? ⟨0, 0, none⟩ = some v ∧ (v = .nilIface ∨ ∃ te pe, v = .iface te pe) := by
    rcases Go.Ps.trod_iface (by kernel_rfl) hd5 with e | ⟨u, v, e⟩
    · exact ⟨_, (Go.Ps.cell_of_var gSyn hv5 e).2, .inl rfl⟩
    · exact ⟨_, (Go.Ps.cell_of_var gSyn hv5 e).2, .inr ⟨u, v, rfl⟩⟩
  have hsz : 0 < W.heap.size := by
    obtain ⟨v, h, _⟩ := hs
    exact Go.Ps.cell_in h
  refine ⟨⟨?_, h2⟩, ⟨hsz, hs⟩, ⟨Go.Ps.cell_in hm, _, hm, m, rfl⟩⟩
  unfold Lib.TabIs World.var? at h2
  simp only [gTab, Option.bind_some] at h2
  show 5 < W.heap.size
  cases hh : W.heap[5]? with
  | none => rw [hh] at h2; cases h2
  | some b => exact (Array.getElem?_eq_some_iff.1 hh).1
set_option maxRecDepth 100000 in
theorem lifted (os : Os) (started : os.Started) (H : Type) (enc : TypeId × Value → H) :
    ReturnsInHanded {} Tryz.checked os 3 .any (fun w args => (Rows.fnActsSpec.pre enc Tryz.prog Tryz.f3 [] false w args ∧ laidMetH Tryz.prog laidL w) ∧ sizedMet enc Tryz.prog Tryz.f3 (OpenSpec.ofChange Rows.fnActsSpec) false w args) (Rows.fnActsSpec.post enc Tryz.prog Tryz.f3 false true false false) := by
  refine returnsInHanded_of_change_and_shaped (C := Tryz.checked) (X := fun w _ => laidMetH Tryz.prog laidL w) (fun _ _ _ hh h => h.of_heap hh) own started (by kernel_rfl) Tryz.func3
    (ChangeSpec.witness_shaped (enc := enc) (C := Tryz.checked) (os := os) (X := fun w _ => laidMetH Tryz.prog laidL w) false (startW os) #[.slice none 0 0, .slice none 0 0] 8 rfl (World.shaped_of_RefB (by kernel_rfl) (by kernel_rfl)) (by kernel_rfl) (by kernel_rfl) (by kernel_rfl) (door_met os _)) ?_
  intro W base args ds gs before hval0 hW hcnd hsz0 hL hsh
  have hval : ∀ (j : Nat) t v, Tryz.f3.params[j]? = some t → args[j]? = some v → Value.okWide Tryz.prog W .any base t v := hval0
  have hW' := hW
  obtain ⟨p, q, hA0, hV, rfl, hfz, hnd⟩ := hW
  have hA : DataW.TrodAll enc Tryz.prog W 0 (fun _ => true) true Tryz.f3.params.toList args.toList ds p := hA0
  rw [Tryz.params3] at hA hval
  obtain ⟨v0, vs0, d0, ds0, p0, q0, hargs0, rfl, rfl, h0, z0⟩ := trodAll_cons hA
  obtain ⟨v1, vs1, d1, ds1, p1, q1, hargs1, rfl, rfl, h1, z1⟩ := trodAll_cons z0
  obtain ⟨rfl, rfl, rfl⟩ := trodAll_nil z1
  obtain rfl : args = #[v0, v1] := by cases args; simp_all
  obtain ⟨rfl, rfl⟩ := trodVars_none hV
  have lt0 : ∀ x ∈ p0, x.block < W.heap.size := by obtain ⟨m, hm⟩ := h0; exact DataW.trod_lt m _ _ _ hm
  have lt1 : ∀ x ∈ p1, x.block < W.heap.size := by obtain ⟨m, hm⟩ := h1; exact DataW.trod_lt m _ _ _ hm
  have h0' := h0
  have h1' := h1
  obtain ⟨b0, n0, c0, rfl⟩ := okWide_slice Tryz.underlying22 (hval 0 _ v0 rfl rfl)
  obtain ⟨fuel0, hf0⟩ := h0
  obtain ⟨s0, hs0, hw0⟩ := Go.Ps.trod_rep 30 fuel0 _ (.list (.int .u8)) _ _ (by kernel_rfl) hf0
  obtain ⟨b1, n1, c1, rfl⟩ := okWide_slice Tryz.underlying22 (hval 1 _ v1 rfl rfl)
  obtain ⟨fuel1, hf1⟩ := h1
  obtain ⟨s1, hs1, hw1⟩ := Go.Ps.trod_rep 30 fuel1 _ (.list (.int .u8)) _ _ (by kernel_rfl) hf1
  clear hA0 hval0 hsz0
  have hwalk := S.walk s0 hw0 s1 hw1 W (of_laid hL hsh) _ hs0 _ hs1
  refine hwalk.mono fun e W' ⟨he, bel⟩ => ?_
  subst he
  exact ⟨_, rfl, _, _, _, [], _, [], hW', trodAll_mk1 (shut_bool Tryz.underlying4 _), (trodAll_cons_mk (Below.trod laidOut (by kernel_rfl) (of_decide_eq_true (by kernel_rfl)) h0' bel lt0) (trodAll_cons_mk (Below.trod laidOut (by kernel_rfl) (of_decide_eq_true (by kernel_rfl)) h1' bel lt1) trodAll_mk0)), rfl, bel.frame _, fun h => by cases h⟩
theorem andI {a b : Bool} (ha : a = true) (hb : b = true) : (a && b) = true := by rw [ha, hb]; rfl
theorem j0 : (Rows.fnActsRow.wf (OpenSpec.ofChange Rows.fnActsSpec)) = true := (by kernel_rfl)
theorem j1 : (laidOutB Tryz.prog) = true := laidOut
theorem j2 : (mapsRowed Tryz.prog) = true := (by kernel_rfl)
theorem j3 : (Tryz.f3.params.all (Tryz.prog.readableRec ·)) = true := (by kernel_rfl)
theorem j4 : (namedTie Tryz.prog Rows.fnActsRow.named Rows.fnActsSpec.vars) = true := (by kernel_rfl)
theorem j5 : ((Rows.fnActsRow.stops == [])) = true := (by kernel_rfl)
theorem j6 : ((Tryz.prog.stops == [])) = true := (by kernel_rfl)
theorem j7 : ((Rows.fnActsRow.knobs == [])) = true := (by kernel_rfl)
theorem j8 : ((Tryz.prog.stopKnobs == [])) = true := (by kernel_rfl)
theorem j9 : ((Rows.fnActsRow.inPlace == Tryz.prog.inPlace 3)) = true := (by kernel_rfl)
theorem j10 : ((Rows.fnActsRow.unfollowed == Tryz.prog.unfollowed 3)) = true := (by kernel_rfl)
theorem j11 : ((Rows.fnActsRow.recurses == Tryz.prog.recurses 3)) = true := (by kernel_rfl)
theorem j12 : ((Rows.fnActsRow.named == Tryz.prog.varsNamed 3)) = true := (by kernel_rfl)
theorem j13 : ((Rows.fnActsRow.maps == (Tryz.f3.params.toList ++ Rows.fnActsSpec.plain.varTypes Tryz.prog).any (Tryz.prog.mapsRec ·))) = true := (by kernel_rfl)
theorem j14 : ((Rows.fnActsRow.ifaces == (Tryz.f3.params.toList ++ Rows.fnActsSpec.plain.varTypes Tryz.prog).any (Tryz.prog.ifacesRec ·))) = true := (by kernel_rfl)
theorem j15 : ((Rows.fnActsRow.mapsOut == Tryz.prog.mapsAmong Tryz.f3.resultTypes.toList)) = true := (by kernel_rfl)
theorem j16 : ((Rows.fnActsRow.loops == (Tryz.f3.params.toList ++ Rows.fnActsSpec.plain.varTypes Tryz.prog).any (Tryz.prog.loopsFrom ·))) = true := (by kernel_rfl)
theorem j17 : ((Rows.fnActsRow.wideKeys == (Tryz.f3.params.toList ++ Rows.fnActsSpec.plain.varTypes Tryz.prog ++ Tryz.f3.resultTypes.toList).any (Tryz.prog.wideKeysFrom ·))) = true := (by kernel_rfl)
theorem j18 : (Rows.fnActsSpec.vars.all (Tryz.prog.varReadable ·)) = true := (by kernel_rfl)
theorem j19 : (Tryz.f3.resultTypes.all (fun t => Tryz.prog.readableRec t && decide (t < Tryz.prog.types.size))) = true := (by kernel_rfl)
theorem j20 : ((Rows.fnActsRow.ifacesOut == Tryz.f3.resultTypes.toList.any (Tryz.prog.ifacesRec ·))) = true := (by kernel_rfl)
theorem j21 : ((Rows.fnActsRow.loopsOut == Tryz.f3.resultTypes.toList.any (Tryz.prog.loopsFrom ·))) = true := (by kernel_rfl)
theorem j22 : ((Rows.fnActsRow.plainKeys == Tryz.prog.plainKeys)) = true := (by kernel_rfl)
theorem j23 : (Rows.fnActsRow.shortTexts.isNone) = true := (by kernel_rfl)
theorem j24 : (Tryz.prog.stopsHeard) = true := (by kernel_rfl)
theorem j25 : (Tryz.prog.mayEnter) = true := (by kernel_rfl)
theorem j26 : ((Rows.fnActsRow.lifted == Tryz.prog.liftsFinal)) = true := (by kernel_rfl)
theorem j27 : ((Tryz.prog.make == some Rows.fnActsRow.make)) = true := (by kernel_rfl)
theorem j29 : ((Rows.fnActsRow.pinned == Rows.fnActsRow.pinnedBy)) = true := (by kernel_rfl)
theorem j30 : ((Rows.fnActsRow.veiled == (Tryz.f3.params.toList ++ Rows.fnActsSpec.plain.varTypes Tryz.prog ++ Tryz.f3.resultTypes.toList).any (Tryz.prog.veiledRec ·))) = true := (by kernel_rfl)
theorem j31 : (Rows.fnActsRow.veiledFits Tryz.prog Tryz.f3.params.toList (Tryz.f3.params.toList ++ Rows.fnActsSpec.plain.varTypes Tryz.prog ++ Tryz.f3.resultTypes.toList)) = true := (by kernel_rfl)
theorem closed : joinedFacts Tryz.prog 3 Tryz.f3 Rows.fnActsSpec Rows.fnActsRow = true := by
  unfold joinedFacts
  exact andI (andI (andI (andI (andI (andI (andI (andI (andI (andI (andI (andI (andI (andI (andI (andI (andI (andI (andI (andI (andI (andI (andI (andI (andI (andI (andI (andI (andI (andI (andI (j0) j1) j2) j3) j4) j5) j6) j7) j8) j9) j10) j11) j12) j13) j14) j15) j16) j17) j18) j19) j20) j21) j22) j23) j24) j25) j26) j27) (by kernel_rfl)) j29) j30) j31
theorem named3 : Tryz.prog.funcNamed Rows.fnActsRow.func = some 3 := by kernel_rfl
theorem inst3 : Tryz.f3.isInstance Tryz.prog Rows.fnActsRow.origin Rows.fnActsRow.targs := of_decide_eq_true (by kernel_rfl)
theorem wrap3 : Tryz.f3.isWrapper Tryz.prog Rows.fnActsRow.wrapper Rows.fnActsRow.mainSum := by unfold Func.isWrapper; first | (rw [if_pos (by decide +kernel)]; kernel_rfl) | (rw [if_neg (by decide +kernel)]; exact ⟨rfl, rfl⟩)
theorem over : Rows.fnActsRow.holds Tryz.pinned (OpenSpec.ofChange Rows.fnActsSpec) :=
  OpenClaim.holds_of_wide 3 Tryz.f3 rfl rfl rfl rfl rfl rfl rfl ⟨rfl, rfl, rfl, rfl, rfl⟩ rfl rfl rfl rfl rfl named3 Tryz.func3 closed
    inst3 wrap3
    (fun os started H enc _ => lifted os started H enc)
theorem proved : Rows.FnActsSaid := over
#print axioms proved
end Go.Proofs.YtploohppgddamaaGreatDoor.fnActs
namespace Go.Proofs.YtploohppgddamaaGreatDoor
/-- The row, under a short name, for the claim. -/
theorem fnActs_holds : Rows.FnActsCardSaid :=
  Claim7.holds_tied_plain_at .later [] [.data, .data, .data, .data, .sentinel, .sentinel, .pinned] true (true, "0830e0e21318bf634595f367da96643730ae7d0d2cd5e8cd03a2fdf953c718c3") true
    fnActs.proved (fun _ h => by cases h) (by kernel_rfl) (fun _ h => by cases h) fnActs_row_tie rfl ⟨rfl, rfl⟩ (by kernel_rfl) rfl
    (fun f fn hf hfn => by
      obtain rfl : f = 3 := Option.some.inj ((show Tryz.prog.funcNamed "loop.example/g00654/laws.FnActs" = some 3 by kernel_rfl).symm.trans hf) |>.symm
      obtain rfl : fn = Tryz.f3 := (Option.some.inj (Tryz.func3.symm.trans hfn)).symm
      exact ⟨by kernel_rfl, fun j t ht => by
        rw [Tryz.params3] at ht
        have hm : t ∈ [22, 22] := by simpa using Array.mem_of_getElem? ht
        have hall : ([22, 22].all fun u => !Tryz.prog.wantsStandIn u) = true := by kernel_rfl
        exact (show Tryz.prog.wantsStandIn t = false by simpa using List.all_eq_true.1 hall t hm)⟩)
    (by kernel_rfl)
#print axioms fnActs_holds
end Go.Proofs.YtploohppgddamaaGreatDoor
