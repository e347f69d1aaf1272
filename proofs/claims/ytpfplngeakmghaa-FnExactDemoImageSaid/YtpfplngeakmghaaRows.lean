/-
  No cell of these rows narrows 'for every input' (looked for: loops, veiled, ifaces, maps, wideKeys, modest, calm, conditions, laid).
  DERIVED. THE GIVEN ROWS OF THIS SEAT. 5 by the template 'for every input the law returns true; each argument reads behind the call as it read before'; 0 by the template 'total and deterministic' (their statements: YtpfplngeakmghaaTotals.lean).
  GIVEN WITH THE SEED: the statements are not yours to turn. If you find one false, say at which input.
  Laid BY PROGRAM, IN A SANDBOX (cutbox-rows.mjs): the forced cells as the released guide's own fill.sh prints them over the translation 6b9fa67655e1ce2b… (all of the seat's roots in one cut). By AI agents, Wed Nov 11 2026. No macro, syntax, notation, axiom, sorry.
-/
import Derived.Test.YtpfplngeakmghaaChecked
import GoSem.Claim
import GoSem.ClaimJoined
import GoSem.ClaimMapViews
import Derived.JoinedTies
import Derived.KernelRfl
namespace Go.Proofs.Ytpfplngeakmghaa
/- THE CELL 'sum', in the pinned program and in every row, IS THE sha256 OF THE DUMP (.gsa) THAT YtpfplngeakmghaaProg.lean LOADS. Nothing in Lean hashes anything: it is a label: what it is worth is what the hold of that sum in a sandbox is worth. -/
noncomputable def Try.pinned : Pinned := { name := "ytpfplngeakmghaa", sum := "6b9fa67655e1ce2b29aac8fc6bbc2abfe85111400d2c655d882c509aa2c18ac0", checked := Try.checked }
namespace Rows
def none {H : Type} : Left H := { results := [], args := [] }

/-- 'laws.FnExactActOK': WHATEVER THE INPUT: true; the input reads as it did. -/
def fnExactActOKSpec : ChangeSpec := { name := "fnExactActOK", fn := fun _ => fun
  | [d] => { results := [.lit (.bool true)], args := [d] }
  | _ => none }
def fnExactActOKRow : OpenClaim := { program := "ytpfplngeakmghaa", sum := "6b9fa67655e1ce2b29aac8fc6bbc2abfe85111400d2c655d882c509aa2c18ac0", func := "loop.example/g00654/laws.FnExactActOK", spec := "fnExactActOK", apart := false }
def FnExactActOKSaid : Prop := fnExactActOKRow.holds Try.pinned (OpenSpec.ofChange fnExactActOKSpec)

/-- ITS FALSE NEIGHBOUR: 'it returns false'. Refute it at one input. -/
def fnExactActOKWrong : ChangeSpec := { name := "fnExactActOK", fn := fun _ => fun
  | [d] => { results := [.lit (.bool false)], args := [d] }
  | _ => none }
def FnExactActOKWrongFalsely : Prop := fnExactActOKRow.holds Try.pinned (OpenSpec.ofChange fnExactActOKWrong)

/-- 'laws.FnExactDemoObject': WHATEVER THE INPUT: true; the input reads as it did. -/
def fnExactDemoObjectSpec : ChangeSpec := { name := "fnExactDemoObject", fn := fun _ => fun
  | [d] => { results := [.lit (.bool true)], args := [d] }
  | _ => none }
def fnExactDemoObjectRow : OpenClaim := { program := "ytpfplngeakmghaa", sum := "6b9fa67655e1ce2b29aac8fc6bbc2abfe85111400d2c655d882c509aa2c18ac0", func := "loop.example/g00654/laws.FnExactDemoObject", spec := "fnExactDemoObject", apart := false }
def FnExactDemoObjectSaid : Prop := fnExactDemoObjectRow.holds Try.pinned (OpenSpec.ofChange fnExactDemoObjectSpec)

/-- ITS FALSE NEIGHBOUR: 'it returns false'. Refute it at one input. -/
def fnExactDemoObjectWrong : ChangeSpec := { name := "fnExactDemoObject", fn := fun _ => fun
  | [d] => { results := [.lit (.bool false)], args := [d] }
  | _ => none }
def FnExactDemoObjectWrongFalsely : Prop := fnExactDemoObjectRow.holds Try.pinned (OpenSpec.ofChange fnExactDemoObjectWrong)

/-- 'laws.FnExactDemoImage': WHATEVER THE INPUT: true; the input reads as it did. -/
def fnExactDemoImageSpec : ChangeSpec := { name := "fnExactDemoImage", fn := fun _ => fun
  | [] => { results := [.lit (.bool true)], args := [] }
  | _ => none }
def fnExactDemoImageRow : OpenClaim := { program := "ytpfplngeakmghaa", sum := "6b9fa67655e1ce2b29aac8fc6bbc2abfe85111400d2c655d882c509aa2c18ac0", func := "loop.example/g00654/laws.FnExactDemoImage", spec := "fnExactDemoImage", inPlace := ["internal/abi.NoEscape", "internal/bytealg.MakeNoZero"], apart := false }
def FnExactDemoImageSaid : Prop := fnExactDemoImageRow.holds Try.pinned (OpenSpec.ofChange fnExactDemoImageSpec)

/-- ITS FALSE NEIGHBOUR: 'it returns false'. Refute it at one input. -/
def fnExactDemoImageWrong : ChangeSpec := { name := "fnExactDemoImage", fn := fun _ => fun
  | [] => { results := [.lit (.bool false)], args := [] }
  | _ => none }
def FnExactDemoImageWrongFalsely : Prop := fnExactDemoImageRow.holds Try.pinned (OpenSpec.ofChange fnExactDemoImageWrong)

/-- 'laws.FnExactReadObject': WHATEVER THE INPUT: true; the input reads as it did. -/
def fnExactReadObjectSpec : ChangeSpec := { name := "fnExactReadObject", fn := fun _ => fun
  | [d] => { results := [.lit (.bool true)], args := [d] }
  | _ => none }
def fnExactReadObjectRow : OpenClaim := { program := "ytpfplngeakmghaa", sum := "6b9fa67655e1ce2b29aac8fc6bbc2abfe85111400d2c655d882c509aa2c18ac0", func := "loop.example/g00654/laws.FnExactReadObject", spec := "fnExactReadObject", unfollowed := true, recurses := true, apart := false }
def FnExactReadObjectSaid : Prop := fnExactReadObjectRow.holds Try.pinned (OpenSpec.ofChange fnExactReadObjectSpec)

/-- ITS FALSE NEIGHBOUR: 'it returns false'. Refute it at one input. -/
def fnExactReadObjectWrong : ChangeSpec := { name := "fnExactReadObject", fn := fun _ => fun
  | [d] => { results := [.lit (.bool false)], args := [d] }
  | _ => none }
def FnExactReadObjectWrongFalsely : Prop := fnExactReadObjectRow.holds Try.pinned (OpenSpec.ofChange fnExactReadObjectWrong)

/-- 'laws.FnObject': WHATEVER THE INPUT: true; the input reads as it did. -/
def fnObjectSpec : ChangeSpec := { name := "fnObject", fn := fun _ => fun
  | [d1, d2] => { results := [.lit (.bool true)], args := [d1, d2] }
  | _ => none }
def fnObjectRow : OpenClaim := { program := "ytpfplngeakmghaa", sum := "6b9fa67655e1ce2b29aac8fc6bbc2abfe85111400d2c655d882c509aa2c18ac0", func := "loop.example/g00654/laws.FnObject", spec := "fnObject", apart := false }
def FnObjectSaid : Prop := fnObjectRow.holds Try.pinned (OpenSpec.ofChange fnObjectSpec)

/-- ITS FALSE NEIGHBOUR: 'it returns false'. Refute it at one input. -/
def fnObjectWrong : ChangeSpec := { name := "fnObject", fn := fun _ => fun
  | [d1, d2] => { results := [.lit (.bool false)], args := [d1, d2] }
  | _ => none }
def FnObjectWrongFalsely : Prop := fnObjectRow.holds Try.pinned (OpenSpec.ofChange fnObjectWrong)

/- THE SECOND FORM. 'bulk': how many values and letters a reading holds, each counted each time it is reached (what is shared counts as often as it is met; a slice's spare places count too). A statement '..UptoSaid' is the law's where the arguments, and the package variables that the reading takes, are together of bulk at most 1048576: NARROWER than '..Said'. Prove '..Said' where nothing that the law and all that it calls make is longer than what came in: it says more and counts as full. Else prove '..UptoSaid'. A law counts once. -/
mutual
def uptoBulk {H : Type} : DataW H → Nat
  | .lit (.string bytes) => bytes.length + 1
  | .lit _ => 1
  | .nil => 1
  | .ptr d => uptoBulk d + 1
  | .slice elems spare => uptoBulkAll elems + uptoBulkAll spare + 1
  | .agg parts => uptoBulkAll parts + 1
  | .iface _ d => uptoBulk d + 1
  | .map entries => uptoBulkEntries entries + 1
  | .held _ => 1
def uptoBulkAll {H : Type} : List (DataW H) → Nat
  | [] => 0
  | d :: r => uptoBulk d + uptoBulkAll r
def uptoBulkEntries {H : Type} : List (Lit × DataW H) → Nat
  | [] => 0
  | x :: r => uptoBulkEntry x + uptoBulkEntries r
def uptoBulkEntry {H : Type} : Lit × DataW H → Nat
  | (.string bytes, d) => bytes.length + uptoBulk d + 1
  | (_, d) => uptoBulk d + 1
 end
def uptoSmall : (H : Type) → List (DataW H) → Bool := fun _ ds => decide (uptoBulkAll ds ≤ 1048576)
def OpenSpec.upto (s : _root_.Go.ChangeSpec) : _root_.Go.OpenSpec := { _root_.Go.OpenSpec.ofChange s with cond := some uptoSmall }

/-- 'laws.FnExactActOK', WHERE WHAT IT READS IS OF BULK AT MOST 1048576: true; the input reads as it did. -/
def fnExactActOKUptoRow : OpenClaim := { program := "ytpfplngeakmghaa", sum := "6b9fa67655e1ce2b29aac8fc6bbc2abfe85111400d2c655d882c509aa2c18ac0", func := "loop.example/g00654/laws.FnExactActOK", spec := "fnExactActOK", apart := false, narrowed := true }
def FnExactActOKUptoSaid : Prop := fnExactActOKUptoRow.holds Try.pinned (OpenSpec.upto fnExactActOKSpec)

/-- 'laws.FnExactDemoObject', WHERE WHAT IT READS IS OF BULK AT MOST 1048576: true; the input reads as it did. -/
def fnExactDemoObjectUptoRow : OpenClaim := { program := "ytpfplngeakmghaa", sum := "6b9fa67655e1ce2b29aac8fc6bbc2abfe85111400d2c655d882c509aa2c18ac0", func := "loop.example/g00654/laws.FnExactDemoObject", spec := "fnExactDemoObject", apart := false, narrowed := true }
def FnExactDemoObjectUptoSaid : Prop := fnExactDemoObjectUptoRow.holds Try.pinned (OpenSpec.upto fnExactDemoObjectSpec)

/-- 'laws.FnExactDemoImage', WHERE WHAT IT READS IS OF BULK AT MOST 1048576: true; the input reads as it did. -/
def fnExactDemoImageUptoRow : OpenClaim := { program := "ytpfplngeakmghaa", sum := "6b9fa67655e1ce2b29aac8fc6bbc2abfe85111400d2c655d882c509aa2c18ac0", func := "loop.example/g00654/laws.FnExactDemoImage", spec := "fnExactDemoImage", inPlace := ["internal/abi.NoEscape", "internal/bytealg.MakeNoZero"], apart := false, narrowed := true }
def FnExactDemoImageUptoSaid : Prop := fnExactDemoImageUptoRow.holds Try.pinned (OpenSpec.upto fnExactDemoImageSpec)

/-- 'laws.FnExactReadObject', WHERE WHAT IT READS IS OF BULK AT MOST 1048576: true; the input reads as it did. -/
def fnExactReadObjectUptoRow : OpenClaim := { program := "ytpfplngeakmghaa", sum := "6b9fa67655e1ce2b29aac8fc6bbc2abfe85111400d2c655d882c509aa2c18ac0", func := "loop.example/g00654/laws.FnExactReadObject", spec := "fnExactReadObject", unfollowed := true, recurses := true, apart := false, narrowed := true }
def FnExactReadObjectUptoSaid : Prop := fnExactReadObjectUptoRow.holds Try.pinned (OpenSpec.upto fnExactReadObjectSpec)

/-- 'laws.FnObject', WHERE WHAT IT READS IS OF BULK AT MOST 1048576: true; the input reads as it did. -/
def fnObjectUptoRow : OpenClaim := { program := "ytpfplngeakmghaa", sum := "6b9fa67655e1ce2b29aac8fc6bbc2abfe85111400d2c655d882c509aa2c18ac0", func := "loop.example/g00654/laws.FnObject", spec := "fnObject", apart := false, narrowed := true }
def FnObjectUptoSaid : Prop := fnObjectUptoRow.holds Try.pinned (OpenSpec.upto fnObjectSpec)

end Rows
end Go.Proofs.Ytpfplngeakmghaa
