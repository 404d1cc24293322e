/-
  No cell of these rows narrows 'for every input' (looked for: loops, veiled, ifaces, maps, wideKeys, modest, calm, conditions, laid).
  DERIVED. THE GIVEN ROWS OF THIS SEAT. 7 by the template 'for every input the law returns true; each argument reads behind the call as it read before'; 0 by the template 'total and deterministic' (their statements: YtedgfkpfhonlpaaGreatTotals.lean).
  GIVEN WITH THE SEED: the statements are not yours to turn. If you find one false, say at which input.
  Laid BY PROGRAM, IN A SANDBOX (cutbox-rows.mjs): the forced cells as the released guide's own fill.sh prints them over the translation 01f0bebc95305c2e… (all of the seat's roots in one cut). By AI agents, Wed Nov 11 2026. No macro, syntax, notation, axiom, sorry.
-/
import Derived.Test.YtedgfkpfhonlpaaGreatChecked
import GoSem.Claim
import GoSem.ClaimJoined
import GoSem.ClaimMapViews
import Derived.JoinedTies
import Derived.KernelRfl
namespace Go.Proofs.YtedgfkpfhonlpaaGreat
/- THE CELL 'sum', in the pinned program and in every row, IS THE sha256 OF THE DUMP (.gsa) THAT YtedgfkpfhonlpaaGreatProg.lean LOADS. Nothing in Lean hashes anything: it is a label: what it is worth is what the hold of that sum in a sandbox is worth. -/
noncomputable def Tryz.pinned : Pinned := { name := "ytedgfkpfhonlpaagreat", sum := "01f0bebc95305c2ef9753cbaa0176169bafbe56488bc2a0860f683d7562eaa6f", checked := Tryz.checked }
namespace Rows
def none {H : Type} : Left H := { results := [], args := [] }

/-- 'laws.FnThreefold': WHATEVER THE INPUT: true; the input reads as it did. -/
def fnThreefoldSpec : ChangeSpec := { name := "fnThreefold", fn := fun _ => fun
  | [d] => { results := [.lit (.bool true)], args := [d] }
  | _ => none }
def fnThreefoldRow : OpenClaim := { program := "ytedgfkpfhonlpaagreat", sum := "01f0bebc95305c2ef9753cbaa0176169bafbe56488bc2a0860f683d7562eaa6f", func := "loop.example/g01100/laws.FnThreefold", spec := "fnThreefold", inPlace := ["internal/abi.NoEscape"], unfollowed := true, recurses := true, apart := false }
def FnThreefoldSaid : Prop := fnThreefoldRow.holds Tryz.pinned (OpenSpec.ofChange fnThreefoldSpec)

/-- ITS FALSE NEIGHBOUR: 'it returns false'. Refute it at one input. -/
def fnThreefoldWrong : ChangeSpec := { name := "fnThreefold", fn := fun _ => fun
  | [d] => { results := [.lit (.bool false)], args := [d] }
  | _ => none }
def FnThreefoldWrongFalsely : Prop := fnThreefoldRow.holds Tryz.pinned (OpenSpec.ofChange fnThreefoldWrong)

/-- 'laws.FnExactAntipodeOf': WHATEVER THE INPUT: true; the input reads as it did. -/
def fnExactAntipodeOfSpec : ChangeSpec := { name := "fnExactAntipodeOf", fn := fun _ => fun
  | [d] => { results := [.lit (.bool true)], args := [d] }
  | _ => none }
def fnExactAntipodeOfRow : OpenClaim := { program := "ytedgfkpfhonlpaagreat", sum := "01f0bebc95305c2ef9753cbaa0176169bafbe56488bc2a0860f683d7562eaa6f", func := "loop.example/g01100/laws.FnExactAntipodeOf", spec := "fnExactAntipodeOf", inPlace := ["internal/abi.NoEscape"], unfollowed := true, recurses := true, apart := false }
def FnExactAntipodeOfSaid : Prop := fnExactAntipodeOfRow.holds Tryz.pinned (OpenSpec.ofChange fnExactAntipodeOfSpec)

/-- ITS FALSE NEIGHBOUR: 'it returns false'. Refute it at one input. -/
def fnExactAntipodeOfWrong : ChangeSpec := { name := "fnExactAntipodeOf", fn := fun _ => fun
  | [d] => { results := [.lit (.bool false)], args := [d] }
  | _ => none }
def FnExactAntipodeOfWrongFalsely : Prop := fnExactAntipodeOfRow.holds Tryz.pinned (OpenSpec.ofChange fnExactAntipodeOfWrong)

/-- 'laws.FnElements': WHATEVER THE INPUT: true; the input reads as it did. -/
def fnElementsSpec : ChangeSpec := { name := "fnElements", fn := fun _ => fun
  | [d] => { results := [.lit (.bool true)], args := [d] }
  | _ => none }
def fnElementsRow : OpenClaim := { program := "ytedgfkpfhonlpaagreat", sum := "01f0bebc95305c2ef9753cbaa0176169bafbe56488bc2a0860f683d7562eaa6f", func := "loop.example/g01100/laws.FnElements", spec := "fnElements", unfollowed := true, recurses := true, apart := false }
def FnElementsSaid : Prop := fnElementsRow.holds Tryz.pinned (OpenSpec.ofChange fnElementsSpec)

/-- ITS FALSE NEIGHBOUR: 'it returns false'. Refute it at one input. -/
def fnElementsWrong : ChangeSpec := { name := "fnElements", fn := fun _ => fun
  | [d] => { results := [.lit (.bool false)], args := [d] }
  | _ => none }
def FnElementsWrongFalsely : Prop := fnElementsRow.holds Tryz.pinned (OpenSpec.ofChange fnElementsWrong)

/-- 'laws.FnCoproducts': WHATEVER THE INPUT: true; the input reads as it did. -/
def fnCoproductsSpec : ChangeSpec := { name := "fnCoproducts", fn := fun _ => fun
  | [d] => { results := [.lit (.bool true)], args := [d] }
  | _ => none }
def fnCoproductsRow : OpenClaim := { program := "ytedgfkpfhonlpaagreat", sum := "01f0bebc95305c2ef9753cbaa0176169bafbe56488bc2a0860f683d7562eaa6f", func := "loop.example/g01100/laws.FnCoproducts", spec := "fnCoproducts", unfollowed := true, recurses := true, apart := false }
def FnCoproductsSaid : Prop := fnCoproductsRow.holds Tryz.pinned (OpenSpec.ofChange fnCoproductsSpec)

/-- ITS FALSE NEIGHBOUR: 'it returns false'. Refute it at one input. -/
def fnCoproductsWrong : ChangeSpec := { name := "fnCoproducts", fn := fun _ => fun
  | [d] => { results := [.lit (.bool false)], args := [d] }
  | _ => none }
def FnCoproductsWrongFalsely : Prop := fnCoproductsRow.holds Tryz.pinned (OpenSpec.ofChange fnCoproductsWrong)

/-- 'laws.FnProductCuts': WHATEVER THE INPUT: true; the input reads as it did. -/
def fnProductCutsSpec : ChangeSpec := { name := "fnProductCuts", fn := fun _ => fun
  | [d] => { results := [.lit (.bool true)], args := [d] }
  | _ => none }
def fnProductCutsRow : OpenClaim := { program := "ytedgfkpfhonlpaagreat", sum := "01f0bebc95305c2ef9753cbaa0176169bafbe56488bc2a0860f683d7562eaa6f", func := "loop.example/g01100/laws.FnProductCuts", spec := "fnProductCuts", unfollowed := true, recurses := true, apart := false }
def FnProductCutsSaid : Prop := fnProductCutsRow.holds Tryz.pinned (OpenSpec.ofChange fnProductCutsSpec)

/-- ITS FALSE NEIGHBOUR: 'it returns false'. Refute it at one input. -/
def fnProductCutsWrong : ChangeSpec := { name := "fnProductCuts", fn := fun _ => fun
  | [d] => { results := [.lit (.bool false)], args := [d] }
  | _ => none }
def FnProductCutsWrongFalsely : Prop := fnProductCutsRow.holds Tryz.pinned (OpenSpec.ofChange fnProductCutsWrong)

/-- 'laws.FnInverseByAntipode': WHATEVER THE INPUT: true; the input reads as it did. -/
def fnInverseByAntipodeSpec : ChangeSpec := { name := "fnInverseByAntipode", fn := fun _ => fun
  | [d] => { results := [.lit (.bool true)], args := [d] }
  | _ => none }
def fnInverseByAntipodeRow : OpenClaim := { program := "ytedgfkpfhonlpaagreat", sum := "01f0bebc95305c2ef9753cbaa0176169bafbe56488bc2a0860f683d7562eaa6f", func := "loop.example/g01100/laws.FnInverseByAntipode", spec := "fnInverseByAntipode", inPlace := ["internal/abi.NoEscape"], unfollowed := true, recurses := true, apart := false }
def FnInverseByAntipodeSaid : Prop := fnInverseByAntipodeRow.holds Tryz.pinned (OpenSpec.ofChange fnInverseByAntipodeSpec)

/-- ITS FALSE NEIGHBOUR: 'it returns false'. Refute it at one input. -/
def fnInverseByAntipodeWrong : ChangeSpec := { name := "fnInverseByAntipode", fn := fun _ => fun
  | [d] => { results := [.lit (.bool false)], args := [d] }
  | _ => none }
def FnInverseByAntipodeWrongFalsely : Prop := fnInverseByAntipodeRow.holds Tryz.pinned (OpenSpec.ofChange fnInverseByAntipodeWrong)

/-- 'laws.FnAntipodes': WHATEVER THE INPUT: true; the input reads as it did. -/
def fnAntipodesSpec : ChangeSpec := { name := "fnAntipodes", fn := fun _ => fun
  | [d] => { results := [.lit (.bool true)], args := [d] }
  | _ => none }
def fnAntipodesRow : OpenClaim := { program := "ytedgfkpfhonlpaagreat", sum := "01f0bebc95305c2ef9753cbaa0176169bafbe56488bc2a0860f683d7562eaa6f", func := "loop.example/g01100/laws.FnAntipodes", spec := "fnAntipodes", inPlace := ["internal/abi.NoEscape"], unfollowed := true, recurses := true, apart := false }
def FnAntipodesSaid : Prop := fnAntipodesRow.holds Tryz.pinned (OpenSpec.ofChange fnAntipodesSpec)

/-- ITS FALSE NEIGHBOUR: 'it returns false'. Refute it at one input. -/
def fnAntipodesWrong : ChangeSpec := { name := "fnAntipodes", fn := fun _ => fun
  | [d] => { results := [.lit (.bool false)], args := [d] }
  | _ => none }
def FnAntipodesWrongFalsely : Prop := fnAntipodesRow.holds Tryz.pinned (OpenSpec.ofChange fnAntipodesWrong)

/- THE SECOND FORM. 'bulk': how many values and letters a reading holds, each counted each time it is reached (what is shared counts as often as it is met; a slice's spare places count too). A statement '..UptoSaid' is the law's where the arguments, and the package variables that the reading takes, are together of bulk at most 1048576: NARROWER than '..Said'. Prove '..Said' where nothing that the law and all that it calls make is longer than what came in: it says more and counts as full. Else prove '..UptoSaid'. A law counts once. -/
mutual
def uptoBulk {H : Type} : DataW H → Nat
  | .lit (.string bytes) => bytes.length + 1
  | .lit _ => 1
  | .nil => 1
  | .ptr d => uptoBulk d + 1
  | .slice elems spare => uptoBulkAll elems + uptoBulkAll spare + 1
  | .agg parts => uptoBulkAll parts + 1
  | .iface _ d => uptoBulk d + 1
  | .map entries => uptoBulkEntries entries + 1
  | .held _ => 1
def uptoBulkAll {H : Type} : List (DataW H) → Nat
  | [] => 0
  | d :: r => uptoBulk d + uptoBulkAll r
def uptoBulkEntries {H : Type} : List (Lit × DataW H) → Nat
  | [] => 0
  | x :: r => uptoBulkEntry x + uptoBulkEntries r
def uptoBulkEntry {H : Type} : Lit × DataW H → Nat
  | (.string bytes, d) => bytes.length + uptoBulk d + 1
  | (_, d) => uptoBulk d + 1
 end
def uptoSmall : (H : Type) → List (DataW H) → Bool := fun _ ds => decide (uptoBulkAll ds ≤ 1048576)
def OpenSpec.upto (s : _root_.Go.ChangeSpec) : _root_.Go.OpenSpec := { _root_.Go.OpenSpec.ofChange s with cond := some uptoSmall }

/-- 'laws.FnThreefold', WHERE WHAT IT READS IS OF BULK AT MOST 1048576: true; the input reads as it did. -/
def fnThreefoldUptoRow : OpenClaim := { program := "ytedgfkpfhonlpaagreat", sum := "01f0bebc95305c2ef9753cbaa0176169bafbe56488bc2a0860f683d7562eaa6f", func := "loop.example/g01100/laws.FnThreefold", spec := "fnThreefold", inPlace := ["internal/abi.NoEscape"], unfollowed := true, recurses := true, apart := false, narrowed := true }
def FnThreefoldUptoSaid : Prop := fnThreefoldUptoRow.holds Tryz.pinned (OpenSpec.upto fnThreefoldSpec)

/-- 'laws.FnExactAntipodeOf', WHERE WHAT IT READS IS OF BULK AT MOST 1048576: true; the input reads as it did. -/
def fnExactAntipodeOfUptoRow : OpenClaim := { program := "ytedgfkpfhonlpaagreat", sum := "01f0bebc95305c2ef9753cbaa0176169bafbe56488bc2a0860f683d7562eaa6f", func := "loop.example/g01100/laws.FnExactAntipodeOf", spec := "fnExactAntipodeOf", inPlace := ["internal/abi.NoEscape"], unfollowed := true, recurses := true, apart := false, narrowed := true }
def FnExactAntipodeOfUptoSaid : Prop := fnExactAntipodeOfUptoRow.holds Tryz.pinned (OpenSpec.upto fnExactAntipodeOfSpec)

/-- 'laws.FnElements', WHERE WHAT IT READS IS OF BULK AT MOST 1048576: true; the input reads as it did. -/
def fnElementsUptoRow : OpenClaim := { program := "ytedgfkpfhonlpaagreat", sum := "01f0bebc95305c2ef9753cbaa0176169bafbe56488bc2a0860f683d7562eaa6f", func := "loop.example/g01100/laws.FnElements", spec := "fnElements", unfollowed := true, recurses := true, apart := false, narrowed := true }
def FnElementsUptoSaid : Prop := fnElementsUptoRow.holds Tryz.pinned (OpenSpec.upto fnElementsSpec)

/-- 'laws.FnCoproducts', WHERE WHAT IT READS IS OF BULK AT MOST 1048576: true; the input reads as it did. -/
def fnCoproductsUptoRow : OpenClaim := { program := "ytedgfkpfhonlpaagreat", sum := "01f0bebc95305c2ef9753cbaa0176169bafbe56488bc2a0860f683d7562eaa6f", func := "loop.example/g01100/laws.FnCoproducts", spec := "fnCoproducts", unfollowed := true, recurses := true, apart := false, narrowed := true }
def FnCoproductsUptoSaid : Prop := fnCoproductsUptoRow.holds Tryz.pinned (OpenSpec.upto fnCoproductsSpec)

/-- 'laws.FnProductCuts', WHERE WHAT IT READS IS OF BULK AT MOST 1048576: true; the input reads as it did. -/
def fnProductCutsUptoRow : OpenClaim := { program := "ytedgfkpfhonlpaagreat", sum := "01f0bebc95305c2ef9753cbaa0176169bafbe56488bc2a0860f683d7562eaa6f", func := "loop.example/g01100/laws.FnProductCuts", spec := "fnProductCuts", unfollowed := true, recurses := true, apart := false, narrowed := true }
def FnProductCutsUptoSaid : Prop := fnProductCutsUptoRow.holds Tryz.pinned (OpenSpec.upto fnProductCutsSpec)

/-- 'laws.FnInverseByAntipode', WHERE WHAT IT READS IS OF BULK AT MOST 1048576: true; the input reads as it did. -/
def fnInverseByAntipodeUptoRow : OpenClaim := { program := "ytedgfkpfhonlpaagreat", sum := "01f0bebc95305c2ef9753cbaa0176169bafbe56488bc2a0860f683d7562eaa6f", func := "loop.example/g01100/laws.FnInverseByAntipode", spec := "fnInverseByAntipode", inPlace := ["internal/abi.NoEscape"], unfollowed := true, recurses := true, apart := false, narrowed := true }
def FnInverseByAntipodeUptoSaid : Prop := fnInverseByAntipodeUptoRow.holds Tryz.pinned (OpenSpec.upto fnInverseByAntipodeSpec)

/-- 'laws.FnAntipodes', WHERE WHAT IT READS IS OF BULK AT MOST 1048576: true; the input reads as it did. -/
def fnAntipodesUptoRow : OpenClaim := { program := "ytedgfkpfhonlpaagreat", sum := "01f0bebc95305c2ef9753cbaa0176169bafbe56488bc2a0860f683d7562eaa6f", func := "loop.example/g01100/laws.FnAntipodes", spec := "fnAntipodes", inPlace := ["internal/abi.NoEscape"], unfollowed := true, recurses := true, apart := false, narrowed := true }
def FnAntipodesUptoSaid : Prop := fnAntipodesUptoRow.holds Tryz.pinned (OpenSpec.upto fnAntipodesSpec)

end Rows
end Go.Proofs.YtedgfkpfhonlpaaGreat
