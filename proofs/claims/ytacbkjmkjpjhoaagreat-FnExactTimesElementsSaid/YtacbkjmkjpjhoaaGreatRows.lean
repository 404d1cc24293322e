/-
  No cell of these rows narrows 'for every input' (looked for: loops, veiled, ifaces, maps, wideKeys, modest, calm, conditions, laid).
  DERIVED. THE GIVEN ROWS OF THIS SEAT. 9 by the template 'for every input the law returns true; each argument reads behind the call as it read before'; 0 by the template 'total and deterministic' (their statements: YtacbkjmkjpjhoaaGreatTotals.lean).
  GIVEN WITH THE SEED: the statements are not yours to turn. If you find one false, say at which input.
  Laid BY PROGRAM, IN A SANDBOX (cutbox-rows.mjs): the forced cells as the released guide's own fill.sh prints them over the translation d4ce91dd74ce3316… (all of the seat's roots in one cut). By AI agents, Wed Nov 11 2026. No macro, syntax, notation, axiom, sorry.
-/
import Derived.Test.YtacbkjmkjpjhoaaGreatChecked
import GoSem.Claim
import GoSem.ClaimJoined
import GoSem.ClaimMapViews
import Derived.JoinedTies
import Derived.KernelRfl
namespace Go.Proofs.YtacbkjmkjpjhoaaGreat
/- THE CELL 'sum', in the pinned program and in every row, IS THE sha256 OF THE DUMP (.gsa) THAT YtacbkjmkjpjhoaaGreatProg.lean LOADS. Nothing in Lean hashes anything: it is a label: what it is worth is what the hold of that sum in a sandbox is worth. -/
noncomputable def Tryz.pinned : Pinned := { name := "ytacbkjmkjpjhoaagreat", sum := "d4ce91dd74ce33163ea610ffa847b4f557b3a31563a893537d7f97bf96aa7b44", checked := Tryz.checked }
namespace Rows
def none {H : Type} : Left H := { results := [], args := [] }

/-- 'laws.FnExactScaleElement': WHATEVER THE INPUT: true; the input reads as it did. -/
def fnExactScaleElementSpec : ChangeSpec := { name := "fnExactScaleElement", fn := fun _ => fun
  | [d1, d2] => { results := [.lit (.bool true)], args := [d1, d2] }
  | _ => none }
def fnExactScaleElementRow : OpenClaim := { program := "ytacbkjmkjpjhoaagreat", sum := "d4ce91dd74ce33163ea610ffa847b4f557b3a31563a893537d7f97bf96aa7b44", func := "loop.example/g01100/laws.FnExactScaleElement", spec := "fnExactScaleElement", unfollowed := true, recurses := true, apart := false }
def FnExactScaleElementSaid : Prop := fnExactScaleElementRow.holds Tryz.pinned (OpenSpec.ofChange fnExactScaleElementSpec)

/-- ITS FALSE NEIGHBOUR: 'it returns false'. Refute it at one input. -/
def fnExactScaleElementWrong : ChangeSpec := { name := "fnExactScaleElement", fn := fun _ => fun
  | [d1, d2] => { results := [.lit (.bool false)], args := [d1, d2] }
  | _ => none }
def FnExactScaleElementWrongFalsely : Prop := fnExactScaleElementRow.holds Tryz.pinned (OpenSpec.ofChange fnExactScaleElementWrong)

/-- 'laws.FnExactRootElement': WHATEVER THE INPUT: true; the input reads as it did. -/
def fnExactRootElementSpec : ChangeSpec := { name := "fnExactRootElement", fn := fun _ => fun
  | [d] => { results := [.lit (.bool true)], args := [d] }
  | _ => none }
def fnExactRootElementRow : OpenClaim := { program := "ytacbkjmkjpjhoaagreat", sum := "d4ce91dd74ce33163ea610ffa847b4f557b3a31563a893537d7f97bf96aa7b44", func := "loop.example/g01100/laws.FnExactRootElement", spec := "fnExactRootElement", unfollowed := true, recurses := true, apart := false }
def FnExactRootElementSaid : Prop := fnExactRootElementRow.holds Tryz.pinned (OpenSpec.ofChange fnExactRootElementSpec)

/-- ITS FALSE NEIGHBOUR: 'it returns false'. Refute it at one input. -/
def fnExactRootElementWrong : ChangeSpec := { name := "fnExactRootElement", fn := fun _ => fun
  | [d] => { results := [.lit (.bool false)], args := [d] }
  | _ => none }
def FnExactRootElementWrongFalsely : Prop := fnExactRootElementRow.holds Tryz.pinned (OpenSpec.ofChange fnExactRootElementWrong)

/-- 'laws.FnExactAddElements': WHATEVER THE INPUT: true; the input reads as it did. -/
def fnExactAddElementsSpec : ChangeSpec := { name := "fnExactAddElements", fn := fun _ => fun
  | [d1, d2] => { results := [.lit (.bool true)], args := [d1, d2] }
  | _ => none }
def fnExactAddElementsRow : OpenClaim := { program := "ytacbkjmkjpjhoaagreat", sum := "d4ce91dd74ce33163ea610ffa847b4f557b3a31563a893537d7f97bf96aa7b44", func := "loop.example/g01100/laws.FnExactAddElements", spec := "fnExactAddElements", unfollowed := true, recurses := true, apart := false }
def FnExactAddElementsSaid : Prop := fnExactAddElementsRow.holds Tryz.pinned (OpenSpec.ofChange fnExactAddElementsSpec)

/-- ITS FALSE NEIGHBOUR: 'it returns false'. Refute it at one input. -/
def fnExactAddElementsWrong : ChangeSpec := { name := "fnExactAddElements", fn := fun _ => fun
  | [d1, d2] => { results := [.lit (.bool false)], args := [d1, d2] }
  | _ => none }
def FnExactAddElementsWrongFalsely : Prop := fnExactAddElementsRow.holds Tryz.pinned (OpenSpec.ofChange fnExactAddElementsWrong)

/-- 'laws.FnExactTimesElements': WHATEVER THE INPUT: true; the input reads as it did. -/
def fnExactTimesElementsSpec : ChangeSpec := { name := "fnExactTimesElements", fn := fun _ => fun
  | [d1, d2] => { results := [.lit (.bool true)], args := [d1, d2] }
  | _ => none }
def fnExactTimesElementsRow : OpenClaim := { program := "ytacbkjmkjpjhoaagreat", sum := "d4ce91dd74ce33163ea610ffa847b4f557b3a31563a893537d7f97bf96aa7b44", func := "loop.example/g01100/laws.FnExactTimesElements", spec := "fnExactTimesElements", unfollowed := true, recurses := true, apart := false }
def FnExactTimesElementsSaid : Prop := fnExactTimesElementsRow.holds Tryz.pinned (OpenSpec.ofChange fnExactTimesElementsSpec)

/-- ITS FALSE NEIGHBOUR: 'it returns false'. Refute it at one input. -/
def fnExactTimesElementsWrong : ChangeSpec := { name := "fnExactTimesElements", fn := fun _ => fun
  | [d1, d2] => { results := [.lit (.bool false)], args := [d1, d2] }
  | _ => none }
def FnExactTimesElementsWrongFalsely : Prop := fnExactTimesElementsRow.holds Tryz.pinned (OpenSpec.ofChange fnExactTimesElementsWrong)

/-- 'laws.FnExactCoproductOf': WHATEVER THE INPUT: true; the input reads as it did. -/
def fnExactCoproductOfSpec : ChangeSpec := { name := "fnExactCoproductOf", fn := fun _ => fun
  | [d] => { results := [.lit (.bool true)], args := [d] }
  | _ => none }
def fnExactCoproductOfRow : OpenClaim := { program := "ytacbkjmkjpjhoaagreat", sum := "d4ce91dd74ce33163ea610ffa847b4f557b3a31563a893537d7f97bf96aa7b44", func := "loop.example/g01100/laws.FnExactCoproductOf", spec := "fnExactCoproductOf", unfollowed := true, recurses := true, apart := false }
def FnExactCoproductOfSaid : Prop := fnExactCoproductOfRow.holds Tryz.pinned (OpenSpec.ofChange fnExactCoproductOfSpec)

/-- ITS FALSE NEIGHBOUR: 'it returns false'. Refute it at one input. -/
def fnExactCoproductOfWrong : ChangeSpec := { name := "fnExactCoproductOf", fn := fun _ => fun
  | [d] => { results := [.lit (.bool false)], args := [d] }
  | _ => none }
def FnExactCoproductOfWrongFalsely : Prop := fnExactCoproductOfRow.holds Tryz.pinned (OpenSpec.ofChange fnExactCoproductOfWrong)

/-- 'laws.FnExactAntipodeOf': WHATEVER THE INPUT: true; the input reads as it did. -/
def fnExactAntipodeOfSpec : ChangeSpec := { name := "fnExactAntipodeOf", fn := fun _ => fun
  | [d] => { results := [.lit (.bool true)], args := [d] }
  | _ => none }
def fnExactAntipodeOfRow : OpenClaim := { program := "ytacbkjmkjpjhoaagreat", sum := "d4ce91dd74ce33163ea610ffa847b4f557b3a31563a893537d7f97bf96aa7b44", func := "loop.example/g01100/laws.FnExactAntipodeOf", spec := "fnExactAntipodeOf", inPlace := ["internal/abi.NoEscape"], unfollowed := true, recurses := true, apart := false }
def FnExactAntipodeOfSaid : Prop := fnExactAntipodeOfRow.holds Tryz.pinned (OpenSpec.ofChange fnExactAntipodeOfSpec)

/-- ITS FALSE NEIGHBOUR: 'it returns false'. Refute it at one input. -/
def fnExactAntipodeOfWrong : ChangeSpec := { name := "fnExactAntipodeOf", fn := fun _ => fun
  | [d] => { results := [.lit (.bool false)], args := [d] }
  | _ => none }
def FnExactAntipodeOfWrongFalsely : Prop := fnExactAntipodeOfRow.holds Tryz.pinned (OpenSpec.ofChange fnExactAntipodeOfWrong)

/-- 'laws.FnElements': WHATEVER THE INPUT: true; the input reads as it did. -/
def fnElementsSpec : ChangeSpec := { name := "fnElements", fn := fun _ => fun
  | [d] => { results := [.lit (.bool true)], args := [d] }
  | _ => none }
def fnElementsRow : OpenClaim := { program := "ytacbkjmkjpjhoaagreat", sum := "d4ce91dd74ce33163ea610ffa847b4f557b3a31563a893537d7f97bf96aa7b44", func := "loop.example/g01100/laws.FnElements", spec := "fnElements", unfollowed := true, recurses := true, apart := false }
def FnElementsSaid : Prop := fnElementsRow.holds Tryz.pinned (OpenSpec.ofChange fnElementsSpec)

/-- ITS FALSE NEIGHBOUR: 'it returns false'. Refute it at one input. -/
def fnElementsWrong : ChangeSpec := { name := "fnElements", fn := fun _ => fun
  | [d] => { results := [.lit (.bool false)], args := [d] }
  | _ => none }
def FnElementsWrongFalsely : Prop := fnElementsRow.holds Tryz.pinned (OpenSpec.ofChange fnElementsWrong)

/-- 'laws.FnCoproducts': WHATEVER THE INPUT: true; the input reads as it did. -/
def fnCoproductsSpec : ChangeSpec := { name := "fnCoproducts", fn := fun _ => fun
  | [d] => { results := [.lit (.bool true)], args := [d] }
  | _ => none }
def fnCoproductsRow : OpenClaim := { program := "ytacbkjmkjpjhoaagreat", sum := "d4ce91dd74ce33163ea610ffa847b4f557b3a31563a893537d7f97bf96aa7b44", func := "loop.example/g01100/laws.FnCoproducts", spec := "fnCoproducts", unfollowed := true, recurses := true, apart := false }
def FnCoproductsSaid : Prop := fnCoproductsRow.holds Tryz.pinned (OpenSpec.ofChange fnCoproductsSpec)

/-- ITS FALSE NEIGHBOUR: 'it returns false'. Refute it at one input. -/
def fnCoproductsWrong : ChangeSpec := { name := "fnCoproducts", fn := fun _ => fun
  | [d] => { results := [.lit (.bool false)], args := [d] }
  | _ => none }
def FnCoproductsWrongFalsely : Prop := fnCoproductsRow.holds Tryz.pinned (OpenSpec.ofChange fnCoproductsWrong)

/-- 'laws.FnProductCuts': WHATEVER THE INPUT: true; the input reads as it did. -/
def fnProductCutsSpec : ChangeSpec := { name := "fnProductCuts", fn := fun _ => fun
  | [d] => { results := [.lit (.bool true)], args := [d] }
  | _ => none }
def fnProductCutsRow : OpenClaim := { program := "ytacbkjmkjpjhoaagreat", sum := "d4ce91dd74ce33163ea610ffa847b4f557b3a31563a893537d7f97bf96aa7b44", func := "loop.example/g01100/laws.FnProductCuts", spec := "fnProductCuts", unfollowed := true, recurses := true, apart := false }
def FnProductCutsSaid : Prop := fnProductCutsRow.holds Tryz.pinned (OpenSpec.ofChange fnProductCutsSpec)

/-- ITS FALSE NEIGHBOUR: 'it returns false'. Refute it at one input. -/
def fnProductCutsWrong : ChangeSpec := { name := "fnProductCuts", fn := fun _ => fun
  | [d] => { results := [.lit (.bool false)], args := [d] }
  | _ => none }
def FnProductCutsWrongFalsely : Prop := fnProductCutsRow.holds Tryz.pinned (OpenSpec.ofChange fnProductCutsWrong)

/- THE SECOND FORM. 'bulk': how many values and letters a reading holds, each counted each time it is reached (what is shared counts as often as it is met; a slice's spare places count too). A statement '..UptoSaid' is the law's where the arguments, and the package variables that the reading takes, are together of bulk at most 1048576: NARROWER than '..Said'. Prove '..Said' where nothing that the law and all that it calls make is longer than what came in: it says more and counts as full. Else prove '..UptoSaid'. A law counts once. -/
mutual
def uptoBulk {H : Type} : DataW H → Nat
  | .lit (.string bytes) => bytes.length + 1
  | .lit _ => 1
  | .nil => 1
  | .ptr d => uptoBulk d + 1
  | .slice elems spare => uptoBulkAll elems + uptoBulkAll spare + 1
  | .agg parts => uptoBulkAll parts + 1
  | .iface _ d => uptoBulk d + 1
  | .map entries => uptoBulkEntries entries + 1
  | .held _ => 1
def uptoBulkAll {H : Type} : List (DataW H) → Nat
  | [] => 0
  | d :: r => uptoBulk d + uptoBulkAll r
def uptoBulkEntries {H : Type} : List (Lit × DataW H) → Nat
  | [] => 0
  | x :: r => uptoBulkEntry x + uptoBulkEntries r
def uptoBulkEntry {H : Type} : Lit × DataW H → Nat
  | (.string bytes, d) => bytes.length + uptoBulk d + 1
  | (_, d) => uptoBulk d + 1
 end
def uptoSmall : (H : Type) → List (DataW H) → Bool := fun _ ds => decide (uptoBulkAll ds ≤ 1048576)
def OpenSpec.upto (s : _root_.Go.ChangeSpec) : _root_.Go.OpenSpec := { _root_.Go.OpenSpec.ofChange s with cond := some uptoSmall }

/-- 'laws.FnExactScaleElement', WHERE WHAT IT READS IS OF BULK AT MOST 1048576: true; the input reads as it did. -/
def fnExactScaleElementUptoRow : OpenClaim := { program := "ytacbkjmkjpjhoaagreat", sum := "d4ce91dd74ce33163ea610ffa847b4f557b3a31563a893537d7f97bf96aa7b44", func := "loop.example/g01100/laws.FnExactScaleElement", spec := "fnExactScaleElement", unfollowed := true, recurses := true, apart := false, narrowed := true }
def FnExactScaleElementUptoSaid : Prop := fnExactScaleElementUptoRow.holds Tryz.pinned (OpenSpec.upto fnExactScaleElementSpec)

/-- 'laws.FnExactRootElement', WHERE WHAT IT READS IS OF BULK AT MOST 1048576: true; the input reads as it did. -/
def fnExactRootElementUptoRow : OpenClaim := { program := "ytacbkjmkjpjhoaagreat", sum := "d4ce91dd74ce33163ea610ffa847b4f557b3a31563a893537d7f97bf96aa7b44", func := "loop.example/g01100/laws.FnExactRootElement", spec := "fnExactRootElement", unfollowed := true, recurses := true, apart := false, narrowed := true }
def FnExactRootElementUptoSaid : Prop := fnExactRootElementUptoRow.holds Tryz.pinned (OpenSpec.upto fnExactRootElementSpec)

/-- 'laws.FnExactAddElements', WHERE WHAT IT READS IS OF BULK AT MOST 1048576: true; the input reads as it did. -/
def fnExactAddElementsUptoRow : OpenClaim := { program := "ytacbkjmkjpjhoaagreat", sum := "d4ce91dd74ce33163ea610ffa847b4f557b3a31563a893537d7f97bf96aa7b44", func := "loop.example/g01100/laws.FnExactAddElements", spec := "fnExactAddElements", unfollowed := true, recurses := true, apart := false, narrowed := true }
def FnExactAddElementsUptoSaid : Prop := fnExactAddElementsUptoRow.holds Tryz.pinned (OpenSpec.upto fnExactAddElementsSpec)

/-- 'laws.FnExactTimesElements', WHERE WHAT IT READS IS OF BULK AT MOST 1048576: true; the input reads as it did. -/
def fnExactTimesElementsUptoRow : OpenClaim := { program := "ytacbkjmkjpjhoaagreat", sum := "d4ce91dd74ce33163ea610ffa847b4f557b3a31563a893537d7f97bf96aa7b44", func := "loop.example/g01100/laws.FnExactTimesElements", spec := "fnExactTimesElements", unfollowed := true, recurses := true, apart := false, narrowed := true }
def FnExactTimesElementsUptoSaid : Prop := fnExactTimesElementsUptoRow.holds Tryz.pinned (OpenSpec.upto fnExactTimesElementsSpec)

/-- 'laws.FnExactCoproductOf', WHERE WHAT IT READS IS OF BULK AT MOST 1048576: true; the input reads as it did. -/
def fnExactCoproductOfUptoRow : OpenClaim := { program := "ytacbkjmkjpjhoaagreat", sum := "d4ce91dd74ce33163ea610ffa847b4f557b3a31563a893537d7f97bf96aa7b44", func := "loop.example/g01100/laws.FnExactCoproductOf", spec := "fnExactCoproductOf", unfollowed := true, recurses := true, apart := false, narrowed := true }
def FnExactCoproductOfUptoSaid : Prop := fnExactCoproductOfUptoRow.holds Tryz.pinned (OpenSpec.upto fnExactCoproductOfSpec)

/-- 'laws.FnExactAntipodeOf', WHERE WHAT IT READS IS OF BULK AT MOST 1048576: true; the input reads as it did. -/
def fnExactAntipodeOfUptoRow : OpenClaim := { program := "ytacbkjmkjpjhoaagreat", sum := "d4ce91dd74ce33163ea610ffa847b4f557b3a31563a893537d7f97bf96aa7b44", func := "loop.example/g01100/laws.FnExactAntipodeOf", spec := "fnExactAntipodeOf", inPlace := ["internal/abi.NoEscape"], unfollowed := true, recurses := true, apart := false, narrowed := true }
def FnExactAntipodeOfUptoSaid : Prop := fnExactAntipodeOfUptoRow.holds Tryz.pinned (OpenSpec.upto fnExactAntipodeOfSpec)

/-- 'laws.FnElements', WHERE WHAT IT READS IS OF BULK AT MOST 1048576: true; the input reads as it did. -/
def fnElementsUptoRow : OpenClaim := { program := "ytacbkjmkjpjhoaagreat", sum := "d4ce91dd74ce33163ea610ffa847b4f557b3a31563a893537d7f97bf96aa7b44", func := "loop.example/g01100/laws.FnElements", spec := "fnElements", unfollowed := true, recurses := true, apart := false, narrowed := true }
def FnElementsUptoSaid : Prop := fnElementsUptoRow.holds Tryz.pinned (OpenSpec.upto fnElementsSpec)

/-- 'laws.FnCoproducts', WHERE WHAT IT READS IS OF BULK AT MOST 1048576: true; the input reads as it did. -/
def fnCoproductsUptoRow : OpenClaim := { program := "ytacbkjmkjpjhoaagreat", sum := "d4ce91dd74ce33163ea610ffa847b4f557b3a31563a893537d7f97bf96aa7b44", func := "loop.example/g01100/laws.FnCoproducts", spec := "fnCoproducts", unfollowed := true, recurses := true, apart := false, narrowed := true }
def FnCoproductsUptoSaid : Prop := fnCoproductsUptoRow.holds Tryz.pinned (OpenSpec.upto fnCoproductsSpec)

/-- 'laws.FnProductCuts', WHERE WHAT IT READS IS OF BULK AT MOST 1048576: true; the input reads as it did. -/
def fnProductCutsUptoRow : OpenClaim := { program := "ytacbkjmkjpjhoaagreat", sum := "d4ce91dd74ce33163ea610ffa847b4f557b3a31563a893537d7f97bf96aa7b44", func := "loop.example/g01100/laws.FnProductCuts", spec := "fnProductCuts", unfollowed := true, recurses := true, apart := false, narrowed := true }
def FnProductCutsUptoSaid : Prop := fnProductCutsUptoRow.holds Tryz.pinned (OpenSpec.upto fnProductCutsSpec)

end Rows
end Go.Proofs.YtacbkjmkjpjhoaaGreat
