/-
  No cell of these rows narrows 'for every input' (looked for: loops, veiled, ifaces, maps, wideKeys, modest, calm, conditions, laid).
  DERIVED. THE GIVEN ROWS OF THIS SEAT. 5 by the template 'for every input the law returns true; each argument reads behind the call as it read before'; 0 by the template 'total and deterministic' (their statements: YtkdkikmhlhcndaaTotals.lean).
  GIVEN WITH THE SEED: the statements are not yours to turn. If you find one false, say at which input.
  Laid BY PROGRAM, IN A SANDBOX (cutbox-rows.mjs): the forced cells as the released guide's own fill.sh prints them over the translation 224234cb4e0cc8d2… (all of the seat's roots in one cut). By AI agents, Wed Nov 11 2026. No macro, syntax, notation, axiom, sorry.
-/
import Derived.Test.YtkdkikmhlhcndaaChecked
import GoSem.Claim
import GoSem.ClaimJoined
import GoSem.ClaimMapViews
import Derived.JoinedTies
import Derived.KernelRfl
namespace Go.Proofs.Ytkdkikmhlhcndaa
/- THE CELL 'sum', in the pinned program and in every row, IS THE sha256 OF THE DUMP (.gsa) THAT YtkdkikmhlhcndaaProg.lean LOADS. Nothing in Lean hashes anything: it is a label: what it is worth is what the hold of that sum in a sandbox is worth. -/
noncomputable def Try.pinned : Pinned := { name := "ytkdkikmhlhcndaa", sum := "224234cb4e0cc8d2e66b43ec6a4f761d09e8406cd4752ee1c77f6a9765f25dad", checked := Try.checked }
namespace Rows
def none {H : Type} : Left H := { results := [], args := [] }

/-- 'laws.FnExactCountCuts': WHATEVER THE INPUT: true; the input reads as it did. -/
def fnExactCountCutsSpec : ChangeSpec := { name := "fnExactCountCuts", fn := fun _ => fun
  | [d] => { results := [.lit (.bool true)], args := [d] }
  | _ => none }
def fnExactCountCutsRow : OpenClaim := { program := "ytkdkikmhlhcndaa", sum := "224234cb4e0cc8d2e66b43ec6a4f761d09e8406cd4752ee1c77f6a9765f25dad", func := "loop.example/g01100/laws.FnExactCountCuts", spec := "fnExactCountCuts", recurses := true, apart := false }
def FnExactCountCutsSaid : Prop := fnExactCountCutsRow.holds Try.pinned (OpenSpec.ofChange fnExactCountCutsSpec)

/-- ITS FALSE NEIGHBOUR: 'it returns false'. Refute it at one input. -/
def fnExactCountCutsWrong : ChangeSpec := { name := "fnExactCountCuts", fn := fun _ => fun
  | [d] => { results := [.lit (.bool false)], args := [d] }
  | _ => none }
def FnExactCountCutsWrongFalsely : Prop := fnExactCountCutsRow.holds Try.pinned (OpenSpec.ofChange fnExactCountCutsWrong)

/-- 'laws.FnExactRootSubtrees': WHATEVER THE INPUT: true; the input reads as it did. -/
def fnExactRootSubtreesSpec : ChangeSpec := { name := "fnExactRootSubtrees", fn := fun _ => fun
  | [d] => { results := [.lit (.bool true)], args := [d] }
  | _ => none }
def fnExactRootSubtreesRow : OpenClaim := { program := "ytkdkikmhlhcndaa", sum := "224234cb4e0cc8d2e66b43ec6a4f761d09e8406cd4752ee1c77f6a9765f25dad", func := "loop.example/g01100/laws.FnExactRootSubtrees", spec := "fnExactRootSubtrees", unfollowed := true, recurses := true, apart := false }
def FnExactRootSubtreesSaid : Prop := fnExactRootSubtreesRow.holds Try.pinned (OpenSpec.ofChange fnExactRootSubtreesSpec)

/-- ITS FALSE NEIGHBOUR: 'it returns false'. Refute it at one input. -/
def fnExactRootSubtreesWrong : ChangeSpec := { name := "fnExactRootSubtrees", fn := fun _ => fun
  | [d] => { results := [.lit (.bool false)], args := [d] }
  | _ => none }
def FnExactRootSubtreesWrongFalsely : Prop := fnExactRootSubtreesRow.holds Try.pinned (OpenSpec.ofChange fnExactRootSubtreesWrong)

/-- 'laws.FnExactCutsOf': WHATEVER THE INPUT: true; the input reads as it did. -/
def fnExactCutsOfSpec : ChangeSpec := { name := "fnExactCutsOf", fn := fun _ => fun
  | [d] => { results := [.lit (.bool true)], args := [d] }
  | _ => none }
def fnExactCutsOfRow : OpenClaim := { program := "ytkdkikmhlhcndaa", sum := "224234cb4e0cc8d2e66b43ec6a4f761d09e8406cd4752ee1c77f6a9765f25dad", func := "loop.example/g01100/laws.FnExactCutsOf", spec := "fnExactCutsOf", unfollowed := true, recurses := true, apart := false }
def FnExactCutsOfSaid : Prop := fnExactCutsOfRow.holds Try.pinned (OpenSpec.ofChange fnExactCutsOfSpec)

/-- ITS FALSE NEIGHBOUR: 'it returns false'. Refute it at one input. -/
def fnExactCutsOfWrong : ChangeSpec := { name := "fnExactCutsOf", fn := fun _ => fun
  | [d] => { results := [.lit (.bool false)], args := [d] }
  | _ => none }
def FnExactCutsOfWrongFalsely : Prop := fnExactCutsOfRow.holds Try.pinned (OpenSpec.ofChange fnExactCutsOfWrong)

/-- 'laws.FnExactCountCut': WHATEVER THE INPUT: true; the input reads as it did. -/
def fnExactCountCutSpec : ChangeSpec := { name := "fnExactCountCut", fn := fun _ => fun
  | [d1, d2, d3] => { results := [.lit (.bool true)], args := [d1, d2, d3] }
  | _ => none }
def fnExactCountCutRow : OpenClaim := { program := "ytkdkikmhlhcndaa", sum := "224234cb4e0cc8d2e66b43ec6a4f761d09e8406cd4752ee1c77f6a9765f25dad", func := "loop.example/g01100/laws.FnExactCountCut", spec := "fnExactCountCut", unfollowed := true, recurses := true, apart := false }
def FnExactCountCutSaid : Prop := fnExactCountCutRow.holds Try.pinned (OpenSpec.ofChange fnExactCountCutSpec)

/-- ITS FALSE NEIGHBOUR: 'it returns false'. Refute it at one input. -/
def fnExactCountCutWrong : ChangeSpec := { name := "fnExactCountCut", fn := fun _ => fun
  | [d1, d2, d3] => { results := [.lit (.bool false)], args := [d1, d2, d3] }
  | _ => none }
def FnExactCountCutWrongFalsely : Prop := fnExactCountCutRow.holds Try.pinned (OpenSpec.ofChange fnExactCountCutWrong)

/-- 'laws.FnExactCutBranches': WHATEVER THE INPUT: true; the input reads as it did. -/
def fnExactCutBranchesSpec : ChangeSpec := { name := "fnExactCutBranches", fn := fun _ => fun
  | [d] => { results := [.lit (.bool true)], args := [d] }
  | _ => none }
def fnExactCutBranchesRow : OpenClaim := { program := "ytkdkikmhlhcndaa", sum := "224234cb4e0cc8d2e66b43ec6a4f761d09e8406cd4752ee1c77f6a9765f25dad", func := "loop.example/g01100/laws.FnExactCutBranches", spec := "fnExactCutBranches", unfollowed := true, recurses := true, apart := false }
def FnExactCutBranchesSaid : Prop := fnExactCutBranchesRow.holds Try.pinned (OpenSpec.ofChange fnExactCutBranchesSpec)

/-- ITS FALSE NEIGHBOUR: 'it returns false'. Refute it at one input. -/
def fnExactCutBranchesWrong : ChangeSpec := { name := "fnExactCutBranches", fn := fun _ => fun
  | [d] => { results := [.lit (.bool false)], args := [d] }
  | _ => none }
def FnExactCutBranchesWrongFalsely : Prop := fnExactCutBranchesRow.holds Try.pinned (OpenSpec.ofChange fnExactCutBranchesWrong)

/- THE SECOND FORM. 'bulk': how many values and letters a reading holds, each counted each time it is reached (what is shared counts as often as it is met; a slice's spare places count too). A statement '..UptoSaid' is the law's where the arguments, and the package variables that the reading takes, are together of bulk at most 1048576: NARROWER than '..Said'. Prove '..Said' where nothing that the law and all that it calls make is longer than what came in: it says more and counts as full. Else prove '..UptoSaid'. A law counts once. -/
mutual
def uptoBulk {H : Type} : DataW H → Nat
  | .lit (.string bytes) => bytes.length + 1
  | .lit _ => 1
  | .nil => 1
  | .ptr d => uptoBulk d + 1
  | .slice elems spare => uptoBulkAll elems + uptoBulkAll spare + 1
  | .agg parts => uptoBulkAll parts + 1
  | .iface _ d => uptoBulk d + 1
  | .map entries => uptoBulkEntries entries + 1
  | .held _ => 1
def uptoBulkAll {H : Type} : List (DataW H) → Nat
  | [] => 0
  | d :: r => uptoBulk d + uptoBulkAll r
def uptoBulkEntries {H : Type} : List (Lit × DataW H) → Nat
  | [] => 0
  | x :: r => uptoBulkEntry x + uptoBulkEntries r
def uptoBulkEntry {H : Type} : Lit × DataW H → Nat
  | (.string bytes, d) => bytes.length + uptoBulk d + 1
  | (_, d) => uptoBulk d + 1
 end
def uptoSmall : (H : Type) → List (DataW H) → Bool := fun _ ds => decide (uptoBulkAll ds ≤ 1048576)
def OpenSpec.upto (s : _root_.Go.ChangeSpec) : _root_.Go.OpenSpec := { _root_.Go.OpenSpec.ofChange s with cond := some uptoSmall }

/-- 'laws.FnExactCountCuts', WHERE WHAT IT READS IS OF BULK AT MOST 1048576: true; the input reads as it did. -/
def fnExactCountCutsUptoRow : OpenClaim := { program := "ytkdkikmhlhcndaa", sum := "224234cb4e0cc8d2e66b43ec6a4f761d09e8406cd4752ee1c77f6a9765f25dad", func := "loop.example/g01100/laws.FnExactCountCuts", spec := "fnExactCountCuts", recurses := true, apart := false, narrowed := true }
def FnExactCountCutsUptoSaid : Prop := fnExactCountCutsUptoRow.holds Try.pinned (OpenSpec.upto fnExactCountCutsSpec)

/-- 'laws.FnExactRootSubtrees', WHERE WHAT IT READS IS OF BULK AT MOST 1048576: true; the input reads as it did. -/
def fnExactRootSubtreesUptoRow : OpenClaim := { program := "ytkdkikmhlhcndaa", sum := "224234cb4e0cc8d2e66b43ec6a4f761d09e8406cd4752ee1c77f6a9765f25dad", func := "loop.example/g01100/laws.FnExactRootSubtrees", spec := "fnExactRootSubtrees", unfollowed := true, recurses := true, apart := false, narrowed := true }
def FnExactRootSubtreesUptoSaid : Prop := fnExactRootSubtreesUptoRow.holds Try.pinned (OpenSpec.upto fnExactRootSubtreesSpec)

/-- 'laws.FnExactCutsOf', WHERE WHAT IT READS IS OF BULK AT MOST 1048576: true; the input reads as it did. -/
def fnExactCutsOfUptoRow : OpenClaim := { program := "ytkdkikmhlhcndaa", sum := "224234cb4e0cc8d2e66b43ec6a4f761d09e8406cd4752ee1c77f6a9765f25dad", func := "loop.example/g01100/laws.FnExactCutsOf", spec := "fnExactCutsOf", unfollowed := true, recurses := true, apart := false, narrowed := true }
def FnExactCutsOfUptoSaid : Prop := fnExactCutsOfUptoRow.holds Try.pinned (OpenSpec.upto fnExactCutsOfSpec)

/-- 'laws.FnExactCountCut', WHERE WHAT IT READS IS OF BULK AT MOST 1048576: true; the input reads as it did. -/
def fnExactCountCutUptoRow : OpenClaim := { program := "ytkdkikmhlhcndaa", sum := "224234cb4e0cc8d2e66b43ec6a4f761d09e8406cd4752ee1c77f6a9765f25dad", func := "loop.example/g01100/laws.FnExactCountCut", spec := "fnExactCountCut", unfollowed := true, recurses := true, apart := false, narrowed := true }
def FnExactCountCutUptoSaid : Prop := fnExactCountCutUptoRow.holds Try.pinned (OpenSpec.upto fnExactCountCutSpec)

/-- 'laws.FnExactCutBranches', WHERE WHAT IT READS IS OF BULK AT MOST 1048576: true; the input reads as it did. -/
def fnExactCutBranchesUptoRow : OpenClaim := { program := "ytkdkikmhlhcndaa", sum := "224234cb4e0cc8d2e66b43ec6a4f761d09e8406cd4752ee1c77f6a9765f25dad", func := "loop.example/g01100/laws.FnExactCutBranches", spec := "fnExactCutBranches", unfollowed := true, recurses := true, apart := false, narrowed := true }
def FnExactCutBranchesUptoSaid : Prop := fnExactCutBranchesUptoRow.holds Try.pinned (OpenSpec.upto fnExactCutBranchesSpec)

end Rows
end Go.Proofs.Ytkdkikmhlhcndaa
