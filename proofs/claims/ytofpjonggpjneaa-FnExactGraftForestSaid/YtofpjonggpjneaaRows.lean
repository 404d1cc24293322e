/-
  No cell of these rows narrows 'for every input' (looked for: loops, veiled, ifaces, maps, wideKeys, modest, calm, conditions, laid).
  DERIVED. THE GIVEN ROWS OF THIS SEAT. 10 by the template 'for every input the law returns true; each argument reads behind the call as it read before'; 0 by the template 'total and deterministic' (their statements: YtofpjonggpjneaaTotals.lean).
  GIVEN WITH THE SEED: the statements are not yours to turn. If you find one false, say at which input.
  Laid BY PROGRAM, IN A SANDBOX (cutbox-rows.mjs): the forced cells as the released guide's own fill.sh prints them over the translation 72263e25d99c0bee… (all of the seat's roots in one cut). By AI agents, Wed Nov 11 2026. No macro, syntax, notation, axiom, sorry.
-/
import Derived.Test.YtofpjonggpjneaaChecked
import GoSem.Claim
import GoSem.ClaimJoined
import GoSem.ClaimMapViews
import Derived.JoinedTies
import Derived.KernelRfl
namespace Go.Proofs.Ytofpjonggpjneaa
/- THE CELL 'sum', in the pinned program and in every row, IS THE sha256 OF THE DUMP (.gsa) THAT YtofpjonggpjneaaProg.lean LOADS. Nothing in Lean hashes anything: it is a label: what it is worth is what the hold of that sum in a sandbox is worth. -/
noncomputable def Try.pinned : Pinned := { name := "ytofpjonggpjneaa", sum := "72263e25d99c0beed7b075f0d4b2175d5fd9330d691fe8916507b6cbcf89eedc", checked := Try.checked }
namespace Rows
def none {H : Type} : Left H := { results := [], args := [] }

/-- 'laws.FnNumberings': WHATEVER THE INPUT: true; the input reads as it did. -/
def fnNumberingsSpec : ChangeSpec := { name := "fnNumberings", fn := fun _ => fun
  | [d] => { results := [.lit (.bool true)], args := [d] }
  | _ => none }
def fnNumberingsRow : OpenClaim := { program := "ytofpjonggpjneaa", sum := "72263e25d99c0beed7b075f0d4b2175d5fd9330d691fe8916507b6cbcf89eedc", func := "loop.example/g01100/laws.FnNumberings", spec := "fnNumberings", recurses := true, apart := false }
def FnNumberingsSaid : Prop := fnNumberingsRow.holds Try.pinned (OpenSpec.ofChange fnNumberingsSpec)

/-- ITS FALSE NEIGHBOUR: 'it returns false'. Refute it at one input. -/
def fnNumberingsWrong : ChangeSpec := { name := "fnNumberings", fn := fun _ => fun
  | [d] => { results := [.lit (.bool false)], args := [d] }
  | _ => none }
def FnNumberingsWrongFalsely : Prop := fnNumberingsRow.holds Try.pinned (OpenSpec.ofChange fnNumberingsWrong)

/-- 'laws.FnTreeCounts': WHATEVER THE INPUT: true; the input reads as it did. -/
def fnTreeCountsSpec : ChangeSpec := { name := "fnTreeCounts", fn := fun _ => fun
  | [d] => { results := [.lit (.bool true)], args := [d] }
  | _ => none }
def fnTreeCountsRow : OpenClaim := { program := "ytofpjonggpjneaa", sum := "72263e25d99c0beed7b075f0d4b2175d5fd9330d691fe8916507b6cbcf89eedc", func := "loop.example/g01100/laws.FnTreeCounts", spec := "fnTreeCounts", unfollowed := true, recurses := true, apart := false }
def FnTreeCountsSaid : Prop := fnTreeCountsRow.holds Try.pinned (OpenSpec.ofChange fnTreeCountsSpec)

/-- ITS FALSE NEIGHBOUR: 'it returns false'. Refute it at one input. -/
def fnTreeCountsWrong : ChangeSpec := { name := "fnTreeCounts", fn := fun _ => fun
  | [d] => { results := [.lit (.bool false)], args := [d] }
  | _ => none }
def FnTreeCountsWrongFalsely : Prop := fnTreeCountsRow.holds Try.pinned (OpenSpec.ofChange fnTreeCountsWrong)

/-- 'laws.FnCutEdges': WHATEVER THE INPUT: true; the input reads as it did. -/
def fnCutEdgesSpec : ChangeSpec := { name := "fnCutEdges", fn := fun _ => fun
  | [d] => { results := [.lit (.bool true)], args := [d] }
  | _ => none }
def fnCutEdgesRow : OpenClaim := { program := "ytofpjonggpjneaa", sum := "72263e25d99c0beed7b075f0d4b2175d5fd9330d691fe8916507b6cbcf89eedc", func := "loop.example/g01100/laws.FnCutEdges", spec := "fnCutEdges", unfollowed := true, recurses := true, apart := false }
def FnCutEdgesSaid : Prop := fnCutEdgesRow.holds Try.pinned (OpenSpec.ofChange fnCutEdgesSpec)

/-- ITS FALSE NEIGHBOUR: 'it returns false'. Refute it at one input. -/
def fnCutEdgesWrong : ChangeSpec := { name := "fnCutEdges", fn := fun _ => fun
  | [d] => { results := [.lit (.bool false)], args := [d] }
  | _ => none }
def FnCutEdgesWrongFalsely : Prop := fnCutEdgesRow.holds Try.pinned (OpenSpec.ofChange fnCutEdgesWrong)

/-- 'laws.FnRoots': WHATEVER THE INPUT: true; the input reads as it did. -/
def fnRootsSpec : ChangeSpec := { name := "fnRoots", fn := fun _ => fun
  | [d] => { results := [.lit (.bool true)], args := [d] }
  | _ => none }
def fnRootsRow : OpenClaim := { program := "ytofpjonggpjneaa", sum := "72263e25d99c0beed7b075f0d4b2175d5fd9330d691fe8916507b6cbcf89eedc", func := "loop.example/g01100/laws.FnRoots", spec := "fnRoots", unfollowed := true, recurses := true, apart := false }
def FnRootsSaid : Prop := fnRootsRow.holds Try.pinned (OpenSpec.ofChange fnRootsSpec)

/-- ITS FALSE NEIGHBOUR: 'it returns false'. Refute it at one input. -/
def fnRootsWrong : ChangeSpec := { name := "fnRoots", fn := fun _ => fun
  | [d] => { results := [.lit (.bool false)], args := [d] }
  | _ => none }
def FnRootsWrongFalsely : Prop := fnRootsRow.holds Try.pinned (OpenSpec.ofChange fnRootsWrong)

/-- 'laws.FnGraftCounts': WHATEVER THE INPUT: true; the input reads as it did. -/
def fnGraftCountsSpec : ChangeSpec := { name := "fnGraftCounts", fn := fun _ => fun
  | [d] => { results := [.lit (.bool true)], args := [d] }
  | _ => none }
def fnGraftCountsRow : OpenClaim := { program := "ytofpjonggpjneaa", sum := "72263e25d99c0beed7b075f0d4b2175d5fd9330d691fe8916507b6cbcf89eedc", func := "loop.example/g01100/laws.FnGraftCounts", spec := "fnGraftCounts", unfollowed := true, recurses := true, apart := false }
def FnGraftCountsSaid : Prop := fnGraftCountsRow.holds Try.pinned (OpenSpec.ofChange fnGraftCountsSpec)

/-- ITS FALSE NEIGHBOUR: 'it returns false'. Refute it at one input. -/
def fnGraftCountsWrong : ChangeSpec := { name := "fnGraftCounts", fn := fun _ => fun
  | [d] => { results := [.lit (.bool false)], args := [d] }
  | _ => none }
def FnGraftCountsWrongFalsely : Prop := fnGraftCountsRow.holds Try.pinned (OpenSpec.ofChange fnGraftCountsWrong)

/-- 'laws.FnTrees': WHATEVER THE INPUT: true; the input reads as it did. -/
def fnTreesSpec : ChangeSpec := { name := "fnTrees", fn := fun _ => fun
  | [d] => { results := [.lit (.bool true)], args := [d] }
  | _ => none }
def fnTreesRow : OpenClaim := { program := "ytofpjonggpjneaa", sum := "72263e25d99c0beed7b075f0d4b2175d5fd9330d691fe8916507b6cbcf89eedc", func := "loop.example/g01100/laws.FnTrees", spec := "fnTrees", inPlace := ["internal/abi.NoEscape"], unfollowed := true, recurses := true, apart := false }
def FnTreesSaid : Prop := fnTreesRow.holds Try.pinned (OpenSpec.ofChange fnTreesSpec)

/-- ITS FALSE NEIGHBOUR: 'it returns false'. Refute it at one input. -/
def fnTreesWrong : ChangeSpec := { name := "fnTrees", fn := fun _ => fun
  | [d] => { results := [.lit (.bool false)], args := [d] }
  | _ => none }
def FnTreesWrongFalsely : Prop := fnTreesRow.holds Try.pinned (OpenSpec.ofChange fnTreesWrong)

/-- 'laws.FnForests': WHATEVER THE INPUT: true; the input reads as it did. -/
def fnForestsSpec : ChangeSpec := { name := "fnForests", fn := fun _ => fun
  | [d] => { results := [.lit (.bool true)], args := [d] }
  | _ => none }
def fnForestsRow : OpenClaim := { program := "ytofpjonggpjneaa", sum := "72263e25d99c0beed7b075f0d4b2175d5fd9330d691fe8916507b6cbcf89eedc", func := "loop.example/g01100/laws.FnForests", spec := "fnForests", inPlace := ["internal/abi.NoEscape"], unfollowed := true, recurses := true, apart := false }
def FnForestsSaid : Prop := fnForestsRow.holds Try.pinned (OpenSpec.ofChange fnForestsSpec)

/-- ITS FALSE NEIGHBOUR: 'it returns false'. Refute it at one input. -/
def fnForestsWrong : ChangeSpec := { name := "fnForests", fn := fun _ => fun
  | [d] => { results := [.lit (.bool false)], args := [d] }
  | _ => none }
def FnForestsWrongFalsely : Prop := fnForestsRow.holds Try.pinned (OpenSpec.ofChange fnForestsWrong)

/-- 'laws.FnExactGraftForest': WHATEVER THE INPUT: true; the input reads as it did. -/
def fnExactGraftForestSpec : ChangeSpec := { name := "fnExactGraftForest", fn := fun _ => fun
  | [d1, d2] => { results := [.lit (.bool true)], args := [d1, d2] }
  | _ => none }
def fnExactGraftForestRow : OpenClaim := { program := "ytofpjonggpjneaa", sum := "72263e25d99c0beed7b075f0d4b2175d5fd9330d691fe8916507b6cbcf89eedc", func := "loop.example/g01100/laws.FnExactGraftForest", spec := "fnExactGraftForest", unfollowed := true, recurses := true, apart := false }
def FnExactGraftForestSaid : Prop := fnExactGraftForestRow.holds Try.pinned (OpenSpec.ofChange fnExactGraftForestSpec)

/-- ITS FALSE NEIGHBOUR: 'it returns false'. Refute it at one input. -/
def fnExactGraftForestWrong : ChangeSpec := { name := "fnExactGraftForest", fn := fun _ => fun
  | [d1, d2] => { results := [.lit (.bool false)], args := [d1, d2] }
  | _ => none }
def FnExactGraftForestWrongFalsely : Prop := fnExactGraftForestRow.holds Try.pinned (OpenSpec.ofChange fnExactGraftForestWrong)

/-- 'laws.FnPreLie': WHATEVER THE INPUT: true; the input reads as it did. -/
def fnPreLieSpec : ChangeSpec := { name := "fnPreLie", fn := fun _ => fun
  | [d] => { results := [.lit (.bool true)], args := [d] }
  | _ => none }
def fnPreLieRow : OpenClaim := { program := "ytofpjonggpjneaa", sum := "72263e25d99c0beed7b075f0d4b2175d5fd9330d691fe8916507b6cbcf89eedc", func := "loop.example/g01100/laws.FnPreLie", spec := "fnPreLie", unfollowed := true, recurses := true, apart := false }
def FnPreLieSaid : Prop := fnPreLieRow.holds Try.pinned (OpenSpec.ofChange fnPreLieSpec)

/-- ITS FALSE NEIGHBOUR: 'it returns false'. Refute it at one input. -/
def fnPreLieWrong : ChangeSpec := { name := "fnPreLie", fn := fun _ => fun
  | [d] => { results := [.lit (.bool false)], args := [d] }
  | _ => none }
def FnPreLieWrongFalsely : Prop := fnPreLieRow.holds Try.pinned (OpenSpec.ofChange fnPreLieWrong)

/-- 'laws.FnExactRootSubtrees': WHATEVER THE INPUT: true; the input reads as it did. -/
def fnExactRootSubtreesSpec : ChangeSpec := { name := "fnExactRootSubtrees", fn := fun _ => fun
  | [d] => { results := [.lit (.bool true)], args := [d] }
  | _ => none }
def fnExactRootSubtreesRow : OpenClaim := { program := "ytofpjonggpjneaa", sum := "72263e25d99c0beed7b075f0d4b2175d5fd9330d691fe8916507b6cbcf89eedc", func := "loop.example/g01100/laws.FnExactRootSubtrees", spec := "fnExactRootSubtrees", unfollowed := true, recurses := true, apart := false }
def FnExactRootSubtreesSaid : Prop := fnExactRootSubtreesRow.holds Try.pinned (OpenSpec.ofChange fnExactRootSubtreesSpec)

/-- ITS FALSE NEIGHBOUR: 'it returns false'. Refute it at one input. -/
def fnExactRootSubtreesWrong : ChangeSpec := { name := "fnExactRootSubtrees", fn := fun _ => fun
  | [d] => { results := [.lit (.bool false)], args := [d] }
  | _ => none }
def FnExactRootSubtreesWrongFalsely : Prop := fnExactRootSubtreesRow.holds Try.pinned (OpenSpec.ofChange fnExactRootSubtreesWrong)

/- THE SECOND FORM. 'bulk': how many values and letters a reading holds, each counted each time it is reached (what is shared counts as often as it is met; a slice's spare places count too). A statement '..UptoSaid' is the law's where the arguments, and the package variables that the reading takes, are together of bulk at most 1048576: NARROWER than '..Said'. Prove '..Said' where nothing that the law and all that it calls make is longer than what came in: it says more and counts as full. Else prove '..UptoSaid'. A law counts once. -/
mutual
def uptoBulk {H : Type} : DataW H → Nat
  | .lit (.string bytes) => bytes.length + 1
  | .lit _ => 1
  | .nil => 1
  | .ptr d => uptoBulk d + 1
  | .slice elems spare => uptoBulkAll elems + uptoBulkAll spare + 1
  | .agg parts => uptoBulkAll parts + 1
  | .iface _ d => uptoBulk d + 1
  | .map entries => uptoBulkEntries entries + 1
  | .held _ => 1
def uptoBulkAll {H : Type} : List (DataW H) → Nat
  | [] => 0
  | d :: r => uptoBulk d + uptoBulkAll r
def uptoBulkEntries {H : Type} : List (Lit × DataW H) → Nat
  | [] => 0
  | x :: r => uptoBulkEntry x + uptoBulkEntries r
def uptoBulkEntry {H : Type} : Lit × DataW H → Nat
  | (.string bytes, d) => bytes.length + uptoBulk d + 1
  | (_, d) => uptoBulk d + 1
 end
def uptoSmall : (H : Type) → List (DataW H) → Bool := fun _ ds => decide (uptoBulkAll ds ≤ 1048576)
def OpenSpec.upto (s : _root_.Go.ChangeSpec) : _root_.Go.OpenSpec := { _root_.Go.OpenSpec.ofChange s with cond := some uptoSmall }

/-- 'laws.FnNumberings', WHERE WHAT IT READS IS OF BULK AT MOST 1048576: true; the input reads as it did. -/
def fnNumberingsUptoRow : OpenClaim := { program := "ytofpjonggpjneaa", sum := "72263e25d99c0beed7b075f0d4b2175d5fd9330d691fe8916507b6cbcf89eedc", func := "loop.example/g01100/laws.FnNumberings", spec := "fnNumberings", recurses := true, apart := false, narrowed := true }
def FnNumberingsUptoSaid : Prop := fnNumberingsUptoRow.holds Try.pinned (OpenSpec.upto fnNumberingsSpec)

/-- 'laws.FnTreeCounts', WHERE WHAT IT READS IS OF BULK AT MOST 1048576: true; the input reads as it did. -/
def fnTreeCountsUptoRow : OpenClaim := { program := "ytofpjonggpjneaa", sum := "72263e25d99c0beed7b075f0d4b2175d5fd9330d691fe8916507b6cbcf89eedc", func := "loop.example/g01100/laws.FnTreeCounts", spec := "fnTreeCounts", unfollowed := true, recurses := true, apart := false, narrowed := true }
def FnTreeCountsUptoSaid : Prop := fnTreeCountsUptoRow.holds Try.pinned (OpenSpec.upto fnTreeCountsSpec)

/-- 'laws.FnCutEdges', WHERE WHAT IT READS IS OF BULK AT MOST 1048576: true; the input reads as it did. -/
def fnCutEdgesUptoRow : OpenClaim := { program := "ytofpjonggpjneaa", sum := "72263e25d99c0beed7b075f0d4b2175d5fd9330d691fe8916507b6cbcf89eedc", func := "loop.example/g01100/laws.FnCutEdges", spec := "fnCutEdges", unfollowed := true, recurses := true, apart := false, narrowed := true }
def FnCutEdgesUptoSaid : Prop := fnCutEdgesUptoRow.holds Try.pinned (OpenSpec.upto fnCutEdgesSpec)

/-- 'laws.FnRoots', WHERE WHAT IT READS IS OF BULK AT MOST 1048576: true; the input reads as it did. -/
def fnRootsUptoRow : OpenClaim := { program := "ytofpjonggpjneaa", sum := "72263e25d99c0beed7b075f0d4b2175d5fd9330d691fe8916507b6cbcf89eedc", func := "loop.example/g01100/laws.FnRoots", spec := "fnRoots", unfollowed := true, recurses := true, apart := false, narrowed := true }
def FnRootsUptoSaid : Prop := fnRootsUptoRow.holds Try.pinned (OpenSpec.upto fnRootsSpec)

/-- 'laws.FnGraftCounts', WHERE WHAT IT READS IS OF BULK AT MOST 1048576: true; the input reads as it did. -/
def fnGraftCountsUptoRow : OpenClaim := { program := "ytofpjonggpjneaa", sum := "72263e25d99c0beed7b075f0d4b2175d5fd9330d691fe8916507b6cbcf89eedc", func := "loop.example/g01100/laws.FnGraftCounts", spec := "fnGraftCounts", unfollowed := true, recurses := true, apart := false, narrowed := true }
def FnGraftCountsUptoSaid : Prop := fnGraftCountsUptoRow.holds Try.pinned (OpenSpec.upto fnGraftCountsSpec)

/-- 'laws.FnTrees', WHERE WHAT IT READS IS OF BULK AT MOST 1048576: true; the input reads as it did. -/
def fnTreesUptoRow : OpenClaim := { program := "ytofpjonggpjneaa", sum := "72263e25d99c0beed7b075f0d4b2175d5fd9330d691fe8916507b6cbcf89eedc", func := "loop.example/g01100/laws.FnTrees", spec := "fnTrees", inPlace := ["internal/abi.NoEscape"], unfollowed := true, recurses := true, apart := false, narrowed := true }
def FnTreesUptoSaid : Prop := fnTreesUptoRow.holds Try.pinned (OpenSpec.upto fnTreesSpec)

/-- 'laws.FnForests', WHERE WHAT IT READS IS OF BULK AT MOST 1048576: true; the input reads as it did. -/
def fnForestsUptoRow : OpenClaim := { program := "ytofpjonggpjneaa", sum := "72263e25d99c0beed7b075f0d4b2175d5fd9330d691fe8916507b6cbcf89eedc", func := "loop.example/g01100/laws.FnForests", spec := "fnForests", inPlace := ["internal/abi.NoEscape"], unfollowed := true, recurses := true, apart := false, narrowed := true }
def FnForestsUptoSaid : Prop := fnForestsUptoRow.holds Try.pinned (OpenSpec.upto fnForestsSpec)

/-- 'laws.FnExactGraftForest', WHERE WHAT IT READS IS OF BULK AT MOST 1048576: true; the input reads as it did. -/
def fnExactGraftForestUptoRow : OpenClaim := { program := "ytofpjonggpjneaa", sum := "72263e25d99c0beed7b075f0d4b2175d5fd9330d691fe8916507b6cbcf89eedc", func := "loop.example/g01100/laws.FnExactGraftForest", spec := "fnExactGraftForest", unfollowed := true, recurses := true, apart := false, narrowed := true }
def FnExactGraftForestUptoSaid : Prop := fnExactGraftForestUptoRow.holds Try.pinned (OpenSpec.upto fnExactGraftForestSpec)

/-- 'laws.FnPreLie', WHERE WHAT IT READS IS OF BULK AT MOST 1048576: true; the input reads as it did. -/
def fnPreLieUptoRow : OpenClaim := { program := "ytofpjonggpjneaa", sum := "72263e25d99c0beed7b075f0d4b2175d5fd9330d691fe8916507b6cbcf89eedc", func := "loop.example/g01100/laws.FnPreLie", spec := "fnPreLie", unfollowed := true, recurses := true, apart := false, narrowed := true }
def FnPreLieUptoSaid : Prop := fnPreLieUptoRow.holds Try.pinned (OpenSpec.upto fnPreLieSpec)

/-- 'laws.FnExactRootSubtrees', WHERE WHAT IT READS IS OF BULK AT MOST 1048576: true; the input reads as it did. -/
def fnExactRootSubtreesUptoRow : OpenClaim := { program := "ytofpjonggpjneaa", sum := "72263e25d99c0beed7b075f0d4b2175d5fd9330d691fe8916507b6cbcf89eedc", func := "loop.example/g01100/laws.FnExactRootSubtrees", spec := "fnExactRootSubtrees", unfollowed := true, recurses := true, apart := false, narrowed := true }
def FnExactRootSubtreesUptoSaid : Prop := fnExactRootSubtreesUptoRow.holds Try.pinned (OpenSpec.upto fnExactRootSubtreesSpec)

end Rows
end Go.Proofs.Ytofpjonggpjneaa
