/-
  No cell of these rows narrows 'for every input' (looked for: loops, veiled, ifaces, maps, wideKeys, modest, calm, conditions, laid).
  DERIVED. THE GIVEN ROWS OF THIS SEAT. 4 by the template 'for every input the law returns true; each argument reads behind the call as it read before'; 0 by the template 'total and deterministic' (their statements: YtdjkmjifeekimaaTotals.lean).
  GIVEN WITH THE SEED: the statements are not yours to turn. If you find one false, say at which input.
  Laid BY PROGRAM, IN A SANDBOX (cutbox-rows.mjs): the forced cells as the released guide's own fill.sh prints them over the translation 5a5d46562ad09610… (all of the seat's roots in one cut). By AI agents, Wed Nov 11 2026. No macro, syntax, notation, axiom, sorry.
-/
import Derived.Test.YtdjkmjifeekimaaChecked
import GoSem.Claim
import GoSem.ClaimJoined
import GoSem.ClaimMapViews
import Derived.JoinedTies
import Derived.KernelRfl
namespace Go.Proofs.Ytdjkmjifeekimaa
/- THE CELL 'sum', in the pinned program and in every row, IS THE sha256 OF THE DUMP (.gsa) THAT YtdjkmjifeekimaaProg.lean LOADS. Nothing in Lean hashes anything: it is a label: what it is worth is what the hold of that sum in a sandbox is worth. -/
noncomputable def Try.pinned : Pinned := { name := "ytdjkmjifeekimaa", sum := "5a5d46562ad09610608077dd5b9f712cbb16f98b258f3597e7e6d7b3eaaa6793", checked := Try.checked }
namespace Rows
def none {H : Type} : Left H := { results := [], args := [] }

/-- 'laws.FnExactTimesForests': WHATEVER THE INPUT: true; the input reads as it did. -/
def fnExactTimesForestsSpec : ChangeSpec := { name := "fnExactTimesForests", fn := fun _ => fun
  | [d1, d2] => { results := [.lit (.bool true)], args := [d1, d2] }
  | _ => none }
def fnExactTimesForestsRow : OpenClaim := { program := "ytdjkmjifeekimaa", sum := "5a5d46562ad09610608077dd5b9f712cbb16f98b258f3597e7e6d7b3eaaa6793", func := "loop.example/g01100/laws.FnExactTimesForests", spec := "fnExactTimesForests", unfollowed := true, recurses := true, apart := false }
def FnExactTimesForestsSaid : Prop := fnExactTimesForestsRow.holds Try.pinned (OpenSpec.ofChange fnExactTimesForestsSpec)

/-- ITS FALSE NEIGHBOUR: 'it returns false'. Refute it at one input. -/
def fnExactTimesForestsWrong : ChangeSpec := { name := "fnExactTimesForests", fn := fun _ => fun
  | [d1, d2] => { results := [.lit (.bool false)], args := [d1, d2] }
  | _ => none }
def FnExactTimesForestsWrongFalsely : Prop := fnExactTimesForestsRow.holds Try.pinned (OpenSpec.ofChange fnExactTimesForestsWrong)

/-- 'laws.FnExactRootsOf': WHATEVER THE INPUT: true; the input reads as it did. -/
def fnExactRootsOfSpec : ChangeSpec := { name := "fnExactRootsOf", fn := fun _ => fun
  | [d] => { results := [.lit (.bool true)], args := [d] }
  | _ => none }
def fnExactRootsOfRow : OpenClaim := { program := "ytdjkmjifeekimaa", sum := "5a5d46562ad09610608077dd5b9f712cbb16f98b258f3597e7e6d7b3eaaa6793", func := "loop.example/g01100/laws.FnExactRootsOf", spec := "fnExactRootsOf", unfollowed := true, recurses := true, apart := false }
def FnExactRootsOfSaid : Prop := fnExactRootsOfRow.holds Try.pinned (OpenSpec.ofChange fnExactRootsOfSpec)

/-- ITS FALSE NEIGHBOUR: 'it returns false'. Refute it at one input. -/
def fnExactRootsOfWrong : ChangeSpec := { name := "fnExactRootsOf", fn := fun _ => fun
  | [d] => { results := [.lit (.bool false)], args := [d] }
  | _ => none }
def FnExactRootsOfWrongFalsely : Prop := fnExactRootsOfRow.holds Try.pinned (OpenSpec.ofChange fnExactRootsOfWrong)

/-- 'laws.FnExactGraftSum': WHATEVER THE INPUT: true; the input reads as it did. -/
def fnExactGraftSumSpec : ChangeSpec := { name := "fnExactGraftSum", fn := fun _ => fun
  | [d1, d2] => { results := [.lit (.bool true)], args := [d1, d2] }
  | _ => none }
def fnExactGraftSumRow : OpenClaim := { program := "ytdjkmjifeekimaa", sum := "5a5d46562ad09610608077dd5b9f712cbb16f98b258f3597e7e6d7b3eaaa6793", func := "loop.example/g01100/laws.FnExactGraftSum", spec := "fnExactGraftSum", unfollowed := true, recurses := true, apart := false }
def FnExactGraftSumSaid : Prop := fnExactGraftSumRow.holds Try.pinned (OpenSpec.ofChange fnExactGraftSumSpec)

/-- ITS FALSE NEIGHBOUR: 'it returns false'. Refute it at one input. -/
def fnExactGraftSumWrong : ChangeSpec := { name := "fnExactGraftSum", fn := fun _ => fun
  | [d1, d2] => { results := [.lit (.bool false)], args := [d1, d2] }
  | _ => none }
def FnExactGraftSumWrongFalsely : Prop := fnExactGraftSumRow.holds Try.pinned (OpenSpec.ofChange fnExactGraftSumWrong)

/-- 'laws.FnTreeCounts': WHATEVER THE INPUT: true; the input reads as it did. -/
def fnTreeCountsSpec : ChangeSpec := { name := "fnTreeCounts", fn := fun _ => fun
  | [d] => { results := [.lit (.bool true)], args := [d] }
  | _ => none }
def fnTreeCountsRow : OpenClaim := { program := "ytdjkmjifeekimaa", sum := "5a5d46562ad09610608077dd5b9f712cbb16f98b258f3597e7e6d7b3eaaa6793", func := "loop.example/g01100/laws.FnTreeCounts", spec := "fnTreeCounts", unfollowed := true, recurses := true, apart := false }
def FnTreeCountsSaid : Prop := fnTreeCountsRow.holds Try.pinned (OpenSpec.ofChange fnTreeCountsSpec)

/-- ITS FALSE NEIGHBOUR: 'it returns false'. Refute it at one input. -/
def fnTreeCountsWrong : ChangeSpec := { name := "fnTreeCounts", fn := fun _ => fun
  | [d] => { results := [.lit (.bool false)], args := [d] }
  | _ => none }
def FnTreeCountsWrongFalsely : Prop := fnTreeCountsRow.holds Try.pinned (OpenSpec.ofChange fnTreeCountsWrong)

/- THE SECOND FORM. 'bulk': how many values and letters a reading holds, each counted each time it is reached (what is shared counts as often as it is met; a slice's spare places count too). A statement '..UptoSaid' is the law's where the arguments, and the package variables that the reading takes, are together of bulk at most 1048576: NARROWER than '..Said'. Prove '..Said' where nothing that the law and all that it calls make is longer than what came in: it says more and counts as full. Else prove '..UptoSaid'. A law counts once. -/
mutual
def uptoBulk {H : Type} : DataW H → Nat
  | .lit (.string bytes) => bytes.length + 1
  | .lit _ => 1
  | .nil => 1
  | .ptr d => uptoBulk d + 1
  | .slice elems spare => uptoBulkAll elems + uptoBulkAll spare + 1
  | .agg parts => uptoBulkAll parts + 1
  | .iface _ d => uptoBulk d + 1
  | .map entries => uptoBulkEntries entries + 1
  | .held _ => 1
def uptoBulkAll {H : Type} : List (DataW H) → Nat
  | [] => 0
  | d :: r => uptoBulk d + uptoBulkAll r
def uptoBulkEntries {H : Type} : List (Lit × DataW H) → Nat
  | [] => 0
  | x :: r => uptoBulkEntry x + uptoBulkEntries r
def uptoBulkEntry {H : Type} : Lit × DataW H → Nat
  | (.string bytes, d) => bytes.length + uptoBulk d + 1
  | (_, d) => uptoBulk d + 1
 end
def uptoSmall : (H : Type) → List (DataW H) → Bool := fun _ ds => decide (uptoBulkAll ds ≤ 1048576)
def OpenSpec.upto (s : _root_.Go.ChangeSpec) : _root_.Go.OpenSpec := { _root_.Go.OpenSpec.ofChange s with cond := some uptoSmall }

/-- 'laws.FnExactTimesForests', WHERE WHAT IT READS IS OF BULK AT MOST 1048576: true; the input reads as it did. -/
def fnExactTimesForestsUptoRow : OpenClaim := { program := "ytdjkmjifeekimaa", sum := "5a5d46562ad09610608077dd5b9f712cbb16f98b258f3597e7e6d7b3eaaa6793", func := "loop.example/g01100/laws.FnExactTimesForests", spec := "fnExactTimesForests", unfollowed := true, recurses := true, apart := false, narrowed := true }
def FnExactTimesForestsUptoSaid : Prop := fnExactTimesForestsUptoRow.holds Try.pinned (OpenSpec.upto fnExactTimesForestsSpec)

/-- 'laws.FnExactRootsOf', WHERE WHAT IT READS IS OF BULK AT MOST 1048576: true; the input reads as it did. -/
def fnExactRootsOfUptoRow : OpenClaim := { program := "ytdjkmjifeekimaa", sum := "5a5d46562ad09610608077dd5b9f712cbb16f98b258f3597e7e6d7b3eaaa6793", func := "loop.example/g01100/laws.FnExactRootsOf", spec := "fnExactRootsOf", unfollowed := true, recurses := true, apart := false, narrowed := true }
def FnExactRootsOfUptoSaid : Prop := fnExactRootsOfUptoRow.holds Try.pinned (OpenSpec.upto fnExactRootsOfSpec)

/-- 'laws.FnExactGraftSum', WHERE WHAT IT READS IS OF BULK AT MOST 1048576: true; the input reads as it did. -/
def fnExactGraftSumUptoRow : OpenClaim := { program := "ytdjkmjifeekimaa", sum := "5a5d46562ad09610608077dd5b9f712cbb16f98b258f3597e7e6d7b3eaaa6793", func := "loop.example/g01100/laws.FnExactGraftSum", spec := "fnExactGraftSum", unfollowed := true, recurses := true, apart := false, narrowed := true }
def FnExactGraftSumUptoSaid : Prop := fnExactGraftSumUptoRow.holds Try.pinned (OpenSpec.upto fnExactGraftSumSpec)

/-- 'laws.FnTreeCounts', WHERE WHAT IT READS IS OF BULK AT MOST 1048576: true; the input reads as it did. -/
def fnTreeCountsUptoRow : OpenClaim := { program := "ytdjkmjifeekimaa", sum := "5a5d46562ad09610608077dd5b9f712cbb16f98b258f3597e7e6d7b3eaaa6793", func := "loop.example/g01100/laws.FnTreeCounts", spec := "fnTreeCounts", unfollowed := true, recurses := true, apart := false, narrowed := true }
def FnTreeCountsUptoSaid : Prop := fnTreeCountsUptoRow.holds Try.pinned (OpenSpec.upto fnTreeCountsSpec)

end Rows
end Go.Proofs.Ytdjkmjifeekimaa
