/-
  No cell of these rows narrows 'for every input' (looked for: loops, veiled, ifaces, maps, wideKeys, modest, calm, conditions, laid).
  DERIVED. THE GIVEN ROWS OF THIS SEAT. 12 by the template 'for every input the law returns true; each argument reads behind the call as it read before'; 0 by the template 'total and deterministic' (their statements: YtmeijcgclllldaaTotals.lean).
  GIVEN WITH THE SEED: the statements are not yours to turn. If you find one false, say at which input.
  Laid BY PROGRAM, IN A SANDBOX (cutbox-rows.mjs): the forced cells as the released guide's own fill.sh prints them over the translation aef16a4dad31fd18… (all of the seat's roots in one cut). By AI agents, Wed Nov 11 2026. No macro, syntax, notation, axiom, sorry.
-/
import Derived.Test.YtmeijcgclllldaaChecked
import GoSem.Claim
import GoSem.ClaimJoined
import GoSem.ClaimMapViews
import Derived.JoinedTies
import Derived.KernelRfl
namespace Go.Proofs.Ytmeijcgclllldaa
/- THE CELL 'sum', in the pinned program and in every row, IS THE sha256 OF THE DUMP (.gsa) THAT YtmeijcgclllldaaProg.lean LOADS. Nothing in Lean hashes anything: it is a label: what it is worth is what the hold of that sum in a sandbox is worth. -/
noncomputable def Try.pinned : Pinned := { name := "ytmeijcgclllldaa", sum := "aef16a4dad31fd189d3dfbed69dd7a841a6af5aa5ed087170b294675a8e35e71", checked := Try.checked }
namespace Rows
def none {H : Type} : Left H := { results := [], args := [] }

/-- 'laws.FnExactCutAbove': WHATEVER THE INPUT: true; the input reads as it did. -/
def fnExactCutAboveSpec : ChangeSpec := { name := "fnExactCutAbove", fn := fun _ => fun
  | [d1, d2] => { results := [.lit (.bool true)], args := [d1, d2] }
  | _ => none }
def fnExactCutAboveRow : OpenClaim := { program := "ytmeijcgclllldaa", sum := "aef16a4dad31fd189d3dfbed69dd7a841a6af5aa5ed087170b294675a8e35e71", func := "loop.example/g01100/laws.FnExactCutAbove", spec := "fnExactCutAbove", unfollowed := true, recurses := true, apart := false }
def FnExactCutAboveSaid : Prop := fnExactCutAboveRow.holds Try.pinned (OpenSpec.ofChange fnExactCutAboveSpec)

/-- ITS FALSE NEIGHBOUR: 'it returns false'. Refute it at one input. -/
def fnExactCutAboveWrong : ChangeSpec := { name := "fnExactCutAbove", fn := fun _ => fun
  | [d1, d2] => { results := [.lit (.bool false)], args := [d1, d2] }
  | _ => none }
def FnExactCutAboveWrongFalsely : Prop := fnExactCutAboveRow.holds Try.pinned (OpenSpec.ofChange fnExactCutAboveWrong)

/-- 'laws.FnExactElementOf': WHATEVER THE INPUT: true; the input reads as it did. -/
def fnExactElementOfSpec : ChangeSpec := { name := "fnExactElementOf", fn := fun _ => fun
  | [d] => { results := [.lit (.bool true)], args := [d] }
  | _ => none }
def fnExactElementOfRow : OpenClaim := { program := "ytmeijcgclllldaa", sum := "aef16a4dad31fd189d3dfbed69dd7a841a6af5aa5ed087170b294675a8e35e71", func := "loop.example/g01100/laws.FnExactElementOf", spec := "fnExactElementOf", unfollowed := true, recurses := true, apart := false }
def FnExactElementOfSaid : Prop := fnExactElementOfRow.holds Try.pinned (OpenSpec.ofChange fnExactElementOfSpec)

/-- ITS FALSE NEIGHBOUR: 'it returns false'. Refute it at one input. -/
def fnExactElementOfWrong : ChangeSpec := { name := "fnExactElementOf", fn := fun _ => fun
  | [d] => { results := [.lit (.bool false)], args := [d] }
  | _ => none }
def FnExactElementOfWrongFalsely : Prop := fnExactElementOfRow.holds Try.pinned (OpenSpec.ofChange fnExactElementOfWrong)

/-- 'laws.FnExactRerootAt': WHATEVER THE INPUT: true; the input reads as it did. -/
def fnExactRerootAtSpec : ChangeSpec := { name := "fnExactRerootAt", fn := fun _ => fun
  | [d1, d2] => { results := [.lit (.bool true)], args := [d1, d2] }
  | _ => none }
def fnExactRerootAtRow : OpenClaim := { program := "ytmeijcgclllldaa", sum := "aef16a4dad31fd189d3dfbed69dd7a841a6af5aa5ed087170b294675a8e35e71", func := "loop.example/g01100/laws.FnExactRerootAt", spec := "fnExactRerootAt", unfollowed := true, recurses := true, apart := false }
def FnExactRerootAtSaid : Prop := fnExactRerootAtRow.holds Try.pinned (OpenSpec.ofChange fnExactRerootAtSpec)

/-- ITS FALSE NEIGHBOUR: 'it returns false'. Refute it at one input. -/
def fnExactRerootAtWrong : ChangeSpec := { name := "fnExactRerootAt", fn := fun _ => fun
  | [d1, d2] => { results := [.lit (.bool false)], args := [d1, d2] }
  | _ => none }
def FnExactRerootAtWrongFalsely : Prop := fnExactRerootAtRow.holds Try.pinned (OpenSpec.ofChange fnExactRerootAtWrong)

/-- 'laws.FnExactCountCutsTo': WHATEVER THE INPUT: true; the input reads as it did. -/
def fnExactCountCutsToSpec : ChangeSpec := { name := "fnExactCountCutsTo", fn := fun _ => fun
  | [d1, d2, d3] => { results := [.lit (.bool true)], args := [d1, d2, d3] }
  | _ => none }
def fnExactCountCutsToRow : OpenClaim := { program := "ytmeijcgclllldaa", sum := "aef16a4dad31fd189d3dfbed69dd7a841a6af5aa5ed087170b294675a8e35e71", func := "loop.example/g01100/laws.FnExactCountCutsTo", spec := "fnExactCountCutsTo", unfollowed := true, recurses := true, apart := false }
def FnExactCountCutsToSaid : Prop := fnExactCountCutsToRow.holds Try.pinned (OpenSpec.ofChange fnExactCountCutsToSpec)

/-- ITS FALSE NEIGHBOUR: 'it returns false'. Refute it at one input. -/
def fnExactCountCutsToWrong : ChangeSpec := { name := "fnExactCountCutsTo", fn := fun _ => fun
  | [d1, d2, d3] => { results := [.lit (.bool false)], args := [d1, d2, d3] }
  | _ => none }
def FnExactCountCutsToWrongFalsely : Prop := fnExactCountCutsToRow.holds Try.pinned (OpenSpec.ofChange fnExactCountCutsToWrong)

/-- 'laws.FnExactGraftAt': WHATEVER THE INPUT: true; the input reads as it did. -/
def fnExactGraftAtSpec : ChangeSpec := { name := "fnExactGraftAt", fn := fun _ => fun
  | [d1, d2, d3] => { results := [.lit (.bool true)], args := [d1, d2, d3] }
  | _ => none }
def fnExactGraftAtRow : OpenClaim := { program := "ytmeijcgclllldaa", sum := "aef16a4dad31fd189d3dfbed69dd7a841a6af5aa5ed087170b294675a8e35e71", func := "loop.example/g01100/laws.FnExactGraftAt", spec := "fnExactGraftAt", unfollowed := true, recurses := true, apart := false }
def FnExactGraftAtSaid : Prop := fnExactGraftAtRow.holds Try.pinned (OpenSpec.ofChange fnExactGraftAtSpec)

/-- ITS FALSE NEIGHBOUR: 'it returns false'. Refute it at one input. -/
def fnExactGraftAtWrong : ChangeSpec := { name := "fnExactGraftAt", fn := fun _ => fun
  | [d1, d2, d3] => { results := [.lit (.bool false)], args := [d1, d2, d3] }
  | _ => none }
def FnExactGraftAtWrongFalsely : Prop := fnExactGraftAtRow.holds Try.pinned (OpenSpec.ofChange fnExactGraftAtWrong)

/-- 'laws.FnExactIsSuperfluous': WHATEVER THE INPUT: true; the input reads as it did. -/
def fnExactIsSuperfluousSpec : ChangeSpec := { name := "fnExactIsSuperfluous", fn := fun _ => fun
  | [d] => { results := [.lit (.bool true)], args := [d] }
  | _ => none }
def fnExactIsSuperfluousRow : OpenClaim := { program := "ytmeijcgclllldaa", sum := "aef16a4dad31fd189d3dfbed69dd7a841a6af5aa5ed087170b294675a8e35e71", func := "loop.example/g01100/laws.FnExactIsSuperfluous", spec := "fnExactIsSuperfluous", unfollowed := true, recurses := true, apart := false }
def FnExactIsSuperfluousSaid : Prop := fnExactIsSuperfluousRow.holds Try.pinned (OpenSpec.ofChange fnExactIsSuperfluousSpec)

/-- ITS FALSE NEIGHBOUR: 'it returns false'. Refute it at one input. -/
def fnExactIsSuperfluousWrong : ChangeSpec := { name := "fnExactIsSuperfluous", fn := fun _ => fun
  | [d] => { results := [.lit (.bool false)], args := [d] }
  | _ => none }
def FnExactIsSuperfluousWrongFalsely : Prop := fnExactIsSuperfluousRow.holds Try.pinned (OpenSpec.ofChange fnExactIsSuperfluousWrong)

/-- 'laws.FnExactButcherProduct': WHATEVER THE INPUT: true; the input reads as it did. -/
def fnExactButcherProductSpec : ChangeSpec := { name := "fnExactButcherProduct", fn := fun _ => fun
  | [d1, d2] => { results := [.lit (.bool true)], args := [d1, d2] }
  | _ => none }
def fnExactButcherProductRow : OpenClaim := { program := "ytmeijcgclllldaa", sum := "aef16a4dad31fd189d3dfbed69dd7a841a6af5aa5ed087170b294675a8e35e71", func := "loop.example/g01100/laws.FnExactButcherProduct", spec := "fnExactButcherProduct", unfollowed := true, recurses := true, apart := false }
def FnExactButcherProductSaid : Prop := fnExactButcherProductRow.holds Try.pinned (OpenSpec.ofChange fnExactButcherProductSpec)

/-- ITS FALSE NEIGHBOUR: 'it returns false'. Refute it at one input. -/
def fnExactButcherProductWrong : ChangeSpec := { name := "fnExactButcherProduct", fn := fun _ => fun
  | [d1, d2] => { results := [.lit (.bool false)], args := [d1, d2] }
  | _ => none }
def FnExactButcherProductWrongFalsely : Prop := fnExactButcherProductRow.holds Try.pinned (OpenSpec.ofChange fnExactButcherProductWrong)

/-- 'laws.FnExactFreeForm': WHATEVER THE INPUT: true; the input reads as it did. -/
def fnExactFreeFormSpec : ChangeSpec := { name := "fnExactFreeForm", fn := fun _ => fun
  | [d] => { results := [.lit (.bool true)], args := [d] }
  | _ => none }
def fnExactFreeFormRow : OpenClaim := { program := "ytmeijcgclllldaa", sum := "aef16a4dad31fd189d3dfbed69dd7a841a6af5aa5ed087170b294675a8e35e71", func := "loop.example/g01100/laws.FnExactFreeForm", spec := "fnExactFreeForm", unfollowed := true, recurses := true, apart := false }
def FnExactFreeFormSaid : Prop := fnExactFreeFormRow.holds Try.pinned (OpenSpec.ofChange fnExactFreeFormSpec)

/-- ITS FALSE NEIGHBOUR: 'it returns false'. Refute it at one input. -/
def fnExactFreeFormWrong : ChangeSpec := { name := "fnExactFreeForm", fn := fun _ => fun
  | [d] => { results := [.lit (.bool false)], args := [d] }
  | _ => none }
def FnExactFreeFormWrongFalsely : Prop := fnExactFreeFormRow.holds Try.pinned (OpenSpec.ofChange fnExactFreeFormWrong)

/-- 'laws.FnExactAreSameFree': WHATEVER THE INPUT: true; the input reads as it did. -/
def fnExactAreSameFreeSpec : ChangeSpec := { name := "fnExactAreSameFree", fn := fun _ => fun
  | [d1, d2] => { results := [.lit (.bool true)], args := [d1, d2] }
  | _ => none }
def fnExactAreSameFreeRow : OpenClaim := { program := "ytmeijcgclllldaa", sum := "aef16a4dad31fd189d3dfbed69dd7a841a6af5aa5ed087170b294675a8e35e71", func := "loop.example/g01100/laws.FnExactAreSameFree", spec := "fnExactAreSameFree", unfollowed := true, recurses := true, apart := false }
def FnExactAreSameFreeSaid : Prop := fnExactAreSameFreeRow.holds Try.pinned (OpenSpec.ofChange fnExactAreSameFreeSpec)

/-- ITS FALSE NEIGHBOUR: 'it returns false'. Refute it at one input. -/
def fnExactAreSameFreeWrong : ChangeSpec := { name := "fnExactAreSameFree", fn := fun _ => fun
  | [d1, d2] => { results := [.lit (.bool false)], args := [d1, d2] }
  | _ => none }
def FnExactAreSameFreeWrongFalsely : Prop := fnExactAreSameFreeRow.holds Try.pinned (OpenSpec.ofChange fnExactAreSameFreeWrong)

/-- 'laws.FnExactFreeTreesOf': WHATEVER THE INPUT: true; the input reads as it did. -/
def fnExactFreeTreesOfSpec : ChangeSpec := { name := "fnExactFreeTreesOf", fn := fun _ => fun
  | [d] => { results := [.lit (.bool true)], args := [d] }
  | _ => none }
def fnExactFreeTreesOfRow : OpenClaim := { program := "ytmeijcgclllldaa", sum := "aef16a4dad31fd189d3dfbed69dd7a841a6af5aa5ed087170b294675a8e35e71", func := "loop.example/g01100/laws.FnExactFreeTreesOf", spec := "fnExactFreeTreesOf", unfollowed := true, recurses := true, apart := false }
def FnExactFreeTreesOfSaid : Prop := fnExactFreeTreesOfRow.holds Try.pinned (OpenSpec.ofChange fnExactFreeTreesOfSpec)

/-- ITS FALSE NEIGHBOUR: 'it returns false'. Refute it at one input. -/
def fnExactFreeTreesOfWrong : ChangeSpec := { name := "fnExactFreeTreesOf", fn := fun _ => fun
  | [d] => { results := [.lit (.bool false)], args := [d] }
  | _ => none }
def FnExactFreeTreesOfWrongFalsely : Prop := fnExactFreeTreesOfRow.holds Try.pinned (OpenSpec.ofChange fnExactFreeTreesOfWrong)

/-- 'laws.FnExactLabellingsOf': WHATEVER THE INPUT: true; the input reads as it did. -/
def fnExactLabellingsOfSpec : ChangeSpec := { name := "fnExactLabellingsOf", fn := fun _ => fun
  | [d] => { results := [.lit (.bool true)], args := [d] }
  | _ => none }
def fnExactLabellingsOfRow : OpenClaim := { program := "ytmeijcgclllldaa", sum := "aef16a4dad31fd189d3dfbed69dd7a841a6af5aa5ed087170b294675a8e35e71", func := "loop.example/g01100/laws.FnExactLabellingsOf", spec := "fnExactLabellingsOf", unfollowed := true, recurses := true, apart := false }
def FnExactLabellingsOfSaid : Prop := fnExactLabellingsOfRow.holds Try.pinned (OpenSpec.ofChange fnExactLabellingsOfSpec)

/-- ITS FALSE NEIGHBOUR: 'it returns false'. Refute it at one input. -/
def fnExactLabellingsOfWrong : ChangeSpec := { name := "fnExactLabellingsOf", fn := fun _ => fun
  | [d] => { results := [.lit (.bool false)], args := [d] }
  | _ => none }
def FnExactLabellingsOfWrongFalsely : Prop := fnExactLabellingsOfRow.holds Try.pinned (OpenSpec.ofChange fnExactLabellingsOfWrong)

/-- 'laws.FnExactForestOf': WHATEVER THE INPUT: true; the input reads as it did. -/
def fnExactForestOfSpec : ChangeSpec := { name := "fnExactForestOf", fn := fun _ => fun
  | [d] => { results := [.lit (.bool true)], args := [d] }
  | _ => none }
def fnExactForestOfRow : OpenClaim := { program := "ytmeijcgclllldaa", sum := "aef16a4dad31fd189d3dfbed69dd7a841a6af5aa5ed087170b294675a8e35e71", func := "loop.example/g01100/laws.FnExactForestOf", spec := "fnExactForestOf", unfollowed := true, recurses := true, apart := false }
def FnExactForestOfSaid : Prop := fnExactForestOfRow.holds Try.pinned (OpenSpec.ofChange fnExactForestOfSpec)

/-- ITS FALSE NEIGHBOUR: 'it returns false'. Refute it at one input. -/
def fnExactForestOfWrong : ChangeSpec := { name := "fnExactForestOf", fn := fun _ => fun
  | [d] => { results := [.lit (.bool false)], args := [d] }
  | _ => none }
def FnExactForestOfWrongFalsely : Prop := fnExactForestOfRow.holds Try.pinned (OpenSpec.ofChange fnExactForestOfWrong)

/- THE SECOND FORM. 'bulk': how many values and letters a reading holds, each counted each time it is reached (what is shared counts as often as it is met; a slice's spare places count too). A statement '..UptoSaid' is the law's where the arguments, and the package variables that the reading takes, are together of bulk at most 1048576: NARROWER than '..Said'. Prove '..Said' where nothing that the law and all that it calls make is longer than what came in: it says more and counts as full. Else prove '..UptoSaid'. A law counts once. -/
mutual
def uptoBulk {H : Type} : DataW H → Nat
  | .lit (.string bytes) => bytes.length + 1
  | .lit _ => 1
  | .nil => 1
  | .ptr d => uptoBulk d + 1
  | .slice elems spare => uptoBulkAll elems + uptoBulkAll spare + 1
  | .agg parts => uptoBulkAll parts + 1
  | .iface _ d => uptoBulk d + 1
  | .map entries => uptoBulkEntries entries + 1
  | .held _ => 1
def uptoBulkAll {H : Type} : List (DataW H) → Nat
  | [] => 0
  | d :: r => uptoBulk d + uptoBulkAll r
def uptoBulkEntries {H : Type} : List (Lit × DataW H) → Nat
  | [] => 0
  | x :: r => uptoBulkEntry x + uptoBulkEntries r
def uptoBulkEntry {H : Type} : Lit × DataW H → Nat
  | (.string bytes, d) => bytes.length + uptoBulk d + 1
  | (_, d) => uptoBulk d + 1
 end
def uptoSmall : (H : Type) → List (DataW H) → Bool := fun _ ds => decide (uptoBulkAll ds ≤ 1048576)
def OpenSpec.upto (s : _root_.Go.ChangeSpec) : _root_.Go.OpenSpec := { _root_.Go.OpenSpec.ofChange s with cond := some uptoSmall }

/-- 'laws.FnExactCutAbove', WHERE WHAT IT READS IS OF BULK AT MOST 1048576: true; the input reads as it did. -/
def fnExactCutAboveUptoRow : OpenClaim := { program := "ytmeijcgclllldaa", sum := "aef16a4dad31fd189d3dfbed69dd7a841a6af5aa5ed087170b294675a8e35e71", func := "loop.example/g01100/laws.FnExactCutAbove", spec := "fnExactCutAbove", unfollowed := true, recurses := true, apart := false, narrowed := true }
def FnExactCutAboveUptoSaid : Prop := fnExactCutAboveUptoRow.holds Try.pinned (OpenSpec.upto fnExactCutAboveSpec)

/-- 'laws.FnExactElementOf', WHERE WHAT IT READS IS OF BULK AT MOST 1048576: true; the input reads as it did. -/
def fnExactElementOfUptoRow : OpenClaim := { program := "ytmeijcgclllldaa", sum := "aef16a4dad31fd189d3dfbed69dd7a841a6af5aa5ed087170b294675a8e35e71", func := "loop.example/g01100/laws.FnExactElementOf", spec := "fnExactElementOf", unfollowed := true, recurses := true, apart := false, narrowed := true }
def FnExactElementOfUptoSaid : Prop := fnExactElementOfUptoRow.holds Try.pinned (OpenSpec.upto fnExactElementOfSpec)

/-- 'laws.FnExactRerootAt', WHERE WHAT IT READS IS OF BULK AT MOST 1048576: true; the input reads as it did. -/
def fnExactRerootAtUptoRow : OpenClaim := { program := "ytmeijcgclllldaa", sum := "aef16a4dad31fd189d3dfbed69dd7a841a6af5aa5ed087170b294675a8e35e71", func := "loop.example/g01100/laws.FnExactRerootAt", spec := "fnExactRerootAt", unfollowed := true, recurses := true, apart := false, narrowed := true }
def FnExactRerootAtUptoSaid : Prop := fnExactRerootAtUptoRow.holds Try.pinned (OpenSpec.upto fnExactRerootAtSpec)

/-- 'laws.FnExactCountCutsTo', WHERE WHAT IT READS IS OF BULK AT MOST 1048576: true; the input reads as it did. -/
def fnExactCountCutsToUptoRow : OpenClaim := { program := "ytmeijcgclllldaa", sum := "aef16a4dad31fd189d3dfbed69dd7a841a6af5aa5ed087170b294675a8e35e71", func := "loop.example/g01100/laws.FnExactCountCutsTo", spec := "fnExactCountCutsTo", unfollowed := true, recurses := true, apart := false, narrowed := true }
def FnExactCountCutsToUptoSaid : Prop := fnExactCountCutsToUptoRow.holds Try.pinned (OpenSpec.upto fnExactCountCutsToSpec)

/-- 'laws.FnExactGraftAt', WHERE WHAT IT READS IS OF BULK AT MOST 1048576: true; the input reads as it did. -/
def fnExactGraftAtUptoRow : OpenClaim := { program := "ytmeijcgclllldaa", sum := "aef16a4dad31fd189d3dfbed69dd7a841a6af5aa5ed087170b294675a8e35e71", func := "loop.example/g01100/laws.FnExactGraftAt", spec := "fnExactGraftAt", unfollowed := true, recurses := true, apart := false, narrowed := true }
def FnExactGraftAtUptoSaid : Prop := fnExactGraftAtUptoRow.holds Try.pinned (OpenSpec.upto fnExactGraftAtSpec)

/-- 'laws.FnExactIsSuperfluous', WHERE WHAT IT READS IS OF BULK AT MOST 1048576: true; the input reads as it did. -/
def fnExactIsSuperfluousUptoRow : OpenClaim := { program := "ytmeijcgclllldaa", sum := "aef16a4dad31fd189d3dfbed69dd7a841a6af5aa5ed087170b294675a8e35e71", func := "loop.example/g01100/laws.FnExactIsSuperfluous", spec := "fnExactIsSuperfluous", unfollowed := true, recurses := true, apart := false, narrowed := true }
def FnExactIsSuperfluousUptoSaid : Prop := fnExactIsSuperfluousUptoRow.holds Try.pinned (OpenSpec.upto fnExactIsSuperfluousSpec)

/-- 'laws.FnExactButcherProduct', WHERE WHAT IT READS IS OF BULK AT MOST 1048576: true; the input reads as it did. -/
def fnExactButcherProductUptoRow : OpenClaim := { program := "ytmeijcgclllldaa", sum := "aef16a4dad31fd189d3dfbed69dd7a841a6af5aa5ed087170b294675a8e35e71", func := "loop.example/g01100/laws.FnExactButcherProduct", spec := "fnExactButcherProduct", unfollowed := true, recurses := true, apart := false, narrowed := true }
def FnExactButcherProductUptoSaid : Prop := fnExactButcherProductUptoRow.holds Try.pinned (OpenSpec.upto fnExactButcherProductSpec)

/-- 'laws.FnExactFreeForm', WHERE WHAT IT READS IS OF BULK AT MOST 1048576: true; the input reads as it did. -/
def fnExactFreeFormUptoRow : OpenClaim := { program := "ytmeijcgclllldaa", sum := "aef16a4dad31fd189d3dfbed69dd7a841a6af5aa5ed087170b294675a8e35e71", func := "loop.example/g01100/laws.FnExactFreeForm", spec := "fnExactFreeForm", unfollowed := true, recurses := true, apart := false, narrowed := true }
def FnExactFreeFormUptoSaid : Prop := fnExactFreeFormUptoRow.holds Try.pinned (OpenSpec.upto fnExactFreeFormSpec)

/-- 'laws.FnExactAreSameFree', WHERE WHAT IT READS IS OF BULK AT MOST 1048576: true; the input reads as it did. -/
def fnExactAreSameFreeUptoRow : OpenClaim := { program := "ytmeijcgclllldaa", sum := "aef16a4dad31fd189d3dfbed69dd7a841a6af5aa5ed087170b294675a8e35e71", func := "loop.example/g01100/laws.FnExactAreSameFree", spec := "fnExactAreSameFree", unfollowed := true, recurses := true, apart := false, narrowed := true }
def FnExactAreSameFreeUptoSaid : Prop := fnExactAreSameFreeUptoRow.holds Try.pinned (OpenSpec.upto fnExactAreSameFreeSpec)

/-- 'laws.FnExactFreeTreesOf', WHERE WHAT IT READS IS OF BULK AT MOST 1048576: true; the input reads as it did. -/
def fnExactFreeTreesOfUptoRow : OpenClaim := { program := "ytmeijcgclllldaa", sum := "aef16a4dad31fd189d3dfbed69dd7a841a6af5aa5ed087170b294675a8e35e71", func := "loop.example/g01100/laws.FnExactFreeTreesOf", spec := "fnExactFreeTreesOf", unfollowed := true, recurses := true, apart := false, narrowed := true }
def FnExactFreeTreesOfUptoSaid : Prop := fnExactFreeTreesOfUptoRow.holds Try.pinned (OpenSpec.upto fnExactFreeTreesOfSpec)

/-- 'laws.FnExactLabellingsOf', WHERE WHAT IT READS IS OF BULK AT MOST 1048576: true; the input reads as it did. -/
def fnExactLabellingsOfUptoRow : OpenClaim := { program := "ytmeijcgclllldaa", sum := "aef16a4dad31fd189d3dfbed69dd7a841a6af5aa5ed087170b294675a8e35e71", func := "loop.example/g01100/laws.FnExactLabellingsOf", spec := "fnExactLabellingsOf", unfollowed := true, recurses := true, apart := false, narrowed := true }
def FnExactLabellingsOfUptoSaid : Prop := fnExactLabellingsOfUptoRow.holds Try.pinned (OpenSpec.upto fnExactLabellingsOfSpec)

/-- 'laws.FnExactForestOf', WHERE WHAT IT READS IS OF BULK AT MOST 1048576: true; the input reads as it did. -/
def fnExactForestOfUptoRow : OpenClaim := { program := "ytmeijcgclllldaa", sum := "aef16a4dad31fd189d3dfbed69dd7a841a6af5aa5ed087170b294675a8e35e71", func := "loop.example/g01100/laws.FnExactForestOf", spec := "fnExactForestOf", unfollowed := true, recurses := true, apart := false, narrowed := true }
def FnExactForestOfUptoSaid : Prop := fnExactForestOfUptoRow.holds Try.pinned (OpenSpec.upto fnExactForestOfSpec)

end Rows
end Go.Proofs.Ytmeijcgclllldaa
