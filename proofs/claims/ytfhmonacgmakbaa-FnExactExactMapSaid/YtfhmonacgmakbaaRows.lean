/-
  No cell of these rows narrows 'for every input' (looked for: loops, veiled, ifaces, maps, wideKeys, modest, calm, conditions, laid).
  DERIVED. THE GIVEN ROWS OF THIS SEAT. 2 by the template 'for every input the law returns true; each argument reads behind the call as it read before'; 0 by the template 'total and deterministic' (their statements: YtfhmonacgmakbaaTotals.lean).
  GIVEN WITH THE SEED: the statements are not yours to turn. If you find one false, say at which input.
  Laid BY PROGRAM, IN A SANDBOX (cutbox-rows.mjs): the forced cells as the released guide's own fill.sh prints them over the translation f26807ce6ec26e68… (all of the seat's roots in one cut). By AI agents, Wed Nov 11 2026. No macro, syntax, notation, axiom, sorry.
-/
import Derived.Test.YtfhmonacgmakbaaChecked
import GoSem.Claim
import GoSem.ClaimJoined
import GoSem.ClaimMapViews
import Derived.JoinedTies
import Derived.KernelRfl
namespace Go.Proofs.Ytfhmonacgmakbaa
/- THE CELL 'sum', in the pinned program and in every row, IS THE sha256 OF THE DUMP (.gsa) THAT YtfhmonacgmakbaaProg.lean LOADS. Nothing in Lean hashes anything: it is a label: what it is worth is what the hold of that sum in a sandbox is worth. -/
noncomputable def Try.pinned : Pinned := { name := "ytfhmonacgmakbaa", sum := "f26807ce6ec26e684d3ce03df66c1220ca9e073674fe9ab98ec915eaa13de322", checked := Try.checked }
namespace Rows
def none {H : Type} : Left H := { results := [], args := [] }

/-- 'laws.FnExactExactMap': WHATEVER THE INPUT: true; the input reads as it did. -/
def fnExactExactMapSpec : ChangeSpec := { name := "fnExactExactMap", fn := fun _ => fun
  | [] => { results := [.lit (.bool true)], args := [] }
  | _ => none }
def fnExactExactMapRow : OpenClaim := { program := "ytfhmonacgmakbaa", sum := "f26807ce6ec26e684d3ce03df66c1220ca9e073674fe9ab98ec915eaa13de322", func := "loop.example/g01100/laws.FnExactExactMap", spec := "fnExactExactMap", unfollowed := true, recurses := true, apart := false }
def FnExactExactMapSaid : Prop := fnExactExactMapRow.holds Try.pinned (OpenSpec.ofChange fnExactExactMapSpec)

/-- ITS FALSE NEIGHBOUR: 'it returns false'. Refute it at one input. -/
def fnExactExactMapWrong : ChangeSpec := { name := "fnExactExactMap", fn := fun _ => fun
  | [] => { results := [.lit (.bool false)], args := [] }
  | _ => none }
def FnExactExactMapWrongFalsely : Prop := fnExactExactMapRow.holds Try.pinned (OpenSpec.ofChange fnExactExactMapWrong)

/-- 'laws.FnRisingPowers': WHATEVER THE INPUT: true; the input reads as it did. -/
def fnRisingPowersSpec : ChangeSpec := { name := "fnRisingPowers", fn := fun _ => fun
  | [d] => { results := [.lit (.bool true)], args := [d] }
  | _ => none }
def fnRisingPowersRow : OpenClaim := { program := "ytfhmonacgmakbaa", sum := "f26807ce6ec26e684d3ce03df66c1220ca9e073674fe9ab98ec915eaa13de322", func := "loop.example/g01100/laws.FnRisingPowers", spec := "fnRisingPowers", unfollowed := true, recurses := true, apart := false }
def FnRisingPowersSaid : Prop := fnRisingPowersRow.holds Try.pinned (OpenSpec.ofChange fnRisingPowersSpec)

/-- ITS FALSE NEIGHBOUR: 'it returns false'. Refute it at one input. -/
def fnRisingPowersWrong : ChangeSpec := { name := "fnRisingPowers", fn := fun _ => fun
  | [d] => { results := [.lit (.bool false)], args := [d] }
  | _ => none }
def FnRisingPowersWrongFalsely : Prop := fnRisingPowersRow.holds Try.pinned (OpenSpec.ofChange fnRisingPowersWrong)

/- THE SECOND FORM. 'bulk': how many values and letters a reading holds, each counted each time it is reached (what is shared counts as often as it is met; a slice's spare places count too). A statement '..UptoSaid' is the law's where the arguments, and the package variables that the reading takes, are together of bulk at most 1048576: NARROWER than '..Said'. Prove '..Said' where nothing that the law and all that it calls make is longer than what came in: it says more and counts as full. Else prove '..UptoSaid'. A law counts once. -/
mutual
def uptoBulk {H : Type} : DataW H → Nat
  | .lit (.string bytes) => bytes.length + 1
  | .lit _ => 1
  | .nil => 1
  | .ptr d => uptoBulk d + 1
  | .slice elems spare => uptoBulkAll elems + uptoBulkAll spare + 1
  | .agg parts => uptoBulkAll parts + 1
  | .iface _ d => uptoBulk d + 1
  | .map entries => uptoBulkEntries entries + 1
  | .held _ => 1
def uptoBulkAll {H : Type} : List (DataW H) → Nat
  | [] => 0
  | d :: r => uptoBulk d + uptoBulkAll r
def uptoBulkEntries {H : Type} : List (Lit × DataW H) → Nat
  | [] => 0
  | x :: r => uptoBulkEntry x + uptoBulkEntries r
def uptoBulkEntry {H : Type} : Lit × DataW H → Nat
  | (.string bytes, d) => bytes.length + uptoBulk d + 1
  | (_, d) => uptoBulk d + 1
 end
def uptoSmall : (H : Type) → List (DataW H) → Bool := fun _ ds => decide (uptoBulkAll ds ≤ 1048576)
def OpenSpec.upto (s : _root_.Go.ChangeSpec) : _root_.Go.OpenSpec := { _root_.Go.OpenSpec.ofChange s with cond := some uptoSmall }

/-- 'laws.FnExactExactMap', WHERE WHAT IT READS IS OF BULK AT MOST 1048576: true; the input reads as it did. -/
def fnExactExactMapUptoRow : OpenClaim := { program := "ytfhmonacgmakbaa", sum := "f26807ce6ec26e684d3ce03df66c1220ca9e073674fe9ab98ec915eaa13de322", func := "loop.example/g01100/laws.FnExactExactMap", spec := "fnExactExactMap", unfollowed := true, recurses := true, apart := false, narrowed := true }
def FnExactExactMapUptoSaid : Prop := fnExactExactMapUptoRow.holds Try.pinned (OpenSpec.upto fnExactExactMapSpec)

/-- 'laws.FnRisingPowers', WHERE WHAT IT READS IS OF BULK AT MOST 1048576: true; the input reads as it did. -/
def fnRisingPowersUptoRow : OpenClaim := { program := "ytfhmonacgmakbaa", sum := "f26807ce6ec26e684d3ce03df66c1220ca9e073674fe9ab98ec915eaa13de322", func := "loop.example/g01100/laws.FnRisingPowers", spec := "fnRisingPowers", unfollowed := true, recurses := true, apart := false, narrowed := true }
def FnRisingPowersUptoSaid : Prop := fnRisingPowersUptoRow.holds Try.pinned (OpenSpec.upto fnRisingPowersSpec)

end Rows
end Go.Proofs.Ytfhmonacgmakbaa
