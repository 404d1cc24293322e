/-
  No cell of these rows narrows 'for every input' (looked for: loops, veiled, ifaces, maps, wideKeys, modest, calm, conditions, laid).
  DERIVED. THE GIVEN ROWS OF THIS SEAT. 6 by the template 'for every input the law returns true; each argument reads behind the call as it read before'; 0 by the template 'total and deterministic' (their statements: YtbpicjmfbaaabaaTotals.lean).
  GIVEN WITH THE SEED: the statements are not yours to turn. If you find one false, say at which input.
  Laid BY PROGRAM, IN A SANDBOX (cutbox-rows.mjs): the forced cells as the released guide's own fill.sh prints them over the translation 59707a1e004a991b… (all of the seat's roots in one cut). By AI agents, Wed Nov 11 2026. No macro, syntax, notation, axiom, sorry.
-/
import Derived.Test.YtbpicjmfbaaabaaChecked
import GoSem.Claim
import GoSem.ClaimJoined
import GoSem.ClaimMapViews
import Derived.JoinedTies
import Derived.KernelRfl
namespace Go.Proofs.Ytbpicjmfbaaabaa
/- THE CELL 'sum', in the pinned program and in every row, IS THE sha256 OF THE DUMP (.gsa) THAT YtbpicjmfbaaabaaProg.lean LOADS. Nothing in Lean hashes anything: it is a label: what it is worth is what the hold of that sum in a sandbox is worth. -/
noncomputable def Try.pinned : Pinned := { name := "ytbpicjmfbaaabaa", sum := "59707a1e004a991bdbd22a90fcc34005f1de0e7efcc7d6ea306e9d657744a9db", checked := Try.checked }
namespace Rows
def none {H : Type} : Left H := { results := [], args := [] }

/-- 'laws.FnExactUnitMap': WHATEVER THE INPUT: true; the input reads as it did. -/
def fnExactUnitMapSpec : ChangeSpec := { name := "fnExactUnitMap", fn := fun _ => fun
  | [] => { results := [.lit (.bool true)], args := [] }
  | _ => none }
def fnExactUnitMapRow : OpenClaim := { program := "ytbpicjmfbaaabaa", sum := "59707a1e004a991bdbd22a90fcc34005f1de0e7efcc7d6ea306e9d657744a9db", func := "loop.example/g01100/laws.FnExactUnitMap", spec := "fnExactUnitMap", apart := false }
def FnExactUnitMapSaid : Prop := fnExactUnitMapRow.holds Try.pinned (OpenSpec.ofChange fnExactUnitMapSpec)

/-- ITS FALSE NEIGHBOUR: 'it returns false'. Refute it at one input. -/
def fnExactUnitMapWrong : ChangeSpec := { name := "fnExactUnitMap", fn := fun _ => fun
  | [] => { results := [.lit (.bool false)], args := [] }
  | _ => none }
def FnExactUnitMapWrongFalsely : Prop := fnExactUnitMapRow.holds Try.pinned (OpenSpec.ofChange fnExactUnitMapWrong)

/-- 'laws.FnExactIsMap': WHATEVER THE INPUT: true; the input reads as it did. -/
def fnExactIsMapSpec : ChangeSpec := { name := "fnExactIsMap", fn := fun _ => fun
  | [d] => { results := [.lit (.bool true)], args := [d] }
  | _ => none }
def fnExactIsMapRow : OpenClaim := { program := "ytbpicjmfbaaabaa", sum := "59707a1e004a991bdbd22a90fcc34005f1de0e7efcc7d6ea306e9d657744a9db", func := "loop.example/g01100/laws.FnExactIsMap", spec := "fnExactIsMap", unfollowed := true, recurses := true, apart := false }
def FnExactIsMapSaid : Prop := fnExactIsMapRow.holds Try.pinned (OpenSpec.ofChange fnExactIsMapSpec)

/-- ITS FALSE NEIGHBOUR: 'it returns false'. Refute it at one input. -/
def fnExactIsMapWrong : ChangeSpec := { name := "fnExactIsMap", fn := fun _ => fun
  | [d] => { results := [.lit (.bool false)], args := [d] }
  | _ => none }
def FnExactIsMapWrongFalsely : Prop := fnExactIsMapRow.holds Try.pinned (OpenSpec.ofChange fnExactIsMapWrong)

/-- 'laws.FnExactIsCharacter': WHATEVER THE INPUT: true; the input reads as it did. -/
def fnExactIsCharacterSpec : ChangeSpec := { name := "fnExactIsCharacter", fn := fun _ => fun
  | [d] => { results := [.lit (.bool true)], args := [d] }
  | _ => none }
def fnExactIsCharacterRow : OpenClaim := { program := "ytbpicjmfbaaabaa", sum := "59707a1e004a991bdbd22a90fcc34005f1de0e7efcc7d6ea306e9d657744a9db", func := "loop.example/g01100/laws.FnExactIsCharacter", spec := "fnExactIsCharacter", unfollowed := true, recurses := true, apart := false }
def FnExactIsCharacterSaid : Prop := fnExactIsCharacterRow.holds Try.pinned (OpenSpec.ofChange fnExactIsCharacterSpec)

/-- ITS FALSE NEIGHBOUR: 'it returns false'. Refute it at one input. -/
def fnExactIsCharacterWrong : ChangeSpec := { name := "fnExactIsCharacter", fn := fun _ => fun
  | [d] => { results := [.lit (.bool false)], args := [d] }
  | _ => none }
def FnExactIsCharacterWrongFalsely : Prop := fnExactIsCharacterRow.holds Try.pinned (OpenSpec.ofChange fnExactIsCharacterWrong)

/-- 'laws.FnExactIsInfinitesimal': WHATEVER THE INPUT: true; the input reads as it did. -/
def fnExactIsInfinitesimalSpec : ChangeSpec := { name := "fnExactIsInfinitesimal", fn := fun _ => fun
  | [d] => { results := [.lit (.bool true)], args := [d] }
  | _ => none }
def fnExactIsInfinitesimalRow : OpenClaim := { program := "ytbpicjmfbaaabaa", sum := "59707a1e004a991bdbd22a90fcc34005f1de0e7efcc7d6ea306e9d657744a9db", func := "loop.example/g01100/laws.FnExactIsInfinitesimal", spec := "fnExactIsInfinitesimal", unfollowed := true, recurses := true, apart := false }
def FnExactIsInfinitesimalSaid : Prop := fnExactIsInfinitesimalRow.holds Try.pinned (OpenSpec.ofChange fnExactIsInfinitesimalSpec)

/-- ITS FALSE NEIGHBOUR: 'it returns false'. Refute it at one input. -/
def fnExactIsInfinitesimalWrong : ChangeSpec := { name := "fnExactIsInfinitesimal", fn := fun _ => fun
  | [d] => { results := [.lit (.bool false)], args := [d] }
  | _ => none }
def FnExactIsInfinitesimalWrongFalsely : Prop := fnExactIsInfinitesimalRow.holds Try.pinned (OpenSpec.ofChange fnExactIsInfinitesimalWrong)

/-- 'laws.FnExactCountRising': WHATEVER THE INPUT: true; the input reads as it did. -/
def fnExactCountRisingSpec : ChangeSpec := { name := "fnExactCountRising", fn := fun _ => fun
  | [d1, d2] => { results := [.lit (.bool true)], args := [d1, d2] }
  | _ => none }
def fnExactCountRisingRow : OpenClaim := { program := "ytbpicjmfbaaabaa", sum := "59707a1e004a991bdbd22a90fcc34005f1de0e7efcc7d6ea306e9d657744a9db", func := "loop.example/g01100/laws.FnExactCountRising", spec := "fnExactCountRising", recurses := true, apart := false }
def FnExactCountRisingSaid : Prop := fnExactCountRisingRow.holds Try.pinned (OpenSpec.ofChange fnExactCountRisingSpec)

/-- ITS FALSE NEIGHBOUR: 'it returns false'. Refute it at one input. -/
def fnExactCountRisingWrong : ChangeSpec := { name := "fnExactCountRising", fn := fun _ => fun
  | [d1, d2] => { results := [.lit (.bool false)], args := [d1, d2] }
  | _ => none }
def FnExactCountRisingWrongFalsely : Prop := fnExactCountRisingRow.holds Try.pinned (OpenSpec.ofChange fnExactCountRisingWrong)

/-- 'laws.FnExactCountStrict': WHATEVER THE INPUT: true; the input reads as it did. -/
def fnExactCountStrictSpec : ChangeSpec := { name := "fnExactCountStrict", fn := fun _ => fun
  | [d1, d2] => { results := [.lit (.bool true)], args := [d1, d2] }
  | _ => none }
def fnExactCountStrictRow : OpenClaim := { program := "ytbpicjmfbaaabaa", sum := "59707a1e004a991bdbd22a90fcc34005f1de0e7efcc7d6ea306e9d657744a9db", func := "loop.example/g01100/laws.FnExactCountStrict", spec := "fnExactCountStrict", recurses := true, apart := false }
def FnExactCountStrictSaid : Prop := fnExactCountStrictRow.holds Try.pinned (OpenSpec.ofChange fnExactCountStrictSpec)

/-- ITS FALSE NEIGHBOUR: 'it returns false'. Refute it at one input. -/
def fnExactCountStrictWrong : ChangeSpec := { name := "fnExactCountStrict", fn := fun _ => fun
  | [d1, d2] => { results := [.lit (.bool false)], args := [d1, d2] }
  | _ => none }
def FnExactCountStrictWrongFalsely : Prop := fnExactCountStrictRow.holds Try.pinned (OpenSpec.ofChange fnExactCountStrictWrong)

/- THE SECOND FORM. 'bulk': how many values and letters a reading holds, each counted each time it is reached (what is shared counts as often as it is met; a slice's spare places count too). A statement '..UptoSaid' is the law's where the arguments, and the package variables that the reading takes, are together of bulk at most 1048576: NARROWER than '..Said'. Prove '..Said' where nothing that the law and all that it calls make is longer than what came in: it says more and counts as full. Else prove '..UptoSaid'. A law counts once. -/
mutual
def uptoBulk {H : Type} : DataW H → Nat
  | .lit (.string bytes) => bytes.length + 1
  | .lit _ => 1
  | .nil => 1
  | .ptr d => uptoBulk d + 1
  | .slice elems spare => uptoBulkAll elems + uptoBulkAll spare + 1
  | .agg parts => uptoBulkAll parts + 1
  | .iface _ d => uptoBulk d + 1
  | .map entries => uptoBulkEntries entries + 1
  | .held _ => 1
def uptoBulkAll {H : Type} : List (DataW H) → Nat
  | [] => 0
  | d :: r => uptoBulk d + uptoBulkAll r
def uptoBulkEntries {H : Type} : List (Lit × DataW H) → Nat
  | [] => 0
  | x :: r => uptoBulkEntry x + uptoBulkEntries r
def uptoBulkEntry {H : Type} : Lit × DataW H → Nat
  | (.string bytes, d) => bytes.length + uptoBulk d + 1
  | (_, d) => uptoBulk d + 1
 end
def uptoSmall : (H : Type) → List (DataW H) → Bool := fun _ ds => decide (uptoBulkAll ds ≤ 1048576)
def OpenSpec.upto (s : _root_.Go.ChangeSpec) : _root_.Go.OpenSpec := { _root_.Go.OpenSpec.ofChange s with cond := some uptoSmall }

/-- 'laws.FnExactUnitMap', WHERE WHAT IT READS IS OF BULK AT MOST 1048576: true; the input reads as it did. -/
def fnExactUnitMapUptoRow : OpenClaim := { program := "ytbpicjmfbaaabaa", sum := "59707a1e004a991bdbd22a90fcc34005f1de0e7efcc7d6ea306e9d657744a9db", func := "loop.example/g01100/laws.FnExactUnitMap", spec := "fnExactUnitMap", apart := false, narrowed := true }
def FnExactUnitMapUptoSaid : Prop := fnExactUnitMapUptoRow.holds Try.pinned (OpenSpec.upto fnExactUnitMapSpec)

/-- 'laws.FnExactIsMap', WHERE WHAT IT READS IS OF BULK AT MOST 1048576: true; the input reads as it did. -/
def fnExactIsMapUptoRow : OpenClaim := { program := "ytbpicjmfbaaabaa", sum := "59707a1e004a991bdbd22a90fcc34005f1de0e7efcc7d6ea306e9d657744a9db", func := "loop.example/g01100/laws.FnExactIsMap", spec := "fnExactIsMap", unfollowed := true, recurses := true, apart := false, narrowed := true }
def FnExactIsMapUptoSaid : Prop := fnExactIsMapUptoRow.holds Try.pinned (OpenSpec.upto fnExactIsMapSpec)

/-- 'laws.FnExactIsCharacter', WHERE WHAT IT READS IS OF BULK AT MOST 1048576: true; the input reads as it did. -/
def fnExactIsCharacterUptoRow : OpenClaim := { program := "ytbpicjmfbaaabaa", sum := "59707a1e004a991bdbd22a90fcc34005f1de0e7efcc7d6ea306e9d657744a9db", func := "loop.example/g01100/laws.FnExactIsCharacter", spec := "fnExactIsCharacter", unfollowed := true, recurses := true, apart := false, narrowed := true }
def FnExactIsCharacterUptoSaid : Prop := fnExactIsCharacterUptoRow.holds Try.pinned (OpenSpec.upto fnExactIsCharacterSpec)

/-- 'laws.FnExactIsInfinitesimal', WHERE WHAT IT READS IS OF BULK AT MOST 1048576: true; the input reads as it did. -/
def fnExactIsInfinitesimalUptoRow : OpenClaim := { program := "ytbpicjmfbaaabaa", sum := "59707a1e004a991bdbd22a90fcc34005f1de0e7efcc7d6ea306e9d657744a9db", func := "loop.example/g01100/laws.FnExactIsInfinitesimal", spec := "fnExactIsInfinitesimal", unfollowed := true, recurses := true, apart := false, narrowed := true }
def FnExactIsInfinitesimalUptoSaid : Prop := fnExactIsInfinitesimalUptoRow.holds Try.pinned (OpenSpec.upto fnExactIsInfinitesimalSpec)

/-- 'laws.FnExactCountRising', WHERE WHAT IT READS IS OF BULK AT MOST 1048576: true; the input reads as it did. -/
def fnExactCountRisingUptoRow : OpenClaim := { program := "ytbpicjmfbaaabaa", sum := "59707a1e004a991bdbd22a90fcc34005f1de0e7efcc7d6ea306e9d657744a9db", func := "loop.example/g01100/laws.FnExactCountRising", spec := "fnExactCountRising", recurses := true, apart := false, narrowed := true }
def FnExactCountRisingUptoSaid : Prop := fnExactCountRisingUptoRow.holds Try.pinned (OpenSpec.upto fnExactCountRisingSpec)

/-- 'laws.FnExactCountStrict', WHERE WHAT IT READS IS OF BULK AT MOST 1048576: true; the input reads as it did. -/
def fnExactCountStrictUptoRow : OpenClaim := { program := "ytbpicjmfbaaabaa", sum := "59707a1e004a991bdbd22a90fcc34005f1de0e7efcc7d6ea306e9d657744a9db", func := "loop.example/g01100/laws.FnExactCountStrict", spec := "fnExactCountStrict", recurses := true, apart := false, narrowed := true }
def FnExactCountStrictUptoSaid : Prop := fnExactCountStrictUptoRow.holds Try.pinned (OpenSpec.upto fnExactCountStrictSpec)

end Rows
end Go.Proofs.Ytbpicjmfbaaabaa
