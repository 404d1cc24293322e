/-
  No cell of these rows narrows 'for every input' (looked for: loops, veiled, ifaces, maps, wideKeys, modest, calm, conditions, laid).
  DERIVED. THE GIVEN ROWS OF THIS SEAT. 7 by the template 'for every input the law returns true; each argument reads behind the call as it read before'; 0 by the template 'total and deterministic' (their statements: YtfhmonacgmakbaaGreatTotals.lean).
  GIVEN WITH THE SEED: the statements are not yours to turn. If you find one false, say at which input.
  Laid BY PROGRAM, IN A SANDBOX (cutbox-rows.mjs): the forced cells as the released guide's own fill.sh prints them over the translation e8b20d55e473a617… (all of the seat's roots in one cut). By AI agents, Wed Nov 11 2026. No macro, syntax, notation, axiom, sorry.
-/
import Derived.Test.YtfhmonacgmakbaaGreatChecked
import GoSem.Claim
import GoSem.ClaimJoined
import GoSem.ClaimMapViews
import Derived.JoinedTies
import Derived.KernelRfl
namespace Go.Proofs.YtfhmonacgmakbaaGreat
/- THE CELL 'sum', in the pinned program and in every row, IS THE sha256 OF THE DUMP (.gsa) THAT YtfhmonacgmakbaaGreatProg.lean LOADS. Nothing in Lean hashes anything: it is a label: what it is worth is what the hold of that sum in a sandbox is worth. -/
noncomputable def Tryz.pinned : Pinned := { name := "ytfhmonacgmakbaagreat", sum := "e8b20d55e473a617d72ff1594658d88d6aefc4e8fb60f6b5ea7c5663c8416811", checked := Tryz.checked }
namespace Rows
def none {H : Type} : Left H := { results := [], args := [] }

/-- 'laws.FnExactRaiseMap': WHATEVER THE INPUT: true; the input reads as it did. -/
def fnExactRaiseMapSpec : ChangeSpec := { name := "fnExactRaiseMap", fn := fun _ => fun
  | [d] => { results := [.lit (.bool true)], args := [d] }
  | _ => none }
def fnExactRaiseMapRow : OpenClaim := { program := "ytfhmonacgmakbaagreat", sum := "e8b20d55e473a617d72ff1594658d88d6aefc4e8fb60f6b5ea7c5663c8416811", func := "loop.example/g01100/laws.FnExactRaiseMap", spec := "fnExactRaiseMap", unfollowed := true, recurses := true, apart := false }
def FnExactRaiseMapSaid : Prop := fnExactRaiseMapRow.holds Tryz.pinned (OpenSpec.ofChange fnExactRaiseMapSpec)

/-- ITS FALSE NEIGHBOUR: 'it returns false'. Refute it at one input. -/
def fnExactRaiseMapWrong : ChangeSpec := { name := "fnExactRaiseMap", fn := fun _ => fun
  | [d] => { results := [.lit (.bool false)], args := [d] }
  | _ => none }
def FnExactRaiseMapWrongFalsely : Prop := fnExactRaiseMapRow.holds Tryz.pinned (OpenSpec.ofChange fnExactRaiseMapWrong)

/-- 'laws.FnExactValueAt': WHATEVER THE INPUT: true; the input reads as it did. -/
def fnExactValueAtSpec : ChangeSpec := { name := "fnExactValueAt", fn := fun _ => fun
  | [d1, d2] => { results := [.lit (.bool true)], args := [d1, d2] }
  | _ => none }
def fnExactValueAtRow : OpenClaim := { program := "ytfhmonacgmakbaagreat", sum := "e8b20d55e473a617d72ff1594658d88d6aefc4e8fb60f6b5ea7c5663c8416811", func := "loop.example/g01100/laws.FnExactValueAt", spec := "fnExactValueAt", unfollowed := true, recurses := true, apart := false }
def FnExactValueAtSaid : Prop := fnExactValueAtRow.holds Tryz.pinned (OpenSpec.ofChange fnExactValueAtSpec)

/-- ITS FALSE NEIGHBOUR: 'it returns false'. Refute it at one input. -/
def fnExactValueAtWrong : ChangeSpec := { name := "fnExactValueAt", fn := fun _ => fun
  | [d1, d2] => { results := [.lit (.bool false)], args := [d1, d2] }
  | _ => none }
def FnExactValueAtWrongFalsely : Prop := fnExactValueAtRow.holds Tryz.pinned (OpenSpec.ofChange fnExactValueAtWrong)

/-- 'laws.FnExactConvolve': WHATEVER THE INPUT: true; the input reads as it did. -/
def fnExactConvolveSpec : ChangeSpec := { name := "fnExactConvolve", fn := fun _ => fun
  | [d1, d2] => { results := [.lit (.bool true)], args := [d1, d2] }
  | _ => none }
def fnExactConvolveRow : OpenClaim := { program := "ytfhmonacgmakbaagreat", sum := "e8b20d55e473a617d72ff1594658d88d6aefc4e8fb60f6b5ea7c5663c8416811", func := "loop.example/g01100/laws.FnExactConvolve", spec := "fnExactConvolve", unfollowed := true, recurses := true, apart := false }
def FnExactConvolveSaid : Prop := fnExactConvolveRow.holds Tryz.pinned (OpenSpec.ofChange fnExactConvolveSpec)

/-- ITS FALSE NEIGHBOUR: 'it returns false'. Refute it at one input. -/
def fnExactConvolveWrong : ChangeSpec := { name := "fnExactConvolve", fn := fun _ => fun
  | [d1, d2] => { results := [.lit (.bool false)], args := [d1, d2] }
  | _ => none }
def FnExactConvolveWrongFalsely : Prop := fnExactConvolveRow.holds Tryz.pinned (OpenSpec.ofChange fnExactConvolveWrong)

/-- 'laws.FnExactInverseMap': WHATEVER THE INPUT: true; the input reads as it did. -/
def fnExactInverseMapSpec : ChangeSpec := { name := "fnExactInverseMap", fn := fun _ => fun
  | [d] => { results := [.lit (.bool true)], args := [d] }
  | _ => none }
def fnExactInverseMapRow : OpenClaim := { program := "ytfhmonacgmakbaagreat", sum := "e8b20d55e473a617d72ff1594658d88d6aefc4e8fb60f6b5ea7c5663c8416811", func := "loop.example/g01100/laws.FnExactInverseMap", spec := "fnExactInverseMap", unfollowed := true, recurses := true, apart := false }
def FnExactInverseMapSaid : Prop := fnExactInverseMapRow.holds Tryz.pinned (OpenSpec.ofChange fnExactInverseMapSpec)

/-- ITS FALSE NEIGHBOUR: 'it returns false'. Refute it at one input. -/
def fnExactInverseMapWrong : ChangeSpec := { name := "fnExactInverseMap", fn := fun _ => fun
  | [d] => { results := [.lit (.bool false)], args := [d] }
  | _ => none }
def FnExactInverseMapWrongFalsely : Prop := fnExactInverseMapRow.holds Tryz.pinned (OpenSpec.ofChange fnExactInverseMapWrong)

/-- 'laws.FnExactPowerOfMap': WHATEVER THE INPUT: true; the input reads as it did. -/
def fnExactPowerOfMapSpec : ChangeSpec := { name := "fnExactPowerOfMap", fn := fun _ => fun
  | [d1, d2] => { results := [.lit (.bool true)], args := [d1, d2] }
  | _ => none }
def fnExactPowerOfMapRow : OpenClaim := { program := "ytfhmonacgmakbaagreat", sum := "e8b20d55e473a617d72ff1594658d88d6aefc4e8fb60f6b5ea7c5663c8416811", func := "loop.example/g01100/laws.FnExactPowerOfMap", spec := "fnExactPowerOfMap", unfollowed := true, recurses := true, apart := false }
def FnExactPowerOfMapSaid : Prop := fnExactPowerOfMapRow.holds Tryz.pinned (OpenSpec.ofChange fnExactPowerOfMapSpec)

/-- ITS FALSE NEIGHBOUR: 'it returns false'. Refute it at one input. -/
def fnExactPowerOfMapWrong : ChangeSpec := { name := "fnExactPowerOfMap", fn := fun _ => fun
  | [d1, d2] => { results := [.lit (.bool false)], args := [d1, d2] }
  | _ => none }
def FnExactPowerOfMapWrongFalsely : Prop := fnExactPowerOfMapRow.holds Tryz.pinned (OpenSpec.ofChange fnExactPowerOfMapWrong)

/-- 'laws.FnInverseByAntipode': WHATEVER THE INPUT: true; the input reads as it did. -/
def fnInverseByAntipodeSpec : ChangeSpec := { name := "fnInverseByAntipode", fn := fun _ => fun
  | [d] => { results := [.lit (.bool true)], args := [d] }
  | _ => none }
def fnInverseByAntipodeRow : OpenClaim := { program := "ytfhmonacgmakbaagreat", sum := "e8b20d55e473a617d72ff1594658d88d6aefc4e8fb60f6b5ea7c5663c8416811", func := "loop.example/g01100/laws.FnInverseByAntipode", spec := "fnInverseByAntipode", inPlace := ["internal/abi.NoEscape"], unfollowed := true, recurses := true, apart := false }
def FnInverseByAntipodeSaid : Prop := fnInverseByAntipodeRow.holds Tryz.pinned (OpenSpec.ofChange fnInverseByAntipodeSpec)

/-- ITS FALSE NEIGHBOUR: 'it returns false'. Refute it at one input. -/
def fnInverseByAntipodeWrong : ChangeSpec := { name := "fnInverseByAntipode", fn := fun _ => fun
  | [d] => { results := [.lit (.bool false)], args := [d] }
  | _ => none }
def FnInverseByAntipodeWrongFalsely : Prop := fnInverseByAntipodeRow.holds Tryz.pinned (OpenSpec.ofChange fnInverseByAntipodeWrong)

/-- 'laws.FnAntipodes': WHATEVER THE INPUT: true; the input reads as it did. -/
def fnAntipodesSpec : ChangeSpec := { name := "fnAntipodes", fn := fun _ => fun
  | [d] => { results := [.lit (.bool true)], args := [d] }
  | _ => none }
def fnAntipodesRow : OpenClaim := { program := "ytfhmonacgmakbaagreat", sum := "e8b20d55e473a617d72ff1594658d88d6aefc4e8fb60f6b5ea7c5663c8416811", func := "loop.example/g01100/laws.FnAntipodes", spec := "fnAntipodes", inPlace := ["internal/abi.NoEscape"], unfollowed := true, recurses := true, apart := false }
def FnAntipodesSaid : Prop := fnAntipodesRow.holds Tryz.pinned (OpenSpec.ofChange fnAntipodesSpec)

/-- ITS FALSE NEIGHBOUR: 'it returns false'. Refute it at one input. -/
def fnAntipodesWrong : ChangeSpec := { name := "fnAntipodes", fn := fun _ => fun
  | [d] => { results := [.lit (.bool false)], args := [d] }
  | _ => none }
def FnAntipodesWrongFalsely : Prop := fnAntipodesRow.holds Tryz.pinned (OpenSpec.ofChange fnAntipodesWrong)

/- THE SECOND FORM. 'bulk': how many values and letters a reading holds, each counted each time it is reached (what is shared counts as often as it is met; a slice's spare places count too). A statement '..UptoSaid' is the law's where the arguments, and the package variables that the reading takes, are together of bulk at most 1048576: NARROWER than '..Said'. Prove '..Said' where nothing that the law and all that it calls make is longer than what came in: it says more and counts as full. Else prove '..UptoSaid'. A law counts once. -/
mutual
def uptoBulk {H : Type} : DataW H → Nat
  | .lit (.string bytes) => bytes.length + 1
  | .lit _ => 1
  | .nil => 1
  | .ptr d => uptoBulk d + 1
  | .slice elems spare => uptoBulkAll elems + uptoBulkAll spare + 1
  | .agg parts => uptoBulkAll parts + 1
  | .iface _ d => uptoBulk d + 1
  | .map entries => uptoBulkEntries entries + 1
  | .held _ => 1
def uptoBulkAll {H : Type} : List (DataW H) → Nat
  | [] => 0
  | d :: r => uptoBulk d + uptoBulkAll r
def uptoBulkEntries {H : Type} : List (Lit × DataW H) → Nat
  | [] => 0
  | x :: r => uptoBulkEntry x + uptoBulkEntries r
def uptoBulkEntry {H : Type} : Lit × DataW H → Nat
  | (.string bytes, d) => bytes.length + uptoBulk d + 1
  | (_, d) => uptoBulk d + 1
 end
def uptoSmall : (H : Type) → List (DataW H) → Bool := fun _ ds => decide (uptoBulkAll ds ≤ 1048576)
def OpenSpec.upto (s : _root_.Go.ChangeSpec) : _root_.Go.OpenSpec := { _root_.Go.OpenSpec.ofChange s with cond := some uptoSmall }

/-- 'laws.FnExactRaiseMap', WHERE WHAT IT READS IS OF BULK AT MOST 1048576: true; the input reads as it did. -/
def fnExactRaiseMapUptoRow : OpenClaim := { program := "ytfhmonacgmakbaagreat", sum := "e8b20d55e473a617d72ff1594658d88d6aefc4e8fb60f6b5ea7c5663c8416811", func := "loop.example/g01100/laws.FnExactRaiseMap", spec := "fnExactRaiseMap", unfollowed := true, recurses := true, apart := false, narrowed := true }
def FnExactRaiseMapUptoSaid : Prop := fnExactRaiseMapUptoRow.holds Tryz.pinned (OpenSpec.upto fnExactRaiseMapSpec)

/-- 'laws.FnExactValueAt', WHERE WHAT IT READS IS OF BULK AT MOST 1048576: true; the input reads as it did. -/
def fnExactValueAtUptoRow : OpenClaim := { program := "ytfhmonacgmakbaagreat", sum := "e8b20d55e473a617d72ff1594658d88d6aefc4e8fb60f6b5ea7c5663c8416811", func := "loop.example/g01100/laws.FnExactValueAt", spec := "fnExactValueAt", unfollowed := true, recurses := true, apart := false, narrowed := true }
def FnExactValueAtUptoSaid : Prop := fnExactValueAtUptoRow.holds Tryz.pinned (OpenSpec.upto fnExactValueAtSpec)

/-- 'laws.FnExactConvolve', WHERE WHAT IT READS IS OF BULK AT MOST 1048576: true; the input reads as it did. -/
def fnExactConvolveUptoRow : OpenClaim := { program := "ytfhmonacgmakbaagreat", sum := "e8b20d55e473a617d72ff1594658d88d6aefc4e8fb60f6b5ea7c5663c8416811", func := "loop.example/g01100/laws.FnExactConvolve", spec := "fnExactConvolve", unfollowed := true, recurses := true, apart := false, narrowed := true }
def FnExactConvolveUptoSaid : Prop := fnExactConvolveUptoRow.holds Tryz.pinned (OpenSpec.upto fnExactConvolveSpec)

/-- 'laws.FnExactInverseMap', WHERE WHAT IT READS IS OF BULK AT MOST 1048576: true; the input reads as it did. -/
def fnExactInverseMapUptoRow : OpenClaim := { program := "ytfhmonacgmakbaagreat", sum := "e8b20d55e473a617d72ff1594658d88d6aefc4e8fb60f6b5ea7c5663c8416811", func := "loop.example/g01100/laws.FnExactInverseMap", spec := "fnExactInverseMap", unfollowed := true, recurses := true, apart := false, narrowed := true }
def FnExactInverseMapUptoSaid : Prop := fnExactInverseMapUptoRow.holds Tryz.pinned (OpenSpec.upto fnExactInverseMapSpec)

/-- 'laws.FnExactPowerOfMap', WHERE WHAT IT READS IS OF BULK AT MOST 1048576: true; the input reads as it did. -/
def fnExactPowerOfMapUptoRow : OpenClaim := { program := "ytfhmonacgmakbaagreat", sum := "e8b20d55e473a617d72ff1594658d88d6aefc4e8fb60f6b5ea7c5663c8416811", func := "loop.example/g01100/laws.FnExactPowerOfMap", spec := "fnExactPowerOfMap", unfollowed := true, recurses := true, apart := false, narrowed := true }
def FnExactPowerOfMapUptoSaid : Prop := fnExactPowerOfMapUptoRow.holds Tryz.pinned (OpenSpec.upto fnExactPowerOfMapSpec)

/-- 'laws.FnInverseByAntipode', WHERE WHAT IT READS IS OF BULK AT MOST 1048576: true; the input reads as it did. -/
def fnInverseByAntipodeUptoRow : OpenClaim := { program := "ytfhmonacgmakbaagreat", sum := "e8b20d55e473a617d72ff1594658d88d6aefc4e8fb60f6b5ea7c5663c8416811", func := "loop.example/g01100/laws.FnInverseByAntipode", spec := "fnInverseByAntipode", inPlace := ["internal/abi.NoEscape"], unfollowed := true, recurses := true, apart := false, narrowed := true }
def FnInverseByAntipodeUptoSaid : Prop := fnInverseByAntipodeUptoRow.holds Tryz.pinned (OpenSpec.upto fnInverseByAntipodeSpec)

/-- 'laws.FnAntipodes', WHERE WHAT IT READS IS OF BULK AT MOST 1048576: true; the input reads as it did. -/
def fnAntipodesUptoRow : OpenClaim := { program := "ytfhmonacgmakbaagreat", sum := "e8b20d55e473a617d72ff1594658d88d6aefc4e8fb60f6b5ea7c5663c8416811", func := "loop.example/g01100/laws.FnAntipodes", spec := "fnAntipodes", inPlace := ["internal/abi.NoEscape"], unfollowed := true, recurses := true, apart := false, narrowed := true }
def FnAntipodesUptoSaid : Prop := fnAntipodesUptoRow.holds Tryz.pinned (OpenSpec.upto fnAntipodesSpec)

end Rows
end Go.Proofs.YtfhmonacgmakbaaGreat
