/- Lemmas (11). -/
import Derived.Deep.Cut
import Derived.Deep.CutRange
import Derived.Laws.Shifts
import Derived.WalkArith
import Derived.Test.YtedgfkpfhonlpaaZA1
import Derived.Test.YtedgfkpfhonlpaaZA10
set_option linter.unusedSimpArgs false
set_option linter.unusedVariables false
namespace Go.Proofs.Ytedgfkpfhonlpaa
open Go.RowKit
structure SymB (a m b mid n lo hi:Nat):Prop where
 alo:a ≤ lo
 lohi:lo ≤ hi
 him:hi ≤ m
 hn:hi + m ≤ n
 nlo:n ≤ lo + b
 n1:lo = a ∨ n - lo = b
 n2:hi = m ∨ n - hi = m
 mn:n = mid + m
end Go.Proofs.Ytedgfkpfhonlpaa
