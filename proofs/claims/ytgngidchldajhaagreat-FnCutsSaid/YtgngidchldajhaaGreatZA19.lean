/- Lemmas (19). -/
import Derived.Deep.Cut
import Derived.Deep.CutRange
import Derived.Test.YtgngidchldajhaaGreatZA18
set_option linter.unusedSimpArgs false
set_option linter.unusedVariables false
namespace Go.Proofs.YtgngidchldajhaaGreat
open Go.RowKit
def MrgIH (N g:Nat) (c:List Int→List Int→Int) (ok:List Int→Prop):Prop:=∀ (a m b:Nat) (v:Value) (xs:List (List Int)) (lo hi:Nat) (w:World),b - a < N→Own (RS (RS RI)) lo hi w [v] xs→(∀ x ∈ xs,ok x)→SegOk c a m xs→SegOk c m b xs→a < m→m < b→b ≤ xs.length→xs.length ≤ 1000000000 →
 Calls Tryz.prog 248 #[v,.int .i64 a,.int .i64 m,.int .i64 b,.func (.func g) #[] #[]] w (MrgOk c a b v xs lo hi w)
structure SymB (a m b mid n lo hi:Nat):Prop where
 alo:a ≤ lo
 lohi:lo ≤ hi
 him:hi ≤ m
 hn:hi + m ≤ n
 nlo:n ≤ lo + b
 n1:lo = a ∨ n - lo = b
 n2:hi = m ∨ n - hi = m
 mn:n = mid + m
end Go.Proofs.YtgngidchldajhaaGreat
