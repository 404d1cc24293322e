/- Lemmas (13). -/
import Derived.Test.YtgngidchldajhaaZA8
import Derived.Test.YtgngidchldajhaaZA10
set_option linter.unusedSimpArgs false
set_option linter.unusedVariables false
namespace Go.Proofs.Ytgngidchldajhaa
open Go.RowKit
def mixAt (u:List Int) (f:List (List Int)) (ps:List Nat) (i:Nat):List Int:=u.getD i 0 :: ((List.range f.length).flatMap fun k => if Nat.beq (ps.getD k 0) i = true then (f.getD k []).map (· + (u.getD i 0 + 1)) else [])
def mixL (u:List Int) (f:List (List Int)) (ps:List Nat):List Int:=(List.range u.length).flatMap (mixAt u f ps)
def plcO (m:Nat):Nat→List (List Nat)
 | 0 => [[]]
 | k + 1 => (plcO m k).flatMap fun p => (List.range m).map fun d => d :: p
def plcX (m:Nat):Nat→List (List Nat)
 | 0 => [[]]
 | k + 1 => (List.range m).flatMap fun d => (plcX m k).map (d :: ·)
def gfT (u:List Int) (f:List (List Int)):List (List Int):=(plcO u.length f.length).map fun ps => canon (mixL u f ps)
def intN (l:List Nat):List Int:=l.map fun (n:Nat) => (n:Int)
def gfC1 (u:List Int) (f:List (List Int)):Bool:=(plcX u.length f.length).all fun ns => graftOk u (intN ns) f && decide (graftN u (intN ns) f = canon (mixL u f ns))
def gfC2 (u:List Int) (f:List (List Int)):Bool:=decide (canon u = u) || decide (sumOf (gfT u f) = sumOf (gfT (canon u) f))
def forsN (n:Nat):List (List (List Int)):=((levels n).filter fun t => decide (canon t = t)).map fun t => sortC cmpT (brs t)
def gfAll1 (a b:Nat):Bool:=(forsN b).all fun f => (levels a).all fun u => !decide (canon u = u) || gfC1 u f
def gfAll2 (a b:Nat):Bool:=(forsN b).all fun f => (levels a).all fun u => gfC2 u f
set_option maxRecDepth 100000
theorem gf1_low:((List.range 7).all fun a => (List.range (7 - a)).all fun b => gfAll1 a b) = true:=by decide +kernel
end Go.Proofs.Ytgngidchldajhaa
