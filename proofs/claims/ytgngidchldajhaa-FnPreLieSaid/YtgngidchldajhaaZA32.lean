/- Lemmas (32). -/
import Derived.Test.YtgngidchldajhaaZA31
set_option linter.unusedSimpArgs false
set_option linter.unusedVariables false
namespace Go.Proofs.Ytgngidchldajhaa
open Go.RowKit
set_option maxRecDepth 100000
structure GcZ (u v:List Int) (z:List Int × Int):Prop where
 lev:lev8 z.1 = true
 c1:1 ≤ z.2
 c8:z.2 ≤ 8
 s0:0 ≤ symF 9 z.1
 s1:symF 9 z.1 ≤ 5040
 cc:(cctOf z.1 u v).2 = 0
 c0:0 ≤ (cctOf z.1 u v).1
 ch:(cctOf z.1 u v).1 ≤ 8
 cb:(cntTo z.1 (canon u,canon v) (z.1.length - 1):Int) ≤ 1000000
 eq:z.2 * symF 9 z.1 = (cctOf z.1 u v).1 * symF 9 u * symF 9 v
structure GcF (u v:List Int):Prop where
 gs:(gsOf u v).2 = 0
 bp:(bpOf u v).2 = 0
 len:(gsOf u v).1.length ≤ 8
 tot:totF (gsOf u v).1 (gsOf u v).1.length = (u.length:Int)
 any:∃ z ∈ (gsOf u v).1,z.1 = (bpOf u v).1
 su:0 ≤ symF 9 u∧symF 9 u ≤ 5040
 sv:0 ≤ symF 9 v∧symF 9 v ≤ 5040
 all:∀ z ∈ (gsOf u v).1,GcZ u v z
end Go.Proofs.Ytgngidchldajhaa
