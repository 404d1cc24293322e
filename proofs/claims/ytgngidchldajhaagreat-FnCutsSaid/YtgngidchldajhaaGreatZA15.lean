/- Lemmas (15). -/
import Derived.Test.YtgngidchldajhaaGreatZA0
import Derived.Test.YtgngidchldajhaaGreatZA11
import Derived.Test.YtgngidchldajhaaGreatZA12
import Derived.Test.YtgngidchldajhaaGreatZA14
set_option linter.unusedSimpArgs false
set_option linter.unusedVariables false
namespace Go.Proofs.YtgngidchldajhaaGreat
open Go.RowKit
def totC (L:List Cu):Nat→Int
 | 0 => 0
 | i + 1 => totC L i + (L.getD i (([],[]),0)).2
def oneB (c:Cu):Bool:=decide (c.1.1.length = 1) && decide (0 < c.1.2.length)
def edgC (L:List Cu):Nat→Int
 | 0 => 0
 | i + 1 => edgC L i + (if oneB (L.getD i (([],[]),0)) then (L.getD i (([],[]),0)).2 else 0)
def prdC:List (List Int)→Int
 | [] => 1
 | b :: bs => ((split b).length:Int) * prdC bs
def fcZ (t:List Int) (P:List Cu) (c:Cu):Bool :=
 forB c.1.1 && (decide (c.1.2 = []) || lev8 c.1.2) && decide (numC P c.1.1 (trkC c.1.2) = c.2) && decide (1 ≤ c.2) && decide (c.2 ≤ 1000) && decide (sumLen c.1.1 + c.1.2.length = t.length) &&
  (!oneB c || (lev8 (c.1.1.getD 0 []) && decide ((cntQ t (canon c.1.2,canon (c.1.1.getD 0 [])) (t.length - 1):Int) = c.2)))
def fcL (t:List Int) (n:Int) (P:List Cu):Bool :=
 decide (P.length ≤ 128) && decide (totC P P.length = n) && decide (edgC P P.length = (t.length:Int) - 1) && P.all (fcZ t P) &&
  (fun Q => decide (totC Q Q.length = (t.length:Int) - 1) && decide (Q.length ≤ 128)) (P.filter fun c => !notOne c)
def fcOK (t:List Int):Bool :=
 decide (countNum t 2 0 = (((split t).length:Int),0)) && decide ((split t).length ≤ 128) && (forest (brs (canon t))).all lev8 && decide (prdC (forest (brs (canon t))) + 1 = ((split t).length:Int)) && fcL t ((split t).length:Int) (cutsL t) &&
  (fun R => decide (totF R R.length + 1 = ((split t).length:Int)) && decide (R.length ≤ 128)) (cntOf (trunks t))
set_option maxRecDepth 100000 in
theorem fc_check5:((List.range 6).all fun a => (levels a).all fcOK) = true:=by decide +kernel
end Go.Proofs.YtgngidchldajhaaGreat
