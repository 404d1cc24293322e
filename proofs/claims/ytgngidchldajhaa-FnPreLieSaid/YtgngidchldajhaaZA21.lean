/- Lemmas (21). -/
import Derived.Test.YtgngidchldajhaaZA10
import Derived.Test.YtgngidchldajhaaZA13
set_option linter.unusedSimpArgs false
set_option linter.unusedVariables false
namespace Go.Proofs.Ytgngidchldajhaa
open Go.RowKit
def gfC3 (u:List Int) (f:List (List Int)):Bool:=(plcO u.length f.length).all fun ps => levQ (mixL u f ps)
set_option maxRecDepth 100000
theorem gf3_all:((List.range 8).all fun a => (List.range (8 - a)).all fun b => (forsN b).all fun f => (levels a).all fun u => gfC3 u f) = true:=by decide +kernel
end Go.Proofs.Ytgngidchldajhaa
