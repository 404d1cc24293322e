/- Lemmas (14). -/
import Derived.Test.YtgngidchldajhaaZA13
set_option linter.unusedSimpArgs false
set_option linter.unusedVariables false
namespace Go.Proofs.Ytgngidchldajhaa
open Go.RowKit
set_option maxRecDepth 100000
theorem gf2_low:((List.range 7).all fun a => (List.range (7 - a)).all fun b => gfAll2 a b) = true:=by decide +kernel
end Go.Proofs.Ytgngidchldajhaa
