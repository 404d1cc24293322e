/- Lemmas (16). -/
import Derived.Test.YtgngidchldajhaaZA13
set_option linter.unusedSimpArgs false
set_option linter.unusedVariables false
namespace Go.Proofs.Ytgngidchldajhaa
open Go.RowKit
set_option maxRecDepth 100000
theorem gf1_3:gfAll1 3 4 = true:=by decide +kernel
end Go.Proofs.Ytgngidchldajhaa
