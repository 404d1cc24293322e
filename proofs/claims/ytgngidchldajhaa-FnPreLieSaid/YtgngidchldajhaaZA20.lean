/- Lemmas (20). -/
import Derived.Test.YtgngidchldajhaaZA13
set_option linter.unusedSimpArgs false
set_option linter.unusedVariables false
namespace Go.Proofs.Ytgngidchldajhaa
open Go.RowKit
set_option maxRecDepth 100000
theorem gf2_6:gfAll2 6 1 = true:=by decide +kernel
theorem gf2_7:gfAll2 7 0 = true:=by decide +kernel
end Go.Proofs.Ytgngidchldajhaa
