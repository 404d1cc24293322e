/- Lemmas (17). -/
import Derived.Test.YtgngidchldajhaaZA13
set_option linter.unusedSimpArgs false
set_option linter.unusedVariables false
namespace Go.Proofs.Ytgngidchldajhaa
open Go.RowKit
set_option maxRecDepth 100000
theorem gf1_4:gfAll1 4 3 = true:=by decide +kernel
theorem gf1_5:gfAll1 5 2 = true:=by decide +kernel
theorem gf1_6:gfAll1 6 1 = true:=by decide +kernel
end Go.Proofs.Ytgngidchldajhaa
