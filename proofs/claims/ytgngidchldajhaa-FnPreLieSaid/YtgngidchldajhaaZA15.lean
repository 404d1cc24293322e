/- Lemmas (15). -/
import Derived.Test.YtgngidchldajhaaZA13
set_option linter.unusedSimpArgs false
set_option linter.unusedVariables false
namespace Go.Proofs.Ytgngidchldajhaa
open Go.RowKit
set_option maxRecDepth 100000
theorem gf1_0:gfAll1 0 7 = true:=by decide +kernel
theorem gf1_1:gfAll1 1 6 = true:=by decide +kernel
theorem gf1_2:gfAll1 2 5 = true:=by decide +kernel
theorem gf1_7:gfAll1 7 0 = true:=by decide +kernel
end Go.Proofs.Ytgngidchldajhaa
