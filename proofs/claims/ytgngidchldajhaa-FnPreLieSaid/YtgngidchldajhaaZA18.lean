/- Lemmas (18). -/
import Derived.Test.YtgngidchldajhaaZA13
set_option linter.unusedSimpArgs false
set_option linter.unusedVariables false
namespace Go.Proofs.Ytgngidchldajhaa
open Go.RowKit
set_option maxRecDepth 100000
theorem gf2_0:gfAll2 0 7 = true:=by decide +kernel
theorem gf2_1:gfAll2 1 6 = true:=by decide +kernel
theorem gf2_2:gfAll2 2 5 = true:=by decide +kernel
theorem gf2_3:gfAll2 3 4 = true:=by decide +kernel
end Go.Proofs.Ytgngidchldajhaa
