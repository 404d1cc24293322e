/- Lemmas (19). -/
import Derived.Test.YtgngidchldajhaaZA13
set_option linter.unusedSimpArgs false
set_option linter.unusedVariables false
namespace Go.Proofs.Ytgngidchldajhaa
open Go.RowKit
set_option maxRecDepth 100000
theorem gf2_4:gfAll2 4 3 = true:=by decide +kernel
theorem gf2_5:gfAll2 5 2 = true:=by decide +kernel
end Go.Proofs.Ytgngidchldajhaa
