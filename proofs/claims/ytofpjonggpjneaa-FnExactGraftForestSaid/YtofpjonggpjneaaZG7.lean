/- Lemmas (7). -/
import Derived.Test.YtofpjonggpjneaaZG4
set_option linter.unusedSimpArgs false
set_option linter.unusedVariables false
namespace Go.Proofs.Ytofpjonggpjneaa
open Go.RowKit
set_option maxRecDepth 100000
theorem gf1_3:gfAll1 3 4 = true:=by decide +kernel
end Go.Proofs.Ytofpjonggpjneaa
