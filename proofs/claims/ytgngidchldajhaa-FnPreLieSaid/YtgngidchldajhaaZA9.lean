/- Lemmas (9). -/
import Derived.Test.YtgngidchldajhaaZA8
set_option linter.unusedSimpArgs false
set_option linter.unusedVariables false
namespace Go.Proofs.Ytgngidchldajhaa
open Go.RowKit
def freeT (t:List Int):List Int:=minT (roots t)
end Go.Proofs.Ytgngidchldajhaa
