/- Lemmas (34). -/
import Derived.Test.YtgngidchldajhaaZA7
import Derived.Test.YtgngidchldajhaaZA9
import Derived.Test.YtgngidchldajhaaZA33
set_option linter.unusedSimpArgs false
set_option linter.unusedVariables false
namespace Go.Proofs.Ytgngidchldajhaa
open Go.RowKit
def bpT (p:List Int):List Int:=canon (graftL p 0 p)
set_option maxRecDepth 100000
end Go.Proofs.Ytgngidchldajhaa
