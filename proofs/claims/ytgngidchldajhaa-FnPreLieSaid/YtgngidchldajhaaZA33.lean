/- Lemmas (33). -/
import Derived.Test.YtgngidchldajhaaZA6
import Derived.Test.YtgngidchldajhaaZA7
import Derived.Test.YtgngidchldajhaaZA8
import Derived.Test.YtgngidchldajhaaZA10
import Derived.Test.YtgngidchldajhaaZA31
import Derived.Test.YtgngidchldajhaaZA32
set_option linter.unusedSimpArgs false
set_option linter.unusedVariables false
namespace Go.Proofs.Ytgngidchldajhaa
open Go.RowKit
def supD (t:List Int) (n:Nat):Bool:=Nat.beq (cutT t n).length (cutB t n).length && decide (turnF 8 (cutT t n) (parAt t n).toNat = canon (cutB t n))
def isSup (t:List Int):Bool:=(List.range t.length).any fun i => !(Nat.beq i 0) && supD t i
def supOf (t:List Int):Bool × Int:=if lev8 t = true then (isSup (canon t),0) else (false,1)
end Go.Proofs.Ytgngidchldajhaa
namespace Go.Proofs.Ytgngidchldajhaa
open Go.RowKit
theorem AOk.small {n:Nat} {t:List Int} (h:AOk n t) (hn:n ≤ 1000):t.length ≤ 1000:=by have:=h.len;omega
theorem totF_bd {L:List (List Int × Int)} (h:∀ z ∈ L,0 ≤ z.2∧z.2 ≤ 1000):∀ i,i ≤ L.length→0 ≤ totF L i∧totF L i ≤ 1000 * i
 | 0,_ => by simp [totF]
 | i + 1,hi => by
  have h1:=totF_bd h i (by omega)
  have e:L.getD i ([],0) = L[i]:=by rw [List.getD_eq_getElem?_getD,List.getElem?_eq_getElem (by omega)];rfl
  have h2:=h L[i] (List.getElem_mem _)
  unfold totF
  rw [e]
  omega
end Go.Proofs.Ytgngidchldajhaa
