/- Numbers, lists of numbers and maps: what the small functions on them return. -/
import Derived.Test.YtdjkmjifeekimaaNum
set_option linter.unusedSimpArgs false
set_option linter.unusedVariables false
namespace Go.Proofs.Ytdjkmjifeekimaa
open Go.RowKit

def isNum (n : Int) : Bool := inR n 0 10006



theorem all_take_succ {α : Type} (p : α → Bool) (xs : List α) (k : Nat) (h : k < xs.length) (h1 : (xs.take k).all p = true) (h2 : p xs[k] = true) : (xs.take (k + 1)).all p = true := by
  rw [List.take_succ_eq_append_getElem h, List.all_append, h1]; simp [h2]

theorem all_false_at {α : Type} (p : α → Bool) (xs : List α) (k : Nat) (h : k < xs.length) (h2 : p xs[k] = false) : xs.all p = false := by
  rw [List.all_eq_false]; exact ⟨xs[k], List.getElem_mem h, by simp [h2]⟩

theorem all_of_take {α : Type} (p : α → Bool) (xs : List α) (k : Nat) (h : xs.length ≤ k) (h1 : (xs.take k).all p = true) : xs.all p = true := by
  rwa [List.take_of_length_le h] at h1



def isMap (xs : List Int) : Bool := decide (xs.length = 38) && xs.all isNum
def at0 (xs : List Int) (n : Int) : Bool := decide (xs[0]? = some n)




end Go.Proofs.Ytdjkmjifeekimaa
