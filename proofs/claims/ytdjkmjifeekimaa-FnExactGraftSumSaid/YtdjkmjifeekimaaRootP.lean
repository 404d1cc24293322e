/- Rerooted trees, plain: by neighbours and by turning. -/
import Derived.Test.YtdjkmjifeekimaaNearP
set_option linter.unusedSimpArgs false
set_option linter.unusedVariables false
namespace Go.Proofs.Ytdjkmjifeekimaa
open Go.RowKit

/-- A list that is turned so that a node is its root. -/
def turnF : Nat → List Int → Nat → List Int
  | 0, t, _ => canon t
  | f + 1, t, n => if n = 0 then canon t else canon (cutB t n ++ (turnF f (cutT t n) (parAt t n).toNat).map (· + 1))

/-- The canonical lists. -/
def trees8 : List (List Int) := lists8.filter fun t => decide (canon t = t)

theorem mem_trees8 {t : List Int} (h : lev8 t = true) (hc : canon t = t) : t ∈ trees8 := List.mem_filter.2 ⟨mem_lists8 h, by simp [hc]⟩

theorem trees8_all {p : List Int → Bool} (h : trees8.all p = true) {t : List Int} (ht : lev8 t = true) : p (canon t) = true :=
  List.all_eq_true.1 h _ (mem_trees8 (lev8_canon ht) (canon_idem (lev8_lev ht)))

theorem root_check : trees8.all (fun t => (List.range t.length).all fun i => treeOk 9 (nears t) (i : Nat) (-1) && (Nat.ble (treeSm 9 (nears t) (i : Nat) (-1)) 13 && decide (treeF 9 (nears t) (i : Nat) (-1) = turnF 8 t i))) = true := by decide +kernel

theorem root_ok {t : List Int} (h : lev8 t = true) {i : Nat} (hi : i < t.length) :
    treeOk 9 (nears (canon t)) i (-1) = true ∧ treeSm 9 (nears (canon t)) i (-1) ≤ 13 ∧ treeF 9 (nears (canon t)) i (-1) = turnF 8 (canon t) i := by
  have := List.all_eq_true.1 (trees8_all root_check h) i (List.mem_range.2 (by rw [canon_len (lev8_lev h)]; exact hi))
  rw [Bool.and_eq_true, Bool.and_eq_true, decide_eq_true_eq] at this
  exact ⟨this.1, Nat.le_of_ble_eq_true this.2.1, this.2.2⟩

/-- All trees that a list is turned to. -/
def roots (t : List Int) : List (List Int) := (List.range t.length).map fun n => turnF 8 t n
end Go.Proofs.Ytdjkmjifeekimaa
