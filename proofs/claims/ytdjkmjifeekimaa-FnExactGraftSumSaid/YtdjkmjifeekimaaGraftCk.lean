/- Grafting one tree: by neighbours and by lists. -/
import Derived.Test.YtdjkmjifeekimaaGraftN
set_option linter.unusedSimpArgs false
set_option linter.unusedVariables false
namespace Go.Proofs.Ytdjkmjifeekimaa
open Go.RowKit

/-- The level lists with at most so many nodes. -/
def listsTo (n : Nat) : List (List Int) := (List.range n).flatMap levels

theorem mem_listsTo {t : List Int} {n : Nat} (h : LevP t) (hn : t.length ≤ n) : t ∈ listsTo n := by
  have hp := h.pos
  exact List.mem_flatMap.2 ⟨t.length - 1, List.mem_range.2 (by omega), mem_levels _ t h (by omega)⟩

theorem graft_check : trees8.all (fun u => (List.range u.length).all fun n => (listsTo (8 - u.length)).all fun v =>
    graftOk u [(n : Int)] [v] && (levQ (graftL u n v) && decide (graftN u [(n : Int)] [v] = canon (graftL u n v)))) = true := by decide +kernel

theorem graft_ok {t : List Int} (h : lev8 t = true) {n : Nat} (hn : n < t.length) {v : List Int} (hv : LevP v) (h8 : t.length + v.length ≤ 8) :
    graftOk (canon t) [(n : Int)] [v] = true ∧ lev8 (graftL (canon t) n v) = true ∧ graftN (canon t) [(n : Int)] [v] = canon (graftL (canon t) n v) := by
  have hl := canon_len (lev8_lev h)
  have h1 := List.all_eq_true.1 (trees8_all graft_check h) n (List.mem_range.2 (by rw [hl]; exact hn))
  have h2 := List.all_eq_true.1 h1 v (mem_listsTo hv (by rw [hl]; omega))
  rw [Bool.and_eq_true, Bool.and_eq_true, decide_eq_true_eq] at h2
  exact ⟨h2.1, levQ_lev8 h2.2.1, h2.2.2⟩
end Go.Proofs.Ytdjkmjifeekimaa
