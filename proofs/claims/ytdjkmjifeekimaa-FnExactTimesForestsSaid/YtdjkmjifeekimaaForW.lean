/- The comparisons of forests: compareTrunks and compareForests (the walks). -/
import Derived.Test.YtdjkmjifeekimaaAd
import Derived.Test.YtdjkmjifeekimaaForCmp
set_option linter.unusedSimpArgs false
set_option linter.unusedVariables false
namespace Go.Proofs.Ytdjkmjifeekimaa
open Go.RowKit

theorem lexC_step {α : Type} {c : α → α → Int} {f g : List α} {k : Nat} (h1 : k < f.length) (h2 : k < g.length) : lexC c (f.drop k) (g.drop k) = if c f[k] g[k] = 0 then lexC c (f.drop (k + 1)) (g.drop (k + 1)) else c f[k] g[k] := by
  rw [List.drop_eq_getElem_cons h1, List.drop_eq_getElem_cons h2]; rfl
theorem lexC_endL {α : Type} {c : α → α → Int} {f g : List α} {k : Nat} (h1 : ¬ k < f.length) (h2 : k < g.length) : lexC c (f.drop k) (g.drop k) = -1 := by
  rw [List.drop_eq_nil_of_le (Nat.not_lt.1 h1), List.drop_eq_getElem_cons h2]; rfl
theorem lexC_endR {α : Type} {c : α → α → Int} {f g : List α} {k : Nat} (h1 : k < f.length) (h2 : ¬ k < g.length) : lexC c (f.drop k) (g.drop k) = 1 := by
  rw [List.drop_eq_getElem_cons h1, List.drop_eq_nil_of_le (Nat.not_lt.1 h2)]; rfl
theorem lexC_end0 {α : Type} {c : α → α → Int} {f g : List α} {k : Nat} (h1 : ¬ k < f.length) (h2 : ¬ k < g.length) : lexC c (f.drop k) (g.drop k) = 0 := by
  rw [List.drop_eq_nil_of_le (Nat.not_lt.1 h1), List.drop_eq_nil_of_le (Nat.not_lt.1 h2)]; rfl


/-- compareTrunks. -/
def cmpN : List (List Int) → List (List Int) → Int := thenC (fun f => (f.length : Int)) (lexC cmpT)
theorem cmpN_eq (f g : List (List Int)) : cmpN f g = if (f.length : Int) = g.length then lexC cmpT f g else (f.length : Int) - g.length := rfl
theorem cmpF_N (f g : List (List Int)) : cmpF f g = if (sumLen f : Int) = sumLen g then cmpN f g else (sumLen f : Int) - sumLen g := rfl



end Go.Proofs.Ytdjkmjifeekimaa
