/- What IsElement asks at a place. -/
import Derived.Test.YtacbkjmkjpjhoaaGreatForB
import Derived.Test.YtacbkjmkjpjhoaaGreatPartSz
set_option linter.unusedSimpArgs false
set_option linter.unusedVariables false
namespace Go.Proofs.YtacbkjmkjpjhoaaGreat
open Go.RowKit

/-- An argument of a size that a law asks about. -/
theorem szP.at {e : List (Int × List (List Int))} (h : szP e) {i : Nat} (hi : i < e.length) : sumLen e[i].2 ≤ 1048576 ∧ e[i].2.length ≤ 1048576 := by
  have := szN_mem (List.getElem_mem hi)
  unfold szP at h
  omega

theorem okP_no1 {e : Elt} {i : Nat} {c : Int} {f : List (List Int)} (h : e.getD i (0, []) = (c, f)) (hc : isNum c = false ∨ c = 0) : okP e i = false := by
  unfold okP
  rw [h]
  unfold isNum inR at hc
  by_cases h1 : 1 ≤ c
  · have h2 : ¬ c < 10007 := by simp at hc; omega
    rw [decide_eq_false h2, Bool.and_false, Bool.false_and, Bool.false_and]
  · rw [decide_eq_false h1, Bool.false_and, Bool.false_and, Bool.false_and]
theorem okP_no2 {e : Elt} {i : Nat} {c : Int} {f : List (List Int)} (h : e.getD i (0, []) = (c, f)) (hc : forB f = false) : okP e i = false := by
  unfold okP; rw [h, hc, Bool.and_false, Bool.false_and]
theorem okP_no3 {e : Elt} {i : Nat} {c : Int} {f g : List (List Int)} {k : Int} (h : e.getD i (0, []) = (c, f)) (h2 : e.getD (i - 1) (0, []) = (k, g)) (h0 : i ≠ 0) (hc : ¬ cmpF g f < 0) : okP e i = false := by
  unfold okP; rw [h, h2, decide_eq_false h0, decide_eq_false hc, Bool.or_self, Bool.and_false]
theorem okP_yes {e : Elt} {i : Nat} {c : Int} {f g : List (List Int)} {k : Int} (h : e.getD i (0, []) = (c, f)) (h2 : e.getD (i - 1) (0, []) = (k, g)) (hn : isNum c = true) (h1 : c ≠ 0) (hf : forB f = true) (h0 : i = 0 ∨ cmpF g f < 0) : okP e i = true := by
  unfold isNum inR at hn
  simp at hn
  unfold okP
  rw [h, h2, decide_eq_true (show 1 ≤ c by omega), decide_eq_true (show c < 10007 by omega), hf]
  rcases h0 with h0 | h0
  · rw [decide_eq_true h0]; rfl
  · rw [decide_eq_true h0, Bool.or_true]; rfl

end Go.Proofs.YtacbkjmkjpjhoaaGreat
