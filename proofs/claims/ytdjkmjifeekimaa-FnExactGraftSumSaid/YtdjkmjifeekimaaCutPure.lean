/- Cuts above a node of a level list, plain. -/
import Derived.Test.YtdjkmjifeekimaaCanon
set_option linter.unusedSimpArgs false
set_option linter.unusedVariables false
namespace Go.Proofs.Ytdjkmjifeekimaa
open Go.RowKit

/-- The index behind the branch at a node. -/
def endOf (t : List Int) (n : Nat) : Nat := n + 1 + ((t.drop (n + 1)).takeWhile (fun l => decide (t.getD n 0 < l))).length

theorem endOf_eq {t : List Int} {n k : Nat} (hnk : n + 1 ≤ k) (hk : k ≤ t.length) (h : ∀ j, n < j → j < k → t.getD n 0 < t.getD j 0) (he : k = t.length ∨ ¬ t.getD n 0 < t.getD k 0) : endOf t n = k := by
  unfold endOf
  have e : t.drop (n + 1) = (t.drop (n + 1)).take (k - (n + 1)) ++ t.drop k := by
    have := List.take_append_drop (k - (n + 1)) (t.drop (n + 1))
    rw [List.drop_drop, show n + 1 + (k - (n + 1)) = k by omega] at this
    exact this.symm
  rw [e, List.takeWhile_append_of_pos]
  · have h2 : (t.drop k).takeWhile (fun l => decide (t.getD n 0 < l)) = [] := by
      rcases he with he | he
      · rw [he, List.drop_length]; rfl
      · by_cases hl : k < t.length
        · rw [List.drop_eq_getElem_cons hl, List.takeWhile_cons]
          have : ¬ t.getD n 0 < t[k] := by simpa [hl] using he
          rw [if_neg (by simpa using this)]
        · rw [List.drop_of_length_le (by omega)]; rfl
    rw [h2, List.append_nil, List.length_take, List.length_drop]
    omega
  · intro a ha
    obtain ⟨i, hi, rfl⟩ := List.mem_iff_getElem.1 ha
    rw [List.length_take, List.length_drop] at hi
    rw [List.getElem_take, List.getElem_drop]
    have := h (n + 1 + i) (by omega) (by omega)
    simpa [show n + 1 + i < t.length by omega] using this

def cutB (t : List Int) (n : Nat) : List Int := ((t.take (endOf t n)).drop n).map (· - t.getD n 0)
def cutT (t : List Int) (n : Nat) : List Int := t.take n ++ t.drop (endOf t n)

/-- Level lists by a quick test. -/
def levGo : Int → List Int → Bool
  | _, [] => true
  | p, x :: xs => decide (1 ≤ x) && (decide (x ≤ p + 1) && levGo x xs)

def levQ : List Int → Bool
  | [] => false
  | x :: xs => decide (x = 0) && (levGo 0 xs && Nat.ble xs.length 7)

theorem levGo_ok : ∀ (xs : List Int) (p : Int), levGo p xs = true → levOk p xs
  | [], _, _ => trivial
  | x :: xs, p, h => by
    simp only [levGo, Bool.and_eq_true, decide_eq_true_eq] at h
    exact ⟨h.1, h.2.1, levGo_ok xs x h.2.2⟩

theorem levQ_lev8 {t : List Int} (h : levQ t = true) : lev8 t = true := by
  cases t with
  | nil => cases h
  | cons x xs =>
    simp only [levQ, Bool.and_eq_true, decide_eq_true_eq] at h
    obtain ⟨rfl, h1, h2⟩ := h
    refine lev8_mk ((LevP_iff _).2 ⟨xs, rfl, levGo_ok xs 0 h1⟩) ?_
    have := Nat.le_of_ble_eq_true h2
    simp only [List.length_cons]
    omega

theorem cuts_lev_check : lists8.all (fun t => (List.range t.length).all fun n => n == 0 || (levQ (cutT t n) && levQ (cutB t n))) = true := by decide +kernel

theorem cuts_lev {t : List Int} (h : lev8 t = true) {n : Nat} (h0 : 0 < n) (hn : n < t.length) : lev8 (cutT t n) = true ∧ lev8 (cutB t n) = true := by
  have := lev8_all cuts_lev_check h
  have := List.all_eq_true.1 this n (List.mem_range.2 hn)
  have e : (n == 0) = false := by simp; omega
  rw [e, Bool.false_or, Bool.and_eq_true] at this
  exact ⟨levQ_lev8 this.1, levQ_lev8 this.2⟩
end Go.Proofs.Ytdjkmjifeekimaa
