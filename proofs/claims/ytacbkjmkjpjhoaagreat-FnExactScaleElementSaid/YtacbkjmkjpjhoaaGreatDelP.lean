/- The first that a predicate holds of; what is left without those; plain. -/
import Derived.Test.YtacbkjmkjpjhoaaGreatMa
set_option linter.unusedSimpArgs false
set_option linter.unusedVariables false
namespace Go.Proofs.YtacbkjmkjpjhoaaGreat

/-- The number of the first that p holds of. -/
def fIdx {α : Type} (p : α → Bool) : List α → Option Nat
  | [] => none
  | x :: xs => if p x then some 0 else (fIdx p xs).map (· + 1)
def idxI (o : Option Nat) : Int := match o with | some i => i | none => -1
theorem fIdx_none {α : Type} {p : α → Bool} : ∀ {xs : List α}, fIdx p xs = none ↔ ∀ x ∈ xs, p x = false
  | [] => by simp [fIdx]
  | x :: xs => by
    unfold fIdx
    by_cases h : p x = true
    · simp [h]
    · have h' : p x = false := by simpa using h
      simp only [h, Bool.false_eq_true, if_false, Option.map_eq_none_iff, fIdx_none (xs := xs)]
      simp [h']
theorem fIdx_some {α : Type} {p : α → Bool} : ∀ {xs : List α} {i : Nat}, fIdx p xs = some i → ∃ h : i < xs.length, p xs[i] = true ∧ ∀ x ∈ xs.take i, p x = false
  | x :: xs, i, h => by
    unfold fIdx at h
    by_cases hx : p x = true
    · rw [if_pos hx] at h; cases h
      exact ⟨by simp, hx, by simp⟩
    · rw [if_neg hx] at h
      obtain ⟨j, hj, rfl⟩ := map_some h
      obtain ⟨h1, h2, h3⟩ := fIdx_some hj
      refine ⟨by simpa using h1, h2, fun y hy => ?_⟩
      rw [List.take_succ_cons, List.mem_cons] at hy
      rcases hy with rfl | hy
      · simpa using hx
      · exact h3 y hy
theorem fIdx_at {α : Type} {p : α → Bool} : ∀ {xs : List α} {i : Nat} (h : i < xs.length), p xs[i] = true → (∀ x ∈ xs.take i, p x = false) → fIdx p xs = some i
  | x :: xs, 0, _, h1, _ => by
    have h1 : p x = true := h1
    unfold fIdx; rw [if_pos h1]
  | x :: xs, i + 1, h, h1, h2 => by
    unfold fIdx
    have hx : p x = false := h2 x (by simp)
    rw [if_neg (by simp [hx]), fIdx_at (xs := xs) (i := i) (by simpa using h) h1 (fun y hy => h2 y (by simp [hy]))]
    rfl

/-- What is kept. -/
def keepF {α : Type} (p : α → Bool) (xs : List α) : List α := xs.filter fun x => !p x

end Go.Proofs.YtacbkjmkjpjhoaaGreat
