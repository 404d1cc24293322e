/- Equal trees that stand beside each other, counted; plain. -/
import Derived.Test.YtdjkmjifeekimaaPutD
set_option linter.unusedSimpArgs false
set_option linter.unusedVariables false
namespace Go.Proofs.Ytdjkmjifeekimaa

/-- One more thing, whose tree is f x: the last one's number goes up, or it stands behind. -/
def stepC {α : Type} (f : α → List Int) (out : List (α × Int)) (x : α) : List (α × Int) :=
  match out.getLast? with
  | some z => if f z.1 = f x then out.dropLast ++ [(z.1, z.2 + 1)] else out ++ [(x, 1)]
  | none => [(x, 1)]
def runsF {α : Type} (f : α → List Int) (xs : List α) : List (α × Int) := xs.foldl (stepC f) []
theorem runsF_snoc {α : Type} (f : α → List Int) (xs : List α) (x : α) : runsF f (xs ++ [x]) = stepC f (runsF f xs) x := by unfold runsF; rw [List.foldl_append]; rfl
theorem stepC_nil {α : Type} (f : α → List Int) (x : α) : stepC f [] x = [(x, 1)] := rfl
theorem stepC_eq {α : Type} (f : α → List Int) (out : List (α × Int)) (z : α × Int) (x : α) (h : f z.1 = f x) : stepC f (out ++ [z]) x = out ++ [(z.1, z.2 + 1)] := by
  unfold stepC; simp [h]
theorem stepC_ne {α : Type} (f : α → List Int) (out : List (α × Int)) (z : α × Int) (x : α) (h : ¬ f z.1 = f x) : stepC f (out ++ [z]) x = out ++ [z] ++ [(x, 1)] := by
  unfold stepC; simp [h]
theorem snoc_of {α : Type} {l : List α} (h : l ≠ []) : ∃ p z, l = p ++ [z] := ⟨l.dropLast, l.getLast h, (List.dropLast_concat_getLast h).symm⟩

/-- The things are some of those that were there, in their order; their numbers are not greater than how many there were. -/
theorem runsF_sub {α : Type} (f : α → List Int) : ∀ (n : Nat) (xs : List α), xs.length = n → ((runsF f xs).map (·.1)).Sublist xs ∧ ∀ z ∈ runsF f xs, 1 ≤ z.2 ∧ z.2 ≤ (n : Int)
  | 0, xs, h => by
    rw [List.eq_nil_of_length_eq_zero h]
    exact ⟨List.Sublist.slnil, fun z hz => by cases hz⟩
  | n + 1, xs, h => by
    obtain ⟨ys, x, rfl⟩ := snoc_of (l := xs) (by intro e; rw [e] at h; simp at h)
    have hl : ys.length = n := by simpa using h
    obtain ⟨h1, h2⟩ := runsF_sub f n ys hl
    rw [runsF_snoc]
    by_cases h0 : runsF f ys = []
    · rw [h0, stepC_nil]
      exact ⟨by simp, fun z hz => by simp at hz; subst hz; simp; omega⟩
    · obtain ⟨out, z, e⟩ := snoc_of h0
      rw [e] at h1 h2 ⊢
      by_cases he : f z.1 = f x
      · rw [stepC_eq f out z x he]
        refine ⟨?_, fun q hq => ?_⟩
        · simp only [List.map_append, List.map_cons, List.map_nil] at h1 ⊢
          exact h1.trans (List.sublist_append_left _ _)
        · rcases List.mem_append.1 hq with hq | hq
          · have := h2 q (by simp [hq]); omega
          · have := h2 z (by simp)
            simp at hq; subst hq
            simp only; omega
      · rw [stepC_ne f out z x he]
        refine ⟨?_, fun q hq => ?_⟩
        · rw [List.map_append]
          exact List.Sublist.append h1 (List.Sublist.refl _)
        · rcases List.mem_append.1 hq with hq | hq
          · have := h2 q hq; omega
          · simp at hq; subst hq; simp only; omega
/-- Where the trees come from does not matter. -/
theorem runsF_map {α : Type} (f : α → List Int) : ∀ (n : Nat) (xs : List α), xs.length = n → (runsF f xs).map (fun z => (f z.1, z.2)) = runsF id (xs.map f)
  | 0, xs, h => by rw [List.eq_nil_of_length_eq_zero h]; rfl
  | n + 1, xs, h => by
    obtain ⟨ys, x, rfl⟩ := snoc_of (l := xs) (by intro e; rw [e] at h; simp at h)
    have hl : ys.length = n := by simpa using h
    have ih := runsF_map f n ys hl
    rw [List.map_append, List.map_cons, List.map_nil, runsF_snoc, runsF_snoc, ← ih]
    by_cases h0 : runsF f ys = []
    · rw [h0]; rfl
    · obtain ⟨out, z, e⟩ := snoc_of h0
      rw [e, List.map_append, List.map_cons, List.map_nil]
      by_cases he : f z.1 = f x
      · rw [stepC_eq f out z x he, stepC_eq id _ (f z.1, z.2) (f x) he]; simp
      · rw [stepC_ne f out z x he, stepC_ne id _ (f z.1, z.2) (f x) he]; simp

/-- The things in order, counted. -/
def cntOf (ts : List (List Int)) : List (List Int × Int) := runsF id (sortC cmpT ts)
end Go.Proofs.Ytdjkmjifeekimaa
