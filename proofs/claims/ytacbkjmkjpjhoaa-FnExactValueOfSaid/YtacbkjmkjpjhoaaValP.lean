/- The places of trees in the list of all trees; what ValueOf returns; plain. -/
import Derived.Test.YtacbkjmkjpjhoaaAllTrees
import Derived.Test.YtacbkjmkjpjhoaaElP
import Derived.Test.YtacbkjmkjpjhoaaNum2
set_option linter.unusedSimpArgs false
set_option linter.unusedVariables false
namespace Go.Proofs.Ytacbkjmkjpjhoaa

/-- All trees of at most n nodes. -/
def allTo (n : Nat) : List (List Int) := (List.range n).flatMap fun k => treesN (k + 1)
theorem allTo_succ (n : Nat) : allTo (n + 1) = allTo n ++ treesN (n + 1) := by unfold allTo; rw [List.range_succ, List.flatMap_append]; simp
theorem allTo_len : (allTo 8).length = 200 := by decide +kernel
theorem allTo_pre : ∀ (d k : Nat), ∃ r, allTo (d + k) = allTo d ++ r
  | d, 0 => ⟨[], by simp⟩
  | d, k + 1 => by
    obtain ⟨r, e⟩ := allTo_pre d k
    exact ⟨r ++ treesN (d + k + 1), by rw [← Nat.add_assoc, allTo_succ, e, List.append_assoc]⟩
theorem allTo_rise : (List.range 199).all (fun i => decide (cmpT ((allTo 8).getD i []) ((allTo 8).getD (i + 1) []) < 0)) = true := by decide +kernel
theorem trees_all : lists8.all (fun t => !decide (canon t = t) || (treesN t.length).contains t) = true := by decide +kernel

theorem canT_mem {t : List Int} (h : canT t = true) {d : Nat} (hd : t.length ≤ d) : t ∈ allTo d := by
  unfold canT at h
  rw [Bool.and_eq_true] at h
  have h1 := lev8_all trees_all h.1
  rw [h.2] at h1
  have h2 : t ∈ treesN t.length := by simpa using h1
  have hp : 0 < t.length := (lev8_lev h.1).pos
  unfold allTo
  rw [List.mem_flatMap]
  exact ⟨t.length - 1, List.mem_range.2 (by omega), by rw [Nat.sub_add_cancel hp]; exact h2⟩

/-- A tree's place. -/
def posT (t : List Int) : Nat := (allTo 8).idxOf t
theorem allTo_pair : (allTo 8).Pairwise fun a b => cmpT a b < 0 := by
  refine adj_pairwise (r := fun a b => cmpT a b < 0) (fun a b d h1 h2 => cmpT_cmp.lt_tr h1 h2) (fun i hi => ?_)
  rw [allTo_len] at hi
  have := all_range.1 allTo_rise i (by omega)
  rw [getD_at (by rw [allTo_len]; omega), getD_at (by rw [allTo_len]; omega)] at this
  exact of_decide_eq_true this

/-- The place of a tree in the list of the trees of at most d nodes. -/
theorem pos_at {t : List Int} (h : canT t = true) {d : Nat} (hd : t.length ≤ d) (hd8 : d ≤ 8) : ∃ hi : posT t < (allTo d).length, (allTo d)[posT t] = t ∧ (∀ k (hk : k < (allTo d).length), k < posT t → cmpT (allTo d)[k] t < 0) ∧ ∀ k (hk : k < (allTo d).length), posT t ≤ k → 0 ≤ cmpT (allTo d)[k] t := by
  obtain ⟨r, e⟩ := allTo_pre d (8 - d)
  rw [Nat.add_sub_cancel' hd8] at e
  have hm := canT_mem h hd
  have hp : posT t = (allTo d).idxOf t := by
    unfold posT
    rw [e, List.idxOf_append, if_pos hm]
  have hi : posT t < (allTo d).length := by rw [hp]; exact List.idxOf_lt_length_of_mem hm
  have ht : (allTo d)[posT t] = t := by
    have : (allTo d)[(allTo d).idxOf t]'(by rw [← hp]; exact hi) = t := List.getElem_idxOf _
    simp [hp]
  have hpw : (allTo d).Pairwise fun a b => cmpT a b < 0 := by
    have := allTo_pair
    rw [e] at this
    exact (List.pairwise_append.1 this).1
  rw [List.pairwise_iff_getElem] at hpw
  refine ⟨hi, ht, fun k hk hlt => ?_, fun k hk hle => ?_⟩
  · have := hpw k (posT t) hk hi hlt
    rwa [ht] at this
  · by_cases hq : k = posT t
    · subst hq
      rw [ht, cmpT_cmp.refl]
      exact Int.le_refl _
    · have := hpw (posT t) k hi hk (by omega)
      rw [ht] at this
      have := (cmpT_cmp.anti t (allTo d)[k]).1 this
      omega

/-- A part's value. -/
def valF (vs : List Int) : List (List Int) → Int → Int
  | [], c => c
  | t :: f, c => valF vs f (mP (c * vs.getD (posT t) 0))
/-- The sum of the parts' values. -/
def valE (vs : List Int) : Elt → Int
  | [] => 0
  | p :: e => valF vs p.2 p.1 + valE vs e
/-- Are the places of the trees below n? -/
def posOk (n : Nat) (e : Elt) : Bool := e.all fun p => p.2.all fun t => decide (posT t < n)
/-- ValueOf. -/
def valOf (e : Elt) (vs : List Int) : Int × Int :=
  if elB e = true then (if (decide (vs.length ≤ 200) && vs.all isNum) = true then (if posOk vs.length e = true then (mP (valE vs e), 0) else (0, 2)) else (0, 2)) else (0, 1)

theorem mP_bd (n : Int) : 0 ≤ mP n ∧ mP n < 10007 := by unfold mP; omega
theorem valF_bd (vs : List Int) : ∀ (f : List (List Int)) (c : Int), 0 ≤ c → c < 10007 → 0 ≤ valF vs f c ∧ valF vs f c < 10007
  | [], c, h1, h2 => ⟨h1, h2⟩
  | t :: f, c, _, _ => valF_bd vs f _ (mP_bd _).1 (mP_bd _).2
theorem valF_snoc (vs : List Int) : ∀ (f : List (List Int)) (t : List Int) (c : Int), valF vs (f ++ [t]) c = mP (valF vs f c * vs.getD (posT t) 0)
  | [], t, c => rfl
  | s :: f, t, c => valF_snoc vs f t _
theorem valE_snoc (vs : List Int) : ∀ (e : Elt) (p : Int × List (List Int)), valE vs (e ++ [p]) = valE vs e + valF vs p.2 p.1
  | [], p => by simp [valE]
  | q :: e, p => by simp only [List.cons_append, valE, valE_snoc vs e p]; omega
theorem valE_bd (vs : List Int) : ∀ (e : Elt), (∀ p ∈ e, 0 ≤ p.1 ∧ p.1 < 10007) → 0 ≤ valE vs e ∧ valE vs e ≤ 10007 * e.length
  | [], _ => by simp [valE]
  | p :: e, h => by
    have h1 := valE_bd vs e (fun q hq => h q (by simp [hq]))
    have h2 := h p (by simp)
    have h3 := valF_bd vs p.2 p.1 h2.1 h2.2
    simp only [valE, List.length_cons]
    omega
end Go.Proofs.Ytacbkjmkjpjhoaa
