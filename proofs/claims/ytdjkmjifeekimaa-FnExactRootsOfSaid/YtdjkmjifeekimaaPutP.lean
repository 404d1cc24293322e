/- A counted tree is put into a rising sum: the loops' way, plain. -/
import Derived.Test.YtdjkmjifeekimaaPutD
set_option linter.unusedSimpArgs false
set_option linter.unusedVariables false
namespace Go.Proofs.Ytdjkmjifeekimaa
open Go.RowKit

/-- An element of the sum as it is copied. -/
def putEl (t : List Int) (n : Int) (z : List Int × Int) : List Int × Int := (z.1, if z.1 = t then z.2 + n else z.2)

/-- What the loop has copied before round i; k is the place of the new tree. -/
def putTo (s : List (List Int × Int)) (t : List Int) (n : Int) (k : Nat) : Nat → List (List Int × Int)
  | 0 => []
  | i + 1 => (if i = k ∧ (s.getD i ([], 0)).1 ≠ t then putTo s t n k i ++ [(t, n)] else putTo s t n k i) ++ [putEl t n (s.getD i ([], 0))]

theorem putTo_len (s : List (List Int × Int)) (t : List Int) (n : Int) (k : Nat) : ∀ i, (putTo s t n k i).length ≤ i + (if k < i then 1 else 0)
  | 0 => by simp [putTo]
  | i + 1 => by
    have := putTo_len s t n k i
    unfold putTo
    split
    · rename_i h
      rw [if_pos (by omega)]
      rw [if_neg (by omega)] at this
      simp; omega
    · simp only [List.length_append, List.length_singleton]
      split at this <;> split <;> omega

theorem putC_app : ∀ (p q : List (List Int × Int)) (t : List Int) (n : Int), (∀ z ∈ p, cmpT z.1 t < 0) → putC (p ++ q) t n = p ++ putC q t n
  | [], _, _, _, _ => rfl
  | (x, c) :: p, q, t, n, h => by
    rw [List.cons_append, List.cons_append, ← putC_app p q t n (fun z hz => h z (by simp [hz])), putC, if_pos (h (x, c) (by simp))]

theorem putEl_ne {t : List Int} {n : Int} {z : List Int × Int} (h : z.1 ≠ t) : putEl t n z = z := by unfold putEl; rw [if_neg h]

theorem cmpT_ne {x t : List Int} (h : cmpT x t < 0) : x ≠ t := fun e => by rw [e, cmpT_cmp.refl] at h; omega

theorem putTo_low (p q : List (List Int × Int)) (t : List Int) (n : Int) (h : ∀ z ∈ p, cmpT z.1 t < 0) : ∀ i, i ≤ p.length → putTo (p ++ q) t n p.length i = p.take i
  | 0, _ => by simp [putTo]
  | i + 1, hi => by
    have hg : (p ++ q).getD i ([], 0) = p[i]'(by omega) := by
      simp only [List.getD]
      rw [List.getElem?_append_left (by omega), List.getElem?_eq_getElem (by omega)]; rfl
    unfold putTo
    rw [if_neg (by omega), putTo_low p q t n h i (by omega), hg, putEl_ne (cmpT_ne (h _ (List.getElem_mem _))), List.take_succ_eq_append_getElem (by omega)]

theorem putTo_high (p r : List (List Int × Int)) (x : List Int) (c : Int) (t : List Int) (n : Int) (h : ∀ z ∈ p, cmpT z.1 t < 0) (hr : ∀ z ∈ r, z.1 ≠ t) :
    ∀ j, j ≤ r.length → putTo (p ++ (x, c) :: r) t n p.length (p.length + 1 + j) = p ++ (if x = t then [(x, c + n)] else [(t, n), (x, c)]) ++ r.take j
  | 0, _ => by
    show putTo (p ++ (x, c) :: r) t n p.length (p.length + 1) = _
    have hg : (p ++ (x, c) :: r).getD p.length ([], 0) = (x, c) := by simp [List.getD]
    unfold putTo
    rw [hg, putTo_low p _ t n h p.length (Nat.le_refl _), List.take_length]
    by_cases e : x = t
    · rw [if_neg (by simp [e]), if_pos e]; simp [putEl, e]
    · rw [if_pos ⟨rfl, e⟩, if_neg e]; simp [putEl, e]
  | j + 1, hj => by
    have hg : (p ++ (x, c) :: r).getD (p.length + 1 + j) ([], 0) = r[j] := by
      have e : p.length + 1 + j - p.length = j + 1 := by omega
      simp only [List.getD]
      rw [List.getElem?_append_right (by omega), e, List.getElem?_cons_succ, List.getElem?_eq_getElem (by omega)]; rfl
    show putTo (p ++ (x, c) :: r) t n p.length ((p.length + 1 + j) + 1) = _
    unfold putTo
    rw [if_neg (by omega), putTo_high p r x c t n h hr j (by omega), hg, putEl_ne (hr _ (List.getElem_mem _)), List.take_succ_eq_append_getElem (by omega), List.append_assoc]

/-- The loops' result. -/
theorem putTo_all (p q : List (List Int × Int)) (t : List Int) (n : Int) (hr : RiseC (p ++ q)) (h : ∀ z ∈ p, cmpT z.1 t < 0) (hq : ∀ z ∈ q.head?, ¬ cmpT z.1 t < 0) :
    putTo (p ++ q) t n p.length (p ++ q).length ++ (if p.length = (p ++ q).length then [(t, n)] else []) = putC (p ++ q) t n := by
  rw [putC_app p q t n h]
  rcases q with _ | ⟨⟨x, c⟩, r⟩
  · rw [if_pos (by simp), putTo_low p [] t n h _ (by simp)]
    simp [putC]
  · have hx : ¬ cmpT x t < 0 := hq (x, c) (by simp)
    have hp : RiseC ((x, c) :: r) := (List.pairwise_append.1 hr).2.1
    have hrn : ∀ z ∈ r, z.1 ≠ t := by
      intro z hz e
      have h1 : cmpT x z.1 < 0 := (List.pairwise_cons.1 hp).1 z hz
      rw [e] at h1
      exact hx h1
    have e : (p ++ (x, c) :: r).length = p.length + 1 + r.length := by simp; omega
    rw [e, if_neg (by omega), putTo_high p r x c t n h hrn r.length (Nat.le_refl _), List.take_length]
    unfold putC
    rw [if_neg hx]
    split
    · simp
    · simp
end Go.Proofs.Ytdjkmjifeekimaa
