/- Branches of level lists are level lists; numberings: the plain law that both programs count the same. -/
import Derived.Test.YtacbkjmkjpjhoaaGreatBranch
set_option linter.unusedSimpArgs false
set_option linter.unusedVariables false
namespace Go.Proofs.YtacbkjmkjpjhoaaGreat
open Go.RowKit

theorem LevP.snoc {x : List Int} {y : Int} (h : LevP x) (h1 : 1 ≤ y) (h2 : y ≤ x.getD (x.length - 1) 0 + 1) : LevP (x ++ [y]) := by
  have hp := h.pos
  refine ⟨?_, fun i hi hi2 => ?_⟩
  · have := h.1
    simpa [List.getElem?_append_left hp, hp] using this
  · simp only [List.length_append, List.length_singleton] at hi hi2
    by_cases hlt : i + 1 < x.length
    · have := h.2 i (by omega) hlt
      simpa [List.getD_eq_getElem?_getD, List.getElem?_append_left hlt, List.getElem?_append_left (show i < x.length by omega)] using this
    · have e : i + 1 = x.length := by omega
      have e2 : i = x.length - 1 := by omega
      rw [e]
      simp only [List.getD_eq_getElem?_getD, List.getElem?_append_right (Nat.le_refl _), Nat.sub_self, List.getElem?_append_left (show i < x.length by omega)]
      rw [e2]
      simpa using ⟨h1, h2⟩

theorem LevP.root : LevP [0] := by decide

/-- The branches laid so far are level lists; the last one ends at the level before. -/
theorem brTo_lev {t : List Int} (h : LevP t) : ∀ k (hk : k + 1 < t.length),
    (∀ x ∈ brTo t (k + 1), LevP x) ∧ ∀ hl : 0 < (brTo t (k + 1)).length, ((brTo t (k + 1))[(brTo t (k + 1)).length - 1]).getD (((brTo t (k + 1))[(brTo t (k + 1)).length - 1]).length - 1) 0 = t[k + 1] - 1
  | 0, hk => by
    have h1 := h.succ hk
    have h0 := h.zero h.pos
    have e : t[0 + 1] = 1 := by simp at h1 ⊢; omega
    have e2 : brTo t (0 + 1) = [[0]] := by rw [brTo_succ t 0 hk, e, brStep_one]; rfl
    refine ⟨fun x hx => ?_, fun hl => ?_⟩
    · rw [e2] at hx
      simp at hx; subst hx; exact LevP.root
    · simp only [e2, e]; rfl
  | k + 1, hk => by
    obtain ⟨ih1, ih2⟩ := brTo_lev h k (by omega)
    have hp := brTo_pos h k (by omega)
    have hs := h.succ hk
    by_cases e : t[k + 1 + 1] = 1
    · have e2 : brTo t (k + 1 + 1) = brTo t (k + 1) ++ [[0]] := by rw [brTo_succ t (k + 1) hk, e, brStep_one]
      refine ⟨fun x hx => ?_, fun hl => ?_⟩
      · rw [e2] at hx
        rcases List.mem_append.1 hx with hx | hx
        · exact ih1 x hx
        · simp at hx; subst hx; exact LevP.root
      · simp only [e2, e, List.length_append, List.length_singleton, Nat.add_sub_cancel, List.getElem_append_right (Nat.le_refl _), Nat.sub_self, List.getElem_singleton]
        rfl
    · have e2 : brTo t (k + 1 + 1) = (brTo t (k + 1)).set ((brTo t (k + 1)).length - 1) ((brTo t (k + 1))[(brTo t (k + 1)).length - 1] ++ [t[k + 1 + 1] - 1]) := by
        rw [brTo_succ t (k + 1) hk, brStep_more _ _ e hp]
      refine ⟨fun x hx => ?_, fun hl => ?_⟩
      · rw [e2] at hx
        rcases List.mem_or_eq_of_mem_set hx with hx | rfl
        · exact ih1 x hx
        · exact LevP.snoc (ih1 _ (List.getElem_mem _)) (by omega) (by rw [ih2 hp]; omega)
      · simp only [e2, List.length_set, List.getElem_set_self, List.length_append, List.length_singleton, Nat.add_sub_cancel]
        simp

theorem brs_lev {t : List Int} (h : LevP t) : ∀ x ∈ brs t, LevP x := by
  rw [← brTo_all t (t.length - 1) (by omega)]
  by_cases h1 : 1 < t.length
  · have := (brTo_lev h (t.length - 2) (by omega)).1
    rwa [show t.length - 2 + 1 = t.length - 1 by omega] at this
  · intro x hx
    have e : t.length - 1 = 0 := by omega
    rw [e] at hx
    simp [brTo] at hx

theorem brs_short {t : List Int} (h : LevP t) : ∀ x ∈ brs t, x.length + 1 ≤ t.length := by
  rw [← brTo_all t (t.length - 1) (by omega)]
  intro x hx
  obtain ⟨i, hi, rfl⟩ := List.getElem_of_mem hx
  have := brTo_each t (t.length - 1) i hi
  have := h.pos
  omega

theorem brs_many {t : List Int} : (brs t).length ≤ t.length := by
  rw [← brTo_all t (t.length - 1) (by omega)]
  have := brTo_len t (t.length - 1)
  omega

theorem in64_wrap (n : Int) : In64 (wrap64 n) := by
  unfold In64 wrap64
  omega

/-- Sums as the machine makes them. -/
def sumW (l : List Int) : Int := l.foldl (fun a v => wrap64 (a + v)) 0

theorem sumW_snoc (l : List Int) (x : Int) : sumW (l ++ [x]) = wrap64 (sumW l + x) := by simp [sumW]

/-- The reference's count: numberings whose root has a number. -/
def numS : Nat → List Int → Nat → Nat → Nat → Int
  | 0, _, _, _, _ => 0
  | f + 1, t, root, k, gap => (brs t).foldl (fun out b => wrap64 (out * sumW ((List.range (k + 1 - (root + gap))).map fun i => numS f b (root + gap + i) k gap))) 1

/-- One branch more: the program's step. -/
def numStep (k step : Nat) (out l : List Int) : List Int := (List.range k).map fun x => wrap64 (out.getD x 0 * sumW (l.drop (x + step)))

/-- The program's count: for each number of the root. -/
def numI : Nat → List Int → Nat → Nat → List Int
  | 0, _, k, _ => List.replicate k 0
  | f + 1, t, k, step => (brs t).foldl (fun out b => numStep k step out (numI f b k step)) (List.replicate k 1)

theorem numStep_len (k step : Nat) (out l : List Int) : (numStep k step out l).length = k := by simp [numStep]

theorem foldl_points {β : Type} (k : Nat) (F : Int → β → Nat → Int) : ∀ (bs : List β) (g : Nat → Int),
    bs.foldl (fun out b => (List.range k).map fun x => F (out.getD x 0) b x) ((List.range k).map g) = (List.range k).map fun x => bs.foldl (fun o b => F o b x) (g x)
  | [], g => rfl
  | b :: bs, g => by
    rw [List.foldl_cons]
    have e : ((List.range k).map fun x => F (((List.range k).map g).getD x 0) b x) = (List.range k).map fun x => F (g x) b x := by
      apply List.map_congr_left
      intro x hx
      have hx' : x < k := by simpa using hx
      simp [hx']
    rw [e, foldl_points k F bs]
    rfl

theorem numI_eq : ∀ (f : Nat) (t : List Int) (k step : Nat), numI f t k step = (List.range k).map fun x => numS f t (x + 1) k step
  | 0, t, k, step => by
    simp only [numI, numS]
    apply List.ext_getElem <;> simp
  | f + 1, t, k, step => by
    have h0 : List.replicate k (1 : Int) = (List.range k).map fun _ => 1 := by apply List.ext_getElem <;> simp
    simp only [numI]
    rw [h0]
    have := foldl_points k (fun o (b : List Int) x => wrap64 (o * sumW ((numI f b k step).drop (x + step)))) (brs t) (fun _ => 1)
    unfold numStep
    rw [this]
    apply List.map_congr_left
    intro x hx
    simp only [numS]
    congr 1
    funext o b
    congr 3
    rw [numI_eq f b k step]
    apply List.ext_getElem
    · simp; omega
    · intro i h1 h2
      simp
      congr 1
      omega

theorem numI_len (f : Nat) (t : List Int) (k step : Nat) : (numI f t k step).length = k := by rw [numI_eq]; simp

/-- What CountRising (gap 0) and CountStrict (gap 1) return, with the code. -/
def countNum (t : List Int) (k : Int) (gap : Nat) : Int × Int :=
  if lev8 t = true then (if inR k 0 10 = true then (sumW (numI 9 t k.toNat gap), 0) else (0, 2)) else (0, 1)

end Go.Proofs.YtacbkjmkjpjhoaaGreat
