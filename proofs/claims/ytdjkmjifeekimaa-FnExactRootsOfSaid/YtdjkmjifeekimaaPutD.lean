/- The least of trees, and sums of counted trees: plain. -/
import Derived.Test.YtdjkmjifeekimaaRootP
set_option linter.unusedSimpArgs false
set_option linter.unusedVariables false
namespace Go.Proofs.Ytdjkmjifeekimaa
open Go.RowKit

/-- The first of the least trees. -/
def minT : List (List Int) → List Int
  | [] => []
  | t :: ts => ts.foldl (fun m x => if cmpT x m < 0 then x else m) t

theorem minT_snoc (t : List Int) (ts : List (List Int)) (x : List Int) : minT (t :: ts ++ [x]) = if cmpT x (minT (t :: ts)) < 0 then x else minT (t :: ts) := by
  show (ts ++ [x]).foldl (fun m x => if cmpT x m < 0 then x else m) t = _
  rw [List.foldl_append]; rfl

/-- A counted tree is put into a rising sum. -/
def putC : List (List Int × Int) → List Int → Int → List (List Int × Int)
  | [], t, n => [(t, n)]
  | (x, c) :: s, t, n => if cmpT x t < 0 then (x, c) :: putC s t n else if x = t then (x, c + n) :: s else (t, n) :: (x, c) :: s

/-- A rising sum. -/
def RiseC (s : List (List Int × Int)) : Prop := s.Pairwise fun a b => cmpT a.1 b.1 < 0

theorem putC_mem : ∀ (s : List (List Int × Int)) (t : List Int) (n : Int) (z : List Int × Int), z ∈ putC s t n → z.1 = t ∨ z ∈ s
  | [], t, n, z, h => by simp [putC] at h; simp [h]
  | (x, c) :: s, t, n, z, h => by
    unfold putC at h
    split at h
    · rcases List.mem_cons.1 h with rfl | h
      · exact .inr (by simp)
      · rcases putC_mem s t n z h with h | h
        · exact .inl h
        · exact .inr (by simp [h])
    · split at h
      · rename_i e; subst e
        rcases List.mem_cons.1 h with rfl | h
        · exact .inl rfl
        · exact .inr (by simp [h])
      · rcases List.mem_cons.1 h with rfl | h
        · exact .inl rfl
        · exact .inr h

theorem cmpT_eq_of {x t : List Int} (h1 : ¬ cmpT x t < 0) (h2 : ¬ x = t) : cmpT t x < 0 := by
  have hz := cmpT_cmp.zero x t
  have ha := cmpT_cmp.anti t x
  by_cases h : cmpT x t = 0
  · exact absurd (hz h) h2
  · exact ha.2 (by omega)

theorem cmpT_lt_trans {a b d : List Int} (h1 : cmpT a b < 0) (h2 : cmpT b d < 0) : cmpT a d < 0 := by
  have h3 := cmpT_cmp.trans a b d (by omega) (by omega)
  by_cases h : cmpT a d = 0
  · have e := cmpT_cmp.zero a d h
    subst e
    have := (cmpT_cmp.anti a b).1 h1
    omega
  · omega

theorem putC_rise : ∀ (s : List (List Int × Int)) (t : List Int) (n : Int), RiseC s → RiseC (putC s t n)
  | [], t, n, _ => by simp [putC, RiseC]
  | (x, c) :: s, t, n, h => by
    have h' := List.pairwise_cons.1 h
    unfold putC
    split
    · rename_i hlt
      refine List.pairwise_cons.2 ⟨fun z hz => ?_, putC_rise s t n h'.2⟩
      rcases putC_mem s t n z hz with e | e
      · rw [e]; exact hlt
      · exact h'.1 z e
    · split
      · exact List.pairwise_cons.2 ⟨h'.1, h'.2⟩
      · rename_i h1 h2
        refine List.pairwise_cons.2 ⟨fun z hz => ?_, h⟩
        have hx := cmpT_eq_of h1 h2
        rcases List.mem_cons.1 hz with rfl | hz
        · exact hx
        · exact cmpT_lt_trans hx (h'.1 z hz)

theorem putC_len : ∀ (s : List (List Int × Int)) (t : List Int) (n : Int), (putC s t n).length ≤ s.length + 1
  | [], t, n => by simp [putC]
  | (x, c) :: s, t, n => by
    have := putC_len s t n
    unfold putC
    split
    · simp; omega
    · split <;> simp

/-- The trees of a list, each with its count. -/
def sumOf (ts : List (List Int)) : List (List Int × Int) := ts.foldl (fun s t => putC s t 1) []

theorem sumOf_snoc (ts : List (List Int)) (t : List Int) : sumOf (ts ++ [t]) = putC (sumOf ts) t 1 := by simp [sumOf, List.foldl_append]

theorem foldl_putC_len : ∀ (ts : List (List Int)) (s : List (List Int × Int)), (ts.foldl (fun s t => putC s t 1) s).length ≤ s.length + ts.length
  | [], s => by simp
  | t :: ts, s => by
    have h1 := foldl_putC_len ts (putC s t 1)
    have h2 := putC_len s t 1
    simp only [List.foldl_cons, List.length_cons]
    omega

theorem sumOf_len (ts : List (List Int)) : (sumOf ts).length ≤ ts.length := by simpa [sumOf] using foldl_putC_len ts []

theorem foldl_putC_rise : ∀ (ts : List (List Int)) (s : List (List Int × Int)), RiseC s → RiseC (ts.foldl (fun s t => putC s t 1) s)
  | [], _, h => h
  | t :: ts, s, h => foldl_putC_rise ts _ (putC_rise s t 1 h)

theorem sumOf_rise (ts : List (List Int)) : RiseC (sumOf ts) := foldl_putC_rise ts [] List.Pairwise.nil

/-- The first tree of a sum. -/
def headT (s : List (List Int × Int)) : List Int := match s with | [] => [] | z :: _ => z.1

theorem headT_putC (z : List Int × Int) (s : List (List Int × Int)) (t : List Int) (n : Int) :
    headT (putC (z :: s) t n) = if cmpT t (headT (z :: s)) < 0 then t else headT (z :: s) := by
  obtain ⟨x, c⟩ := z
  have ha := cmpT_cmp.anti x t
  show headT (putC ((x, c) :: s) t n) = if cmpT t x < 0 then t else x
  unfold putC
  split
  · rename_i h
    have := ha.1 h
    rw [if_neg (by omega)]; rfl
  · split
    · rename_i h1 h2
      subst h2
      rw [if_neg (by rw [cmpT_cmp.refl]; omega)]; rfl
    · rename_i h1 h2
      rw [if_pos (cmpT_eq_of h1 h2)]; rfl

theorem putC_cons (s : List (List Int × Int)) (t : List Int) (n : Int) : ∃ z s', putC s t n = z :: s' := by
  rcases s with _ | ⟨⟨x, c⟩, s⟩
  · exact ⟨_, _, rfl⟩
  · unfold putC
    split
    · exact ⟨_, _, rfl⟩
    · split
      · exact ⟨_, _, rfl⟩
      · exact ⟨_, _, rfl⟩

theorem headT_foldl : ∀ (ts : List (List Int)) (z : List Int × Int) (s : List (List Int × Int)),
    headT (ts.foldl (fun s t => putC s t 1) (z :: s)) = ts.foldl (fun m x => if cmpT x m < 0 then x else m) (headT (z :: s))
  | [], _, _ => rfl
  | t :: ts, z, s => by
    obtain ⟨z', s', e⟩ := putC_cons (z :: s) t 1
    rw [List.foldl_cons, List.foldl_cons, ← headT_putC z s t 1, e]
    exact headT_foldl ts z' s'

theorem headT_sumOf (ts : List (List Int)) : headT (sumOf ts) = minT ts := by
  rcases ts with _ | ⟨t, ts⟩
  · rfl
  · exact headT_foldl ts (t, 1) []

/-- A sixtieth of the level lists. -/
def piece8 (i : Nat) : List (List Int) := (lists8.drop (60 * i)).take 60

theorem lists8_len : lists8.length = 626 := by decide +kernel

theorem pieces_all {p : List Int → Bool} (h : ∀ i, i < 11 → (piece8 i).all p = true) : lists8.all p = true := by
  refine List.all_eq_true.2 fun t ht => ?_
  obtain ⟨n, hn, rfl⟩ := List.getElem_of_mem ht
  have hl := lists8_len
  refine List.all_eq_true.1 (h (n / 60) (by omega)) _ ?_
  refine List.mem_iff_getElem.2 ⟨n % 60, ?_, ?_⟩
  · simp [piece8, hl]; omega
  · simp only [piece8, List.getElem_take, List.getElem_drop]
    congr 1; omega

end Go.Proofs.Ytdjkmjifeekimaa
