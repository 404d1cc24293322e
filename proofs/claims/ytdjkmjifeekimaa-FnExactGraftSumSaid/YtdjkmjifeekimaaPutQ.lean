/- Sums of counted trees; plain. -/
import Derived.Test.YtdjkmjifeekimaaRootP
set_option linter.unusedSimpArgs false
set_option linter.unusedVariables false
/- The least of trees, and sums of counted trees: plain. -/
namespace Go.Proofs.Ytdjkmjifeekimaa
open Go.RowKit

/-- The first of the least trees. -/
def minT : List (List Int) → List Int
  | [] => []
  | t :: ts => ts.foldl (fun m x => if cmpT x m < 0 then x else m) t

theorem minT_snoc (t : List Int) (ts : List (List Int)) (x : List Int) : minT (t :: ts ++ [x]) = if cmpT x (minT (t :: ts)) < 0 then x else minT (t :: ts) := by
  show (ts ++ [x]).foldl (fun m x => if cmpT x m < 0 then x else m) t = _
  rw [List.foldl_append]; rfl

/-- A counted tree is put into a rising sum. -/
def putC : List (List Int × Int) → List Int → Int → List (List Int × Int)
  | [], t, n => [(t, n)]
  | (x, c) :: s, t, n => if cmpT x t < 0 then (x, c) :: putC s t n else if x = t then (x, c + n) :: s else (t, n) :: (x, c) :: s

/-- A rising sum. -/
def RiseC (s : List (List Int × Int)) : Prop := s.Pairwise fun a b => cmpT a.1 b.1 < 0

theorem putC_mem : ∀ (s : List (List Int × Int)) (t : List Int) (n : Int) (z : List Int × Int), z ∈ putC s t n → z.1 = t ∨ z ∈ s
  | [], t, n, z, h => by simp [putC] at h; simp [h]
  | (x, c) :: s, t, n, z, h => by
    unfold putC at h
    split at h
    · rcases List.mem_cons.1 h with rfl | h
      · exact .inr (by simp)
      · rcases putC_mem s t n z h with h | h
        · exact .inl h
        · exact .inr (by simp [h])
    · split at h
      · rename_i e; subst e
        rcases List.mem_cons.1 h with rfl | h
        · exact .inl rfl
        · exact .inr (by simp [h])
      · rcases List.mem_cons.1 h with rfl | h
        · exact .inl rfl
        · exact .inr h

theorem cmpT_eq_of {x t : List Int} (h1 : ¬ cmpT x t < 0) (h2 : ¬ x = t) : cmpT t x < 0 := by
  have hz := cmpT_cmp.zero x t
  have ha := cmpT_cmp.anti t x
  by_cases h : cmpT x t = 0
  · exact absurd (hz h) h2
  · exact ha.2 (by omega)

theorem cmpT_lt_trans {a b d : List Int} (h1 : cmpT a b < 0) (h2 : cmpT b d < 0) : cmpT a d < 0 := by
  have h3 := cmpT_cmp.trans a b d (by omega) (by omega)
  by_cases h : cmpT a d = 0
  · have e := cmpT_cmp.zero a d h
    subst e
    have := (cmpT_cmp.anti a b).1 h1
    omega
  · omega

theorem putC_rise : ∀ (s : List (List Int × Int)) (t : List Int) (n : Int), RiseC s → RiseC (putC s t n)
  | [], t, n, _ => by simp [putC, RiseC]
  | (x, c) :: s, t, n, h => by
    have h' := List.pairwise_cons.1 h
    unfold putC
    split
    · rename_i hlt
      refine List.pairwise_cons.2 ⟨fun z hz => ?_, putC_rise s t n h'.2⟩
      rcases putC_mem s t n z hz with e | e
      · rw [e]; exact hlt
      · exact h'.1 z e
    · split
      · exact List.pairwise_cons.2 ⟨h'.1, h'.2⟩
      · rename_i h1 h2
        refine List.pairwise_cons.2 ⟨fun z hz => ?_, h⟩
        have hx := cmpT_eq_of h1 h2
        rcases List.mem_cons.1 hz with rfl | hz
        · exact hx
        · exact cmpT_lt_trans hx (h'.1 z hz)

theorem putC_len : ∀ (s : List (List Int × Int)) (t : List Int) (n : Int), (putC s t n).length ≤ s.length + 1
  | [], t, n => by simp [putC]
  | (x, c) :: s, t, n => by
    have := putC_len s t n
    unfold putC
    split
    · simp; omega
    · split <;> simp

/-- The trees of a list, each with its count. -/
def sumOf (ts : List (List Int)) : List (List Int × Int) := ts.foldl (fun s t => putC s t 1) []

theorem sumOf_snoc (ts : List (List Int)) (t : List Int) : sumOf (ts ++ [t]) = putC (sumOf ts) t 1 := by simp [sumOf, List.foldl_append]

theorem foldl_putC_len : ∀ (ts : List (List Int)) (s : List (List Int × Int)), (ts.foldl (fun s t => putC s t 1) s).length ≤ s.length + ts.length
  | [], s => by simp
  | t :: ts, s => by
    have h1 := foldl_putC_len ts (putC s t 1)
    have h2 := putC_len s t 1
    simp only [List.foldl_cons, List.length_cons]
    omega

theorem sumOf_len (ts : List (List Int)) : (sumOf ts).length ≤ ts.length := by simpa [sumOf] using foldl_putC_len ts []

theorem foldl_putC_rise : ∀ (ts : List (List Int)) (s : List (List Int × Int)), RiseC s → RiseC (ts.foldl (fun s t => putC s t 1) s)
  | [], _, h => h
  | t :: ts, s, h => foldl_putC_rise ts _ (putC_rise s t 1 h)

theorem sumOf_rise (ts : List (List Int)) : RiseC (sumOf ts) := foldl_putC_rise ts [] List.Pairwise.nil

/-- The first tree of a sum. -/
def headT (s : List (List Int × Int)) : List Int := match s with | [] => [] | z :: _ => z.1

theorem headT_putC (z : List Int × Int) (s : List (List Int × Int)) (t : List Int) (n : Int) :
    headT (putC (z :: s) t n) = if cmpT t (headT (z :: s)) < 0 then t else headT (z :: s) := by
  obtain ⟨x, c⟩ := z
  have ha := cmpT_cmp.anti x t
  show headT (putC ((x, c) :: s) t n) = if cmpT t x < 0 then t else x
  unfold putC
  split
  · rename_i h
    have := ha.1 h
    rw [if_neg (by omega)]; rfl
  · split
    · rename_i h1 h2
      subst h2
      rw [if_neg (by rw [cmpT_cmp.refl]; omega)]; rfl
    · rename_i h1 h2
      rw [if_pos (cmpT_eq_of h1 h2)]; rfl

theorem putC_cons (s : List (List Int × Int)) (t : List Int) (n : Int) : ∃ z s', putC s t n = z :: s' := by
  rcases s with _ | ⟨⟨x, c⟩, s⟩
  · exact ⟨_, _, rfl⟩
  · unfold putC
    split
    · exact ⟨_, _, rfl⟩
    · split
      · exact ⟨_, _, rfl⟩
      · exact ⟨_, _, rfl⟩

theorem headT_foldl : ∀ (ts : List (List Int)) (z : List Int × Int) (s : List (List Int × Int)),
    headT (ts.foldl (fun s t => putC s t 1) (z :: s)) = ts.foldl (fun m x => if cmpT x m < 0 then x else m) (headT (z :: s))
  | [], _, _ => rfl
  | t :: ts, z, s => by
    obtain ⟨z', s', e⟩ := putC_cons (z :: s) t 1
    rw [List.foldl_cons, List.foldl_cons, ← headT_putC z s t 1, e]
    exact headT_foldl ts z' s'

theorem headT_sumOf (ts : List (List Int)) : headT (sumOf ts) = minT ts := by
  rcases ts with _ | ⟨t, ts⟩
  · rfl
  · exact headT_foldl ts (t, 1) []

/-- A sixtieth of the level lists. -/
def piece8 (i : Nat) : List (List Int) := (lists8.drop (60 * i)).take 60

theorem lists8_len : lists8.length = 626 := by decide +kernel

theorem pieces_all {p : List Int → Bool} (h : ∀ i, i < 11 → (piece8 i).all p = true) : lists8.all p = true := by
  refine List.all_eq_true.2 fun t ht => ?_
  obtain ⟨n, hn, rfl⟩ := List.getElem_of_mem ht
  have hl := lists8_len
  refine List.all_eq_true.1 (h (n / 60) (by omega)) _ ?_
  refine List.mem_iff_getElem.2 ⟨n % 60, ?_, ?_⟩
  · simp [piece8, hl]; omega
  · simp only [piece8, List.getElem_take, List.getElem_drop]
    congr 1; omega

end Go.Proofs.Ytdjkmjifeekimaa

/- A counted tree is put into a rising sum: the loops' way, plain. -/
namespace Go.Proofs.Ytdjkmjifeekimaa
open Go.RowKit

/-- An element of the sum as it is copied. -/
def putEl (t : List Int) (n : Int) (z : List Int × Int) : List Int × Int := (z.1, if z.1 = t then z.2 + n else z.2)

/-- What the loop has copied before round i; k is the place of the new tree. -/
def putTo (s : List (List Int × Int)) (t : List Int) (n : Int) (k : Nat) : Nat → List (List Int × Int)
  | 0 => []
  | i + 1 => (if i = k ∧ (s.getD i ([], 0)).1 ≠ t then putTo s t n k i ++ [(t, n)] else putTo s t n k i) ++ [putEl t n (s.getD i ([], 0))]

theorem putTo_len (s : List (List Int × Int)) (t : List Int) (n : Int) (k : Nat) : ∀ i, (putTo s t n k i).length ≤ i + (if k < i then 1 else 0)
  | 0 => by simp [putTo]
  | i + 1 => by
    have := putTo_len s t n k i
    unfold putTo
    split
    · rename_i h
      rw [if_pos (by omega)]
      rw [if_neg (by omega)] at this
      simp; omega
    · simp only [List.length_append, List.length_singleton]
      split at this <;> split <;> omega

theorem putC_app : ∀ (p q : List (List Int × Int)) (t : List Int) (n : Int), (∀ z ∈ p, cmpT z.1 t < 0) → putC (p ++ q) t n = p ++ putC q t n
  | [], _, _, _, _ => rfl
  | (x, c) :: p, q, t, n, h => by
    rw [List.cons_append, List.cons_append, ← putC_app p q t n (fun z hz => h z (by simp [hz])), putC, if_pos (h (x, c) (by simp))]

theorem putEl_ne {t : List Int} {n : Int} {z : List Int × Int} (h : z.1 ≠ t) : putEl t n z = z := by unfold putEl; rw [if_neg h]

theorem cmpT_ne {x t : List Int} (h : cmpT x t < 0) : x ≠ t := fun e => by rw [e, cmpT_cmp.refl] at h; omega

theorem putTo_low (p q : List (List Int × Int)) (t : List Int) (n : Int) (h : ∀ z ∈ p, cmpT z.1 t < 0) : ∀ i, i ≤ p.length → putTo (p ++ q) t n p.length i = p.take i
  | 0, _ => by simp [putTo]
  | i + 1, hi => by
    have hg : (p ++ q).getD i ([], 0) = p[i]'(by omega) := by
      simp only [List.getD]
      rw [List.getElem?_append_left (by omega), List.getElem?_eq_getElem (by omega)]; rfl
    unfold putTo
    rw [if_neg (by omega), putTo_low p q t n h i (by omega), hg, putEl_ne (cmpT_ne (h _ (List.getElem_mem _))), List.take_succ_eq_append_getElem (by omega)]

theorem putTo_high (p r : List (List Int × Int)) (x : List Int) (c : Int) (t : List Int) (n : Int) (h : ∀ z ∈ p, cmpT z.1 t < 0) (hr : ∀ z ∈ r, z.1 ≠ t) :
    ∀ j, j ≤ r.length → putTo (p ++ (x, c) :: r) t n p.length (p.length + 1 + j) = p ++ (if x = t then [(x, c + n)] else [(t, n), (x, c)]) ++ r.take j
  | 0, _ => by
    show putTo (p ++ (x, c) :: r) t n p.length (p.length + 1) = _
    have hg : (p ++ (x, c) :: r).getD p.length ([], 0) = (x, c) := by simp [List.getD]
    unfold putTo
    rw [hg, putTo_low p _ t n h p.length (Nat.le_refl _), List.take_length]
    by_cases e : x = t
    · rw [if_neg (by simp [e]), if_pos e]; simp [putEl, e]
    · rw [if_pos ⟨rfl, e⟩, if_neg e]; simp [putEl, e]
  | j + 1, hj => by
    have hg : (p ++ (x, c) :: r).getD (p.length + 1 + j) ([], 0) = r[j] := by
      have e : p.length + 1 + j - p.length = j + 1 := by omega
      simp only [List.getD]
      rw [List.getElem?_append_right (by omega), e, List.getElem?_cons_succ, List.getElem?_eq_getElem (by omega)]; rfl
    show putTo (p ++ (x, c) :: r) t n p.length ((p.length + 1 + j) + 1) = _
    unfold putTo
    rw [if_neg (by omega), putTo_high p r x c t n h hr j (by omega), hg, putEl_ne (hr _ (List.getElem_mem _)), List.take_succ_eq_append_getElem (by omega), List.append_assoc]

/-- The loops' result. -/
theorem putTo_all (p q : List (List Int × Int)) (t : List Int) (n : Int) (hr : RiseC (p ++ q)) (h : ∀ z ∈ p, cmpT z.1 t < 0) (hq : ∀ z ∈ q.head?, ¬ cmpT z.1 t < 0) :
    putTo (p ++ q) t n p.length (p ++ q).length ++ (if p.length = (p ++ q).length then [(t, n)] else []) = putC (p ++ q) t n := by
  rw [putC_app p q t n h]
  rcases q with _ | ⟨⟨x, c⟩, r⟩
  · rw [if_pos (by simp), putTo_low p [] t n h _ (by simp)]
    simp [putC]
  · have hx : ¬ cmpT x t < 0 := hq (x, c) (by simp)
    have hp : RiseC ((x, c) :: r) := (List.pairwise_append.1 hr).2.1
    have hrn : ∀ z ∈ r, z.1 ≠ t := by
      intro z hz e
      have h1 : cmpT x z.1 < 0 := (List.pairwise_cons.1 hp).1 z hz
      rw [e] at h1
      exact hx h1
    have e : (p ++ (x, c) :: r).length = p.length + 1 + r.length := by simp; omega
    rw [e, if_neg (by omega), putTo_high p r x c t n h hrn r.length (Nat.le_refl _), List.take_length]
    unfold putC
    rw [if_neg hx]
    split
    · simp
    · simp
end Go.Proofs.Ytdjkmjifeekimaa

/- Equal trees that stand beside each other, counted; plain. -/
namespace Go.Proofs.Ytdjkmjifeekimaa

/-- One more thing, whose tree is f x: the last one's number goes up, or it stands behind. -/
def stepC {α : Type} (f : α → List Int) (out : List (α × Int)) (x : α) : List (α × Int) :=
  match out.getLast? with
  | some z => if f z.1 = f x then out.dropLast ++ [(z.1, z.2 + 1)] else out ++ [(x, 1)]
  | none => [(x, 1)]
def runsF {α : Type} (f : α → List Int) (xs : List α) : List (α × Int) := xs.foldl (stepC f) []
theorem runsF_snoc {α : Type} (f : α → List Int) (xs : List α) (x : α) : runsF f (xs ++ [x]) = stepC f (runsF f xs) x := by unfold runsF; rw [List.foldl_append]; rfl
theorem stepC_nil {α : Type} (f : α → List Int) (x : α) : stepC f [] x = [(x, 1)] := rfl
theorem stepC_eq {α : Type} (f : α → List Int) (out : List (α × Int)) (z : α × Int) (x : α) (h : f z.1 = f x) : stepC f (out ++ [z]) x = out ++ [(z.1, z.2 + 1)] := by
  unfold stepC; simp [h]
theorem stepC_ne {α : Type} (f : α → List Int) (out : List (α × Int)) (z : α × Int) (x : α) (h : ¬ f z.1 = f x) : stepC f (out ++ [z]) x = out ++ [z] ++ [(x, 1)] := by
  unfold stepC; simp [h]
theorem snoc_of {α : Type} {l : List α} (h : l ≠ []) : ∃ p z, l = p ++ [z] := ⟨l.dropLast, l.getLast h, (List.dropLast_concat_getLast h).symm⟩

/-- The things are some of those that were there, in their order; their numbers are not greater than how many there were. -/
theorem runsF_sub {α : Type} (f : α → List Int) : ∀ (n : Nat) (xs : List α), xs.length = n → ((runsF f xs).map (·.1)).Sublist xs ∧ ∀ z ∈ runsF f xs, 1 ≤ z.2 ∧ z.2 ≤ (n : Int)
  | 0, xs, h => by
    rw [List.eq_nil_of_length_eq_zero h]
    exact ⟨List.Sublist.slnil, fun z hz => by cases hz⟩
  | n + 1, xs, h => by
    obtain ⟨ys, x, rfl⟩ := snoc_of (l := xs) (by intro e; rw [e] at h; simp at h)
    have hl : ys.length = n := by simpa using h
    obtain ⟨h1, h2⟩ := runsF_sub f n ys hl
    rw [runsF_snoc]
    by_cases h0 : runsF f ys = []
    · rw [h0, stepC_nil]
      exact ⟨by simp, fun z hz => by simp at hz; subst hz; simp; omega⟩
    · obtain ⟨out, z, e⟩ := snoc_of h0
      rw [e] at h1 h2 ⊢
      by_cases he : f z.1 = f x
      · rw [stepC_eq f out z x he]
        refine ⟨?_, fun q hq => ?_⟩
        · simp only [List.map_append, List.map_cons, List.map_nil] at h1 ⊢
          exact h1.trans (List.sublist_append_left _ _)
        · rcases List.mem_append.1 hq with hq | hq
          · have := h2 q (by simp [hq]); omega
          · have := h2 z (by simp)
            simp at hq; subst hq
            simp only; omega
      · rw [stepC_ne f out z x he]
        refine ⟨?_, fun q hq => ?_⟩
        · rw [List.map_append]
          exact List.Sublist.append h1 (List.Sublist.refl _)
        · rcases List.mem_append.1 hq with hq | hq
          · have := h2 q hq; omega
          · simp at hq; subst hq; simp only; omega
/-- Where the trees come from does not matter. -/
theorem runsF_map {α : Type} (f : α → List Int) : ∀ (n : Nat) (xs : List α), xs.length = n → (runsF f xs).map (fun z => (f z.1, z.2)) = runsF id (xs.map f)
  | 0, xs, h => by rw [List.eq_nil_of_length_eq_zero h]; rfl
  | n + 1, xs, h => by
    obtain ⟨ys, x, rfl⟩ := snoc_of (l := xs) (by intro e; rw [e] at h; simp at h)
    have hl : ys.length = n := by simpa using h
    have ih := runsF_map f n ys hl
    rw [List.map_append, List.map_cons, List.map_nil, runsF_snoc, runsF_snoc, ← ih]
    by_cases h0 : runsF f ys = []
    · rw [h0]; rfl
    · obtain ⟨out, z, e⟩ := snoc_of h0
      rw [e, List.map_append, List.map_cons, List.map_nil]
      by_cases he : f z.1 = f x
      · rw [stepC_eq f out z x he, stepC_eq id _ (f z.1, z.2) (f x) he]; simp
      · rw [stepC_ne f out z x he, stepC_ne id _ (f z.1, z.2) (f x) he]; simp

/-- The things in order, counted. -/
def cntOf (ts : List (List Int)) : List (List Int × Int) := runsF id (sortC cmpT ts)
end Go.Proofs.Ytdjkmjifeekimaa
