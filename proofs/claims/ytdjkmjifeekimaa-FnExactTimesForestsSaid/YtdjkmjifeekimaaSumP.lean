/- Formal sums over an ordered set with coefficients modulo a prime: normal forms; plain. -/
import Derived.Test.YtdjkmjifeekimaaSort
set_option linter.unusedSimpArgs false
set_option linter.unusedVariables false
namespace Go.Proofs.Ytdjkmjifeekimaa

/-- A number modulo the prime. -/
def mP (n : Int) : Int := n % 10007

section
variable {κ : Type} (c : κ → κ → Int)

/-- One more summand, put where it belongs. -/
def putS : List (Int × κ) → Int → κ → List (Int × κ)
  | [], k, x => if k = 0 then [] else [(k, x)]
  | (a, y) :: L, k, x => if k = 0 then (a, y) :: L else if c x y < 0 then (k, x) :: (a, y) :: L
      else if c x y = 0 then (if mP (a + k) = 0 then L else (mP (a + k), y) :: L) else (a, y) :: putS L k x
/-- The sum of summands, in their order. -/
def addS (L : List (Int × κ)) (M : List (Int × κ)) : List (Int × κ) := M.foldl (fun s q => putS c s q.1 q.2) L
def sumS (M : List (Int × κ)) : List (Int × κ) := addS c [] M

/-- The coefficient of x, not reduced. -/
def coef (L : List (Int × κ)) (x : κ) : Int :=
  match L with
  | [] => 0
  | q :: L => (if c q.2 x = 0 then q.1 else 0) + coef L x

/-- Normal: rising, no coefficient 0. -/
def NfS (L : List (Int × κ)) : Prop := L.Pairwise (fun p q => c p.2 q.2 < 0) ∧ ∀ q ∈ L, 1 ≤ q.1 ∧ q.1 < 10007
end

section
variable {κ : Type} {c : κ → κ → Int} (hc : Cmp c)

theorem mP_range (n : Int) : 0 ≤ mP n ∧ mP n < 10007 := ⟨Int.emod_nonneg _ (by decide), Int.emod_lt_of_pos _ (by decide)⟩
theorem mP_small {n : Int} (h : 0 ≤ n) (h' : n < 10007) : mP n = n := Int.emod_eq_of_lt h h'
theorem mP_mP_add (a b : Int) : mP (mP a + b) = mP (a + b) := by unfold mP; omega
theorem mP_add_mP (a b : Int) : mP (a + mP b) = mP (a + b) := by unfold mP; omega

theorem coef_cons (q : Int × κ) (L : List (Int × κ)) (x : κ) : coef c (q :: L) x = (if c q.2 x = 0 then q.1 else 0) + coef c L x := rfl
theorem coef_append (x : κ) : ∀ (L M : List (Int × κ)), coef c (L ++ M) x = coef c L x + coef c M x
  | [], M => by simp [coef]
  | q :: L, M => by rw [List.cons_append, coef_cons, coef_cons, coef_append x L M]; omega
theorem coef_perm {L M : List (Int × κ)} (h : L.Perm M) (x : κ) : coef c L x = coef c M x := by
  induction h with
  | nil => rfl
  | cons q _ ih => rw [coef_cons, coef_cons, ih]
  | swap p q L => simp only [coef_cons]; omega
  | trans _ _ h1 h2 => rw [h1, h2]
theorem coef_zero {L : List (Int × κ)} {x : κ} (h : ∀ q ∈ L, c q.2 x ≠ 0) : coef c L x = 0 := by
  induction L with
  | nil => rfl
  | cons q L ih => rw [coef_cons, if_neg (h q (by simp)), ih (fun p hp => h p (by simp [hp]))]; rfl

theorem nil_or_snoc {α : Type} (l : List α) : l = [] ∨ ∃ o x, l = o ++ [x] := by
  rcases List.eq_nil_or_concat l with h | ⟨o, x, h⟩
  · exact .inl h
  · exact .inr ⟨o, x, by rw [h, List.concat_eq_append]⟩

include hc

theorem Cmp.eq_swap {a b : κ} (h : c a b = 0) : c b a = 0 := by rw [hc.zero a b h]; exact hc.refl b
theorem Cmp.lt_ne {a b : κ} (h : c a b < 0) : c b a ≠ 0 := by
  intro e
  have := hc.zero b a e
  subst this
  rw [hc.refl] at h; omega
theorem Cmp.lt_tr {a b d : κ} (h1 : c a b < 0) (h2 : c b d < 0) : c a d < 0 := by
  rcases Int.lt_trichotomy (c a d) 0 with h | h | h
  · exact h
  · have := hc.zero a d h
    subst this
    have := (hc.anti a b).1 h1
    omega
  · have := hc.trans a b d (by omega) (by omega)
    omega

/-- Two normal sums with the same coefficients are the same. -/
theorem NfS.ext : ∀ {L M : List (Int × κ)}, NfS c L → NfS c M → (∀ x, mP (coef c L x) = mP (coef c M x)) → L = M
  | [], [], _, _, _ => rfl
  | [], (b, z) :: M, _, ⟨h2, h3⟩, he => by
    exfalso
    rw [List.pairwise_cons] at h2
    have h0 : coef c M z = 0 := coef_zero (fun q hq => hc.lt_ne (h2.1 q hq))
    have := he z
    rw [coef_cons, if_pos (hc.refl z), h0] at this
    have hb := h3 (b, z) (by simp)
    simp at hb
    simp [coef, mP] at this
    omega
  | (a, y) :: L, [], ⟨h2, h3⟩, _, he => by
    exfalso
    rw [List.pairwise_cons] at h2
    have h0 : coef c L y = 0 := coef_zero (fun q hq => hc.lt_ne (h2.1 q hq))
    have := he y
    rw [coef_cons, if_pos (hc.refl y), h0] at this
    have hb := h3 (a, y) (by simp)
    simp at hb
    simp [coef, mP] at this
    omega
  | (a, y) :: L, (b, z) :: M, ⟨h1, h1'⟩, ⟨h2, h2'⟩, he => by
    have w1 := h1; have w2 := h2
    rw [List.pairwise_cons] at h1 h2
    have ha := h1' (a, y) (by simp)
    have hb := h2' (b, z) (by simp)
    simp only at ha hb
    have hy0 : coef c L y = 0 := coef_zero (fun q hq => hc.lt_ne (h1.1 q hq))
    have hz0 : coef c M z = 0 := coef_zero (fun q hq => hc.lt_ne (h2.1 q hq))
    rcases Int.lt_trichotomy (c y z) 0 with h | h | h
    · exfalso
      have h4 : coef c ((b, z) :: M) y = 0 := coef_zero (fun q hq => by
        rcases List.mem_cons.1 hq with rfl | hq
        · exact hc.lt_ne h
        · exact hc.lt_ne (hc.lt_tr h (h2.1 q hq)))
      have := he y
      rw [h4, coef_cons, if_pos (hc.refl y), hy0] at this
      simp [mP] at this
      omega
    · obtain rfl := hc.zero y z h
      have hab : a = b := by
        have := he y
        rw [coef_cons, coef_cons, if_pos (hc.refl y), if_pos (hc.refl y), hy0, hz0] at this
        simp [mP] at this
        omega
      subst hab
      have := NfS.ext (L := L) (M := M) ⟨h1.2, fun q hq => h1' q (by simp [hq])⟩ ⟨h2.2, fun q hq => h2' q (by simp [hq])⟩ (fun x => by
        have := he x
        rw [coef_cons, coef_cons] at this
        unfold mP at this ⊢
        omega)
      rw [this]
    · exfalso
      have h := (hc.anti z y).2 h
      have h4 : coef c ((a, y) :: L) z = 0 := coef_zero (fun q hq => by
        rcases List.mem_cons.1 hq with rfl | hq
        · exact hc.lt_ne h
        · exact hc.lt_ne (hc.lt_tr h (h1.1 q hq)))
      have := he z
      rw [h4, coef_cons, if_pos (hc.refl z), hz0] at this
      simp [mP] at this
      omega

omit hc in
theorem putS_mem : ∀ (L : List (Int × κ)) (k : Int) (x : κ) {q : Int × κ}, q ∈ putS c L k x → q.2 = x ∨ ∃ p ∈ L, p.2 = q.2
  | [], k, x, q, h => by
    unfold putS at h
    split at h
    · cases h
    · simp at h; subst h; exact .inl rfl
  | (a, y) :: L, k, x, q, h => by
    unfold putS at h
    split at h
    · exact .inr ⟨q, h, rfl⟩
    · split at h
      · rcases List.mem_cons.1 h with rfl | h
        · exact .inl rfl
        · exact .inr ⟨q, h, rfl⟩
      · split at h
        · split at h
          · exact .inr ⟨q, by simp [h], rfl⟩
          · rcases List.mem_cons.1 h with rfl | h
            · exact .inr ⟨(a, y), by simp, rfl⟩
            · exact .inr ⟨q, by simp [h], rfl⟩
        · rcases List.mem_cons.1 h with rfl | h
          · exact .inr ⟨(a, y), by simp, rfl⟩
          · rcases putS_mem L k x h with h | ⟨p, h1, h2⟩
            · exact .inl h
            · exact .inr ⟨p, by simp [h1], h2⟩

theorem putS_nf : ∀ {L : List (Int × κ)} {k : Int} {x : κ}, NfS c L → 0 ≤ k → k < 10007 → NfS c (putS c L k x)
  | [], k, x, h, h0, h1 => by
    unfold putS
    split
    · exact h
    · exact ⟨List.pairwise_singleton _ _, fun q hq => by simp at hq; subst hq; simp; omega⟩
  | (a, y) :: L, k, x, ⟨h2, h3⟩, h0, h1 => by
    have hw := h2
    rw [List.pairwise_cons] at h2
    have ha := h3 (a, y) (by simp)
    simp only at ha
    unfold putS
    split
    · exact ⟨hw, h3⟩
    · split
      · rename_i hk hlt
        refine ⟨List.pairwise_cons.2 ⟨fun q hq => ?_, hw⟩, fun q hq => ?_⟩
        · rcases List.mem_cons.1 hq with rfl | hq
          · exact hlt
          · exact hc.lt_tr hlt (h2.1 q hq)
        · rcases List.mem_cons.1 hq with rfl | hq
          · simp; omega
          · exact h3 q hq
      · split
        · split
          · exact ⟨h2.2, fun q hq => h3 q (by simp [hq])⟩
          · refine ⟨List.pairwise_cons.2 ⟨h2.1, h2.2⟩, fun q hq => ?_⟩
            rcases List.mem_cons.1 hq with rfl | hq
            · have := mP_range (a + k); simp only; omega
            · exact h3 q (by simp [hq])
        · rename_i hk hnl hne
          have ih := putS_nf (k := k) (x := x) ⟨h2.2, fun q hq => h3 q (by simp [hq])⟩ h0 h1
          have hyx : c y x < 0 := by
            rcases Int.lt_trichotomy (c x y) 0 with h | h | h
            · exact absurd h hnl
            · exact absurd h hne
            · exact (hc.anti y x).2 h
          refine ⟨List.pairwise_cons.2 ⟨fun q hq => ?_, ih.1⟩, fun q hq => ?_⟩
          · rcases putS_mem L k x hq with h | ⟨p, hp, h⟩
            · rw [h]; exact hyx
            · rw [← h]; exact h2.1 p hp
          · rcases List.mem_cons.1 hq with rfl | hq
            · exact ha
            · exact ih.2 q hq

theorem putS_coef (z : κ) : ∀ (L : List (Int × κ)) (k : Int) (x : κ), mP (coef c (putS c L k x) z) = mP (coef c L z + if c x z = 0 then k else 0)
  | [], k, x => by
    unfold putS
    split
    · rename_i h; subst h; simp
    · simp [coef]
  | (a, y) :: L, k, x => by
    unfold putS
    split
    · rename_i h; subst h; simp
    · split
      · rw [coef_cons]; congr 1; simp only; omega
      · split
        · rename_i h
          obtain rfl := hc.zero x y h
          split
          · rename_i h4
            rw [coef_cons]
            by_cases h5 : c x z = 0
            · simp only [if_pos h5]; unfold mP at h4 ⊢; omega
            · simp only [if_neg h5]; congr 1; omega
          · rw [coef_cons, coef_cons]
            by_cases h5 : c x z = 0
            · simp only [if_pos h5]; unfold mP; omega
            · simp only [if_neg h5]; congr 1; omega
        · rw [coef_cons, coef_cons]
          have ih := putS_coef z L k x
          unfold mP at ih ⊢
          omega

theorem addS_nf : ∀ {M L : List (Int × κ)}, NfS c L → (∀ q ∈ M, 0 ≤ q.1 ∧ q.1 < 10007) → NfS c (addS c L M)
  | [], L, h, _ => h
  | q :: M, L, h, hM => addS_nf (M := M) (putS_nf hc h (hM q (by simp)).1 (hM q (by simp)).2) (fun p hp => hM p (by simp [hp]))
theorem addS_coef (z : κ) : ∀ (M L : List (Int × κ)), mP (coef c (addS c L M) z) = mP (coef c L z + coef c M z)
  | [], L => by simp [addS, coef]
  | q :: M, L => by
    show mP (coef c (addS c (putS c L q.1 q.2) M) z) = _
    have h1 := addS_coef z M (putS c L q.1 q.2)
    have h2 := putS_coef hc z L q.1 q.2
    rw [h1, coef_cons]
    unfold mP at h2 ⊢
    omega
theorem sumS_nf {M : List (Int × κ)} (hM : ∀ q ∈ M, 0 ≤ q.1 ∧ q.1 < 10007) : NfS c (sumS c M) := addS_nf hc ⟨List.Pairwise.nil, fun q hq => nomatch hq⟩ hM
theorem sumS_coef (M : List (Int × κ)) (z : κ) : mP (coef c (sumS c M) z) = mP (coef c M z) := by
  have := addS_coef hc z M []
  rw [show coef c [] z = 0 from rfl, Int.zero_add] at this
  exact this
/-- A normal sum is the sum of its summands. -/
theorem sumS_self {L : List (Int × κ)} (h : NfS c L) : sumS c L = L :=
  NfS.ext hc (sumS_nf hc (fun q hq => by have := h.2 q hq; omega)) h (fun x => sumS_coef hc L x)
theorem sumS_perm {L M : List (Int × κ)} (h : L.Perm M) (hM : ∀ q ∈ M, 0 ≤ q.1 ∧ q.1 < 10007) : sumS c L = sumS c M :=
  NfS.ext hc (sumS_nf hc (fun q hq => hM q (h.subset hq))) (sumS_nf hc hM) (fun x => by rw [sumS_coef hc, sumS_coef hc, coef_perm h])

omit hc
/-- Adjacent equals of a sorted list added up (no summand left out): the list so far backwards. -/
def mergeTo (c : κ → κ → Int) : List (Int × κ) → List (Int × κ) → List (Int × κ)
  | out, [] => out
  | out, (a, x) :: M => mergeTo c (match out.getLast? with
    | some (b, y) => if c y x = 0 then out.dropLast ++ [(mP (b + a), y)] else out ++ [(mP a, x)]
    | none => [(mP a, x)]) M
include hc

theorem mergeTo_coef (z : κ) : ∀ (M out : List (Int × κ)), mP (coef c (mergeTo c out M) z) = mP (coef c out z + coef c M z)
  | [], out => by simp [mergeTo, coef]
  | (a, x) :: M, out => by
    unfold mergeTo
    rw [mergeTo_coef z M, coef_cons]
    rcases nil_or_snoc out with rfl | ⟨o, ⟨b, y⟩, rfl⟩
    · simp only [List.getLast?_nil, coef]
      by_cases h5 : c x z = 0
      · simp only [if_pos h5]; unfold mP; omega
      · simp only [if_neg h5]; unfold mP; omega
    · rw [List.getLast?_concat]
      simp only
      split
      · rename_i h
        obtain rfl := hc.zero y x h
        rw [List.dropLast_concat, coef_append, coef_append]
        simp only [coef]
        by_cases h5 : c y z = 0
        · simp only [if_pos h5]; unfold mP; omega
        · simp only [if_neg h5]; congr 1; omega
      · rw [coef_append]
        simp only [coef]
        by_cases h5 : c x z = 0
        · simp only [if_pos h5]; unfold mP; omega
        · simp only [if_neg h5]; unfold mP; omega

/-- Rising strictly, coefficients reduced, all below what is still to come. -/
theorem mergeTo_rise : ∀ (M out : List (Int × κ)), M.Pairwise (fun p q => c p.2 q.2 ≤ 0) → out.Pairwise (fun p q => c p.2 q.2 < 0) → (∀ p ∈ out, ∀ q ∈ M, c p.2 q.2 ≤ 0) → (∀ q ∈ out, 0 ≤ q.1 ∧ q.1 < 10007) →
    (mergeTo c out M).Pairwise (fun p q => c p.2 q.2 < 0) ∧ ∀ q ∈ mergeTo c out M, 0 ≤ q.1 ∧ q.1 < 10007
  | [], out, _, h2, _, h4 => ⟨h2, h4⟩
  | (a, x) :: M, out, h1, h2, h3, h4 => by
    rw [List.pairwise_cons] at h1
    unfold mergeTo
    rcases nil_or_snoc out with rfl | ⟨o, ⟨b, y⟩, rfl⟩
    · simp only [List.getLast?_nil]
      exact mergeTo_rise M _ h1.2 (List.pairwise_singleton _ _) (fun p hp q hq => by simp at hp; subst hp; exact h1.1 q hq) (fun q hq => by simp at hq; subst hq; exact mP_range a)
    · rw [List.getLast?_concat]
      simp only
      have h2' := List.pairwise_append.1 h2
      split
      · rename_i h
        obtain rfl := hc.zero y x h
        rw [List.dropLast_concat]
        refine mergeTo_rise M _ h1.2 (List.pairwise_append.2 ⟨h2'.1, List.pairwise_singleton _ _, fun p hp q hq => ?_⟩) (fun p hp q hq => ?_) (fun q hq => ?_)
        · simp at hq; subst hq; exact h2'.2.2 p hp (b, y) (by simp)
        · rcases List.mem_append.1 hp with hp | hp
          · exact h3 p (by simp [hp]) q (by simp [hq])
          · simp at hp; subst hp; exact h1.1 q hq
        · rcases List.mem_append.1 hq with hq | hq
          · exact h4 q (by simp [hq])
          · simp at hq; subst hq; exact mP_range _
      · rename_i h
        have hyx : c y x < 0 := by
          have := h3 (b, y) (by simp) (a, x) (by simp)
          simp only at this
          omega
        refine mergeTo_rise M _ h1.2 (List.pairwise_append.2 ⟨h2, List.pairwise_singleton _ _, fun p hp q hq => ?_⟩) (fun p hp q hq => ?_) (fun q hq => ?_)
        · simp at hq; subst hq
          rcases List.mem_append.1 hp with hp | hp
          · exact hc.lt_tr (h2'.2.2 p hp (b, y) (by simp)) hyx
          · simp at hp; subst hp; exact hyx
        · rcases List.mem_append.1 hp with hp | hp
          · exact h3 p hp q (by simp [hq])
          · simp at hp; subst hp; exact h1.1 q hq
        · rcases List.mem_append.1 hq with hq | hq
          · exact h4 q hq
          · simp at hq; subst hq; exact mP_range _

omit hc in
theorem coef_filter (z : κ) (L : List (Int × κ)) : coef c (L.filter fun q => !decide (q.1 = 0)) z = coef c L z := by
  induction L with
  | nil => rfl
  | cons q L ih =>
    rw [List.filter_cons]
    by_cases h : q.1 = 0
    · simp only [h, decide_true, Bool.not_true, Bool.false_eq_true, if_false, ih, coef_cons]; simp
    · simp only [h, decide_false, Bool.not_false, if_true, coef_cons, ih]

/-- Sorted in any way, equals added up, 0 left out: the sum. -/
theorem merge_sum {L S : List (Int × κ)} (hp : S.Perm L) (hs : S.Pairwise (fun p q => c p.2 q.2 ≤ 0)) (hL : ∀ q ∈ L, 0 ≤ q.1 ∧ q.1 < 10007) :
    (mergeTo c [] S).filter (fun q => !decide (q.1 = 0)) = sumS c L := by
  obtain ⟨h1, h2⟩ := mergeTo_rise hc S [] hs List.Pairwise.nil (fun p hp => nomatch hp) (fun q hq => nomatch hq)
  refine NfS.ext hc ⟨h1.filter _, fun q hq => ?_⟩ (sumS_nf hc hL) (fun x => ?_)
  · rw [List.mem_filter] at hq
    have := h2 q hq.1
    have h0 : q.1 ≠ 0 := by simpa using hq.2
    omega
  · rw [coef_filter, sumS_coef hc, mergeTo_coef hc, ← coef_perm hp]
    simp [coef]
end
end Go.Proofs.Ytdjkmjifeekimaa
