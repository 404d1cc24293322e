/- Sums modulo a prime; the order of forests; degrees. -/
import Derived.Test.YtacbkjmkjpjhoaaGreatSort
import Derived.Test.YtacbkjmkjpjhoaaGreatCanon
set_option linter.unusedSimpArgs false
set_option linter.unusedVariables false
/- Formal sums over an ordered set with coefficients modulo a prime: normal forms; plain. -/
namespace Go.Proofs.YtacbkjmkjpjhoaaGreat

/-- A number modulo the prime. -/
def mP (n : Int) : Int := n % 10007

section
variable {κ : Type} (c : κ → κ → Int)

/-- One more summand, put where it belongs. -/
def putS : List (Int × κ) → Int → κ → List (Int × κ)
  | [], k, x => if k = 0 then [] else [(k, x)]
  | (a, y) :: L, k, x => if k = 0 then (a, y) :: L else if c x y < 0 then (k, x) :: (a, y) :: L
      else if c x y = 0 then (if mP (a + k) = 0 then L else (mP (a + k), y) :: L) else (a, y) :: putS L k x
/-- The sum of summands, in their order. -/
def addS (L : List (Int × κ)) (M : List (Int × κ)) : List (Int × κ) := M.foldl (fun s q => putS c s q.1 q.2) L
def sumS (M : List (Int × κ)) : List (Int × κ) := addS c [] M

/-- The coefficient of x, not reduced. -/
def coef (L : List (Int × κ)) (x : κ) : Int :=
  match L with
  | [] => 0
  | q :: L => (if c q.2 x = 0 then q.1 else 0) + coef L x

/-- Normal: rising, no coefficient 0. -/
def NfS (L : List (Int × κ)) : Prop := L.Pairwise (fun p q => c p.2 q.2 < 0) ∧ ∀ q ∈ L, 1 ≤ q.1 ∧ q.1 < 10007
end

section
variable {κ : Type} {c : κ → κ → Int} (hc : Cmp c)

theorem mP_range (n : Int) : 0 ≤ mP n ∧ mP n < 10007 := ⟨Int.emod_nonneg _ (by decide), Int.emod_lt_of_pos _ (by decide)⟩
theorem mP_small {n : Int} (h : 0 ≤ n) (h' : n < 10007) : mP n = n := Int.emod_eq_of_lt h h'
theorem mP_mP_add (a b : Int) : mP (mP a + b) = mP (a + b) := by unfold mP; omega
theorem mP_add_mP (a b : Int) : mP (a + mP b) = mP (a + b) := by unfold mP; omega

theorem coef_cons (q : Int × κ) (L : List (Int × κ)) (x : κ) : coef c (q :: L) x = (if c q.2 x = 0 then q.1 else 0) + coef c L x := rfl
theorem coef_append (x : κ) : ∀ (L M : List (Int × κ)), coef c (L ++ M) x = coef c L x + coef c M x
  | [], M => by simp [coef]
  | q :: L, M => by rw [List.cons_append, coef_cons, coef_cons, coef_append x L M]; omega
theorem coef_perm {L M : List (Int × κ)} (h : L.Perm M) (x : κ) : coef c L x = coef c M x := by
  induction h with
  | nil => rfl
  | cons q _ ih => rw [coef_cons, coef_cons, ih]
  | swap p q L => simp only [coef_cons]; omega
  | trans _ _ h1 h2 => rw [h1, h2]
theorem coef_zero {L : List (Int × κ)} {x : κ} (h : ∀ q ∈ L, c q.2 x ≠ 0) : coef c L x = 0 := by
  induction L with
  | nil => rfl
  | cons q L ih => rw [coef_cons, if_neg (h q (by simp)), ih (fun p hp => h p (by simp [hp]))]; rfl

theorem nil_or_snoc {α : Type} (l : List α) : l = [] ∨ ∃ o x, l = o ++ [x] := by
  rcases List.eq_nil_or_concat l with h | ⟨o, x, h⟩
  · exact .inl h
  · exact .inr ⟨o, x, by rw [h, List.concat_eq_append]⟩

include hc

theorem Cmp.eq_swap {a b : κ} (h : c a b = 0) : c b a = 0 := by rw [hc.zero a b h]; exact hc.refl b
theorem Cmp.lt_ne {a b : κ} (h : c a b < 0) : c b a ≠ 0 := by
  intro e
  have := hc.zero b a e
  subst this
  rw [hc.refl] at h; omega
theorem Cmp.lt_tr {a b d : κ} (h1 : c a b < 0) (h2 : c b d < 0) : c a d < 0 := by
  rcases Int.lt_trichotomy (c a d) 0 with h | h | h
  · exact h
  · have := hc.zero a d h
    subst this
    have := (hc.anti a b).1 h1
    omega
  · have := hc.trans a b d (by omega) (by omega)
    omega

/-- Two normal sums with the same coefficients are the same. -/
theorem NfS.ext : ∀ {L M : List (Int × κ)}, NfS c L → NfS c M → (∀ x, mP (coef c L x) = mP (coef c M x)) → L = M
  | [], [], _, _, _ => rfl
  | [], (b, z) :: M, _, ⟨h2, h3⟩, he => by
    exfalso
    rw [List.pairwise_cons] at h2
    have h0 : coef c M z = 0 := coef_zero (fun q hq => hc.lt_ne (h2.1 q hq))
    have := he z
    rw [coef_cons, if_pos (hc.refl z), h0] at this
    have hb := h3 (b, z) (by simp)
    simp at hb
    simp [coef, mP] at this
    omega
  | (a, y) :: L, [], ⟨h2, h3⟩, _, he => by
    exfalso
    rw [List.pairwise_cons] at h2
    have h0 : coef c L y = 0 := coef_zero (fun q hq => hc.lt_ne (h2.1 q hq))
    have := he y
    rw [coef_cons, if_pos (hc.refl y), h0] at this
    have hb := h3 (a, y) (by simp)
    simp at hb
    simp [coef, mP] at this
    omega
  | (a, y) :: L, (b, z) :: M, ⟨h1, h1'⟩, ⟨h2, h2'⟩, he => by
    have w1 := h1; have w2 := h2
    rw [List.pairwise_cons] at h1 h2
    have ha := h1' (a, y) (by simp)
    have hb := h2' (b, z) (by simp)
    simp only at ha hb
    have hy0 : coef c L y = 0 := coef_zero (fun q hq => hc.lt_ne (h1.1 q hq))
    have hz0 : coef c M z = 0 := coef_zero (fun q hq => hc.lt_ne (h2.1 q hq))
    rcases Int.lt_trichotomy (c y z) 0 with h | h | h
    · exfalso
      have h4 : coef c ((b, z) :: M) y = 0 := coef_zero (fun q hq => by
        rcases List.mem_cons.1 hq with rfl | hq
        · exact hc.lt_ne h
        · exact hc.lt_ne (hc.lt_tr h (h2.1 q hq)))
      have := he y
      rw [h4, coef_cons, if_pos (hc.refl y), hy0] at this
      simp [mP] at this
      omega
    · obtain rfl := hc.zero y z h
      have hab : a = b := by
        have := he y
        rw [coef_cons, coef_cons, if_pos (hc.refl y), if_pos (hc.refl y), hy0, hz0] at this
        simp [mP] at this
        omega
      subst hab
      have := NfS.ext (L := L) (M := M) ⟨h1.2, fun q hq => h1' q (by simp [hq])⟩ ⟨h2.2, fun q hq => h2' q (by simp [hq])⟩ (fun x => by
        have := he x
        rw [coef_cons, coef_cons] at this
        unfold mP at this ⊢
        omega)
      rw [this]
    · exfalso
      have h := (hc.anti z y).2 h
      have h4 : coef c ((a, y) :: L) z = 0 := coef_zero (fun q hq => by
        rcases List.mem_cons.1 hq with rfl | hq
        · exact hc.lt_ne h
        · exact hc.lt_ne (hc.lt_tr h (h1.1 q hq)))
      have := he z
      rw [h4, coef_cons, if_pos (hc.refl z), hz0] at this
      simp [mP] at this
      omega

omit hc in
theorem putS_mem : ∀ (L : List (Int × κ)) (k : Int) (x : κ) {q : Int × κ}, q ∈ putS c L k x → q.2 = x ∨ ∃ p ∈ L, p.2 = q.2
  | [], k, x, q, h => by
    unfold putS at h
    split at h
    · cases h
    · simp at h; subst h; exact .inl rfl
  | (a, y) :: L, k, x, q, h => by
    unfold putS at h
    split at h
    · exact .inr ⟨q, h, rfl⟩
    · split at h
      · rcases List.mem_cons.1 h with rfl | h
        · exact .inl rfl
        · exact .inr ⟨q, h, rfl⟩
      · split at h
        · split at h
          · exact .inr ⟨q, by simp [h], rfl⟩
          · rcases List.mem_cons.1 h with rfl | h
            · exact .inr ⟨(a, y), by simp, rfl⟩
            · exact .inr ⟨q, by simp [h], rfl⟩
        · rcases List.mem_cons.1 h with rfl | h
          · exact .inr ⟨(a, y), by simp, rfl⟩
          · rcases putS_mem L k x h with h | ⟨p, h1, h2⟩
            · exact .inl h
            · exact .inr ⟨p, by simp [h1], h2⟩

theorem putS_nf : ∀ {L : List (Int × κ)} {k : Int} {x : κ}, NfS c L → 0 ≤ k → k < 10007 → NfS c (putS c L k x)
  | [], k, x, h, h0, h1 => by
    unfold putS
    split
    · exact h
    · exact ⟨List.pairwise_singleton _ _, fun q hq => by simp at hq; subst hq; simp; omega⟩
  | (a, y) :: L, k, x, ⟨h2, h3⟩, h0, h1 => by
    have hw := h2
    rw [List.pairwise_cons] at h2
    have ha := h3 (a, y) (by simp)
    simp only at ha
    unfold putS
    split
    · exact ⟨hw, h3⟩
    · split
      · rename_i hk hlt
        refine ⟨List.pairwise_cons.2 ⟨fun q hq => ?_, hw⟩, fun q hq => ?_⟩
        · rcases List.mem_cons.1 hq with rfl | hq
          · exact hlt
          · exact hc.lt_tr hlt (h2.1 q hq)
        · rcases List.mem_cons.1 hq with rfl | hq
          · simp; omega
          · exact h3 q hq
      · split
        · split
          · exact ⟨h2.2, fun q hq => h3 q (by simp [hq])⟩
          · refine ⟨List.pairwise_cons.2 ⟨h2.1, h2.2⟩, fun q hq => ?_⟩
            rcases List.mem_cons.1 hq with rfl | hq
            · have := mP_range (a + k); simp only; omega
            · exact h3 q (by simp [hq])
        · rename_i hk hnl hne
          have ih := putS_nf (k := k) (x := x) ⟨h2.2, fun q hq => h3 q (by simp [hq])⟩ h0 h1
          have hyx : c y x < 0 := by
            rcases Int.lt_trichotomy (c x y) 0 with h | h | h
            · exact absurd h hnl
            · exact absurd h hne
            · exact (hc.anti y x).2 h
          refine ⟨List.pairwise_cons.2 ⟨fun q hq => ?_, ih.1⟩, fun q hq => ?_⟩
          · rcases putS_mem L k x hq with h | ⟨p, hp, h⟩
            · rw [h]; exact hyx
            · rw [← h]; exact h2.1 p hp
          · rcases List.mem_cons.1 hq with rfl | hq
            · exact ha
            · exact ih.2 q hq

theorem putS_coef (z : κ) : ∀ (L : List (Int × κ)) (k : Int) (x : κ), mP (coef c (putS c L k x) z) = mP (coef c L z + if c x z = 0 then k else 0)
  | [], k, x => by
    unfold putS
    split
    · rename_i h; subst h; simp
    · simp [coef]
  | (a, y) :: L, k, x => by
    unfold putS
    split
    · rename_i h; subst h; simp
    · split
      · rw [coef_cons]; congr 1; simp only; omega
      · split
        · rename_i h
          obtain rfl := hc.zero x y h
          split
          · rename_i h4
            rw [coef_cons]
            by_cases h5 : c x z = 0
            · simp only [if_pos h5]; unfold mP at h4 ⊢; omega
            · simp only [if_neg h5]; congr 1; omega
          · rw [coef_cons, coef_cons]
            by_cases h5 : c x z = 0
            · simp only [if_pos h5]; unfold mP; omega
            · simp only [if_neg h5]; congr 1; omega
        · rw [coef_cons, coef_cons]
          have ih := putS_coef z L k x
          unfold mP at ih ⊢
          omega

theorem addS_nf : ∀ {M L : List (Int × κ)}, NfS c L → (∀ q ∈ M, 0 ≤ q.1 ∧ q.1 < 10007) → NfS c (addS c L M)
  | [], L, h, _ => h
  | q :: M, L, h, hM => addS_nf (M := M) (putS_nf hc h (hM q (by simp)).1 (hM q (by simp)).2) (fun p hp => hM p (by simp [hp]))
theorem addS_coef (z : κ) : ∀ (M L : List (Int × κ)), mP (coef c (addS c L M) z) = mP (coef c L z + coef c M z)
  | [], L => by simp [addS, coef]
  | q :: M, L => by
    show mP (coef c (addS c (putS c L q.1 q.2) M) z) = _
    have h1 := addS_coef z M (putS c L q.1 q.2)
    have h2 := putS_coef hc z L q.1 q.2
    rw [h1, coef_cons]
    unfold mP at h2 ⊢
    omega
theorem sumS_nf {M : List (Int × κ)} (hM : ∀ q ∈ M, 0 ≤ q.1 ∧ q.1 < 10007) : NfS c (sumS c M) := addS_nf hc ⟨List.Pairwise.nil, fun q hq => nomatch hq⟩ hM
theorem sumS_coef (M : List (Int × κ)) (z : κ) : mP (coef c (sumS c M) z) = mP (coef c M z) := by
  have := addS_coef hc z M []
  rw [show coef c [] z = 0 from rfl, Int.zero_add] at this
  exact this
/-- A normal sum is the sum of its summands. -/
theorem sumS_self {L : List (Int × κ)} (h : NfS c L) : sumS c L = L :=
  NfS.ext hc (sumS_nf hc (fun q hq => by have := h.2 q hq; omega)) h (fun x => sumS_coef hc L x)
theorem sumS_perm {L M : List (Int × κ)} (h : L.Perm M) (hM : ∀ q ∈ M, 0 ≤ q.1 ∧ q.1 < 10007) : sumS c L = sumS c M :=
  NfS.ext hc (sumS_nf hc (fun q hq => hM q (h.subset hq))) (sumS_nf hc hM) (fun x => by rw [sumS_coef hc, sumS_coef hc, coef_perm h])

omit hc
/-- Adjacent equals of a sorted list added up (no summand left out): the list so far backwards. -/
def mergeTo (c : κ → κ → Int) : List (Int × κ) → List (Int × κ) → List (Int × κ)
  | out, [] => out
  | out, (a, x) :: M => mergeTo c (match out.getLast? with
    | some (b, y) => if c y x = 0 then out.dropLast ++ [(mP (b + a), y)] else out ++ [(mP a, x)]
    | none => [(mP a, x)]) M
include hc

theorem mergeTo_coef (z : κ) : ∀ (M out : List (Int × κ)), mP (coef c (mergeTo c out M) z) = mP (coef c out z + coef c M z)
  | [], out => by simp [mergeTo, coef]
  | (a, x) :: M, out => by
    unfold mergeTo
    rw [mergeTo_coef z M, coef_cons]
    rcases nil_or_snoc out with rfl | ⟨o, ⟨b, y⟩, rfl⟩
    · simp only [List.getLast?_nil, coef]
      by_cases h5 : c x z = 0
      · simp only [if_pos h5]; unfold mP; omega
      · simp only [if_neg h5]; unfold mP; omega
    · rw [List.getLast?_concat]
      simp only
      split
      · rename_i h
        obtain rfl := hc.zero y x h
        rw [List.dropLast_concat, coef_append, coef_append]
        simp only [coef]
        by_cases h5 : c y z = 0
        · simp only [if_pos h5]; unfold mP; omega
        · simp only [if_neg h5]; congr 1; omega
      · rw [coef_append]
        simp only [coef]
        by_cases h5 : c x z = 0
        · simp only [if_pos h5]; unfold mP; omega
        · simp only [if_neg h5]; unfold mP; omega

/-- Rising strictly, coefficients reduced, all below what is still to come. -/
theorem mergeTo_rise : ∀ (M out : List (Int × κ)), M.Pairwise (fun p q => c p.2 q.2 ≤ 0) → out.Pairwise (fun p q => c p.2 q.2 < 0) → (∀ p ∈ out, ∀ q ∈ M, c p.2 q.2 ≤ 0) → (∀ q ∈ out, 0 ≤ q.1 ∧ q.1 < 10007) →
    (mergeTo c out M).Pairwise (fun p q => c p.2 q.2 < 0) ∧ ∀ q ∈ mergeTo c out M, 0 ≤ q.1 ∧ q.1 < 10007
  | [], out, _, h2, _, h4 => ⟨h2, h4⟩
  | (a, x) :: M, out, h1, h2, h3, h4 => by
    rw [List.pairwise_cons] at h1
    unfold mergeTo
    rcases nil_or_snoc out with rfl | ⟨o, ⟨b, y⟩, rfl⟩
    · simp only [List.getLast?_nil]
      exact mergeTo_rise M _ h1.2 (List.pairwise_singleton _ _) (fun p hp q hq => by simp at hp; subst hp; exact h1.1 q hq) (fun q hq => by simp at hq; subst hq; exact mP_range a)
    · rw [List.getLast?_concat]
      simp only
      have h2' := List.pairwise_append.1 h2
      split
      · rename_i h
        obtain rfl := hc.zero y x h
        rw [List.dropLast_concat]
        refine mergeTo_rise M _ h1.2 (List.pairwise_append.2 ⟨h2'.1, List.pairwise_singleton _ _, fun p hp q hq => ?_⟩) (fun p hp q hq => ?_) (fun q hq => ?_)
        · simp at hq; subst hq; exact h2'.2.2 p hp (b, y) (by simp)
        · rcases List.mem_append.1 hp with hp | hp
          · exact h3 p (by simp [hp]) q (by simp [hq])
          · simp at hp; subst hp; exact h1.1 q hq
        · rcases List.mem_append.1 hq with hq | hq
          · exact h4 q (by simp [hq])
          · simp at hq; subst hq; exact mP_range _
      · rename_i h
        have hyx : c y x < 0 := by
          have := h3 (b, y) (by simp) (a, x) (by simp)
          simp only at this
          omega
        refine mergeTo_rise M _ h1.2 (List.pairwise_append.2 ⟨h2, List.pairwise_singleton _ _, fun p hp q hq => ?_⟩) (fun p hp q hq => ?_) (fun q hq => ?_)
        · simp at hq; subst hq
          rcases List.mem_append.1 hp with hp | hp
          · exact hc.lt_tr (h2'.2.2 p hp (b, y) (by simp)) hyx
          · simp at hp; subst hp; exact hyx
        · rcases List.mem_append.1 hp with hp | hp
          · exact h3 p hp q (by simp [hq])
          · simp at hp; subst hp; exact h1.1 q hq
        · rcases List.mem_append.1 hq with hq | hq
          · exact h4 q hq
          · simp at hq; subst hq; exact mP_range _

omit hc in
theorem coef_filter (z : κ) (L : List (Int × κ)) : coef c (L.filter fun q => !decide (q.1 = 0)) z = coef c L z := by
  induction L with
  | nil => rfl
  | cons q L ih =>
    rw [List.filter_cons]
    by_cases h : q.1 = 0
    · simp only [h, decide_true, Bool.not_true, Bool.false_eq_true, if_false, ih, coef_cons]; simp
    · simp only [h, decide_false, Bool.not_false, if_true, coef_cons, ih]

/-- Sorted in any way, equals added up, 0 left out: the sum. -/
theorem merge_sum {L S : List (Int × κ)} (hp : S.Perm L) (hs : S.Pairwise (fun p q => c p.2 q.2 ≤ 0)) (hL : ∀ q ∈ L, 0 ≤ q.1 ∧ q.1 < 10007) :
    (mergeTo c [] S).filter (fun q => !decide (q.1 = 0)) = sumS c L := by
  obtain ⟨h1, h2⟩ := mergeTo_rise hc S [] hs List.Pairwise.nil (fun p hp => nomatch hp) (fun q hq => nomatch hq)
  refine NfS.ext hc ⟨h1.filter _, fun q hq => ?_⟩ (sumS_nf hc hL) (fun x => ?_)
  · rw [List.mem_filter] at hq
    have := h2 q hq.1
    have h0 : q.1 ≠ 0 := by simpa using hq.2
    omega
  · rw [coef_filter, sumS_coef hc, mergeTo_coef hc, ← coef_perm hp]
    simp [coef]
end
end Go.Proofs.YtacbkjmkjpjhoaaGreat

/- The order of forests; plain. -/
namespace Go.Proofs.YtacbkjmkjpjhoaaGreat

/-- First by a number, then by c. -/
def thenC {α : Type} (f : α → Int) (c : α → α → Int) (a b : α) : Int := if f a = f b then c a b else f a - f b
/-- Lists by their elements, one after the other. -/
def lexC {α : Type} (c : α → α → Int) : List α → List α → Int
  | [], [] => 0
  | [], _ :: _ => -1
  | _ :: _, [] => 1
  | a :: xs, b :: bs => if c a b = 0 then lexC c xs bs else c a b

theorem thenC_cmp {α : Type} {f : α → Int} {c : α → α → Int} (h : Cmp c) : Cmp (thenC f c) where
  zero a b e := by
    unfold thenC at e
    split at e
    · exact h.zero a b e
    · omega
  refl a := by unfold thenC; rw [if_pos rfl]; exact h.refl a
  anti a b := by
    unfold thenC
    by_cases e : f a = f b
    · rw [if_pos e, if_pos e.symm]; exact h.anti a b
    · rw [if_neg e, if_neg (fun k => e k.symm)]; omega
  trans a b d h1 h2 := by
    unfold thenC at h1 h2 ⊢
    split at h1 <;> split at h2 <;> split <;> first | omega | (exact h.trans a b d h1 h2)

theorem Cmp.sym0 {α : Type} {c : α → α → Int} (h : Cmp c) {a b : α} (e : c a b = 0) : c b a = 0 := by rw [h.zero a b e]; exact h.refl b
theorem lexC_cmp {α : Type} {c : α → α → Int} (h : Cmp c) : Cmp (lexC c) where
  zero := by
    intro a
    induction a with
    | nil => intro b e; cases b with
      | nil => rfl
      | cons y bs => simp [lexC] at e
    | cons x xs ih => intro b e; cases b with
      | nil => simp [lexC] at e
      | cons y bs =>
        unfold lexC at e
        split at e
        · rename_i h1; rw [h.zero x y h1, ih bs e]
        · rename_i h1; exact absurd e h1
  refl := by
    intro a
    induction a with
    | nil => rfl
    | cons x xs ih => unfold lexC; rw [if_pos (h.refl x)]; exact ih
  anti := by
    intro a
    induction a with
    | nil => intro b; cases b <;> simp [lexC]
    | cons x xs ih => intro b; cases b with
      | nil => simp [lexC]
      | cons y bs =>
        unfold lexC
        by_cases e : c x y = 0
        · rw [if_pos e, if_pos (h.sym0 e)]; exact ih bs
        · rw [if_neg e, if_neg (fun k => e (h.sym0 k))]; exact h.anti x y
  trans := by
    intro a
    induction a with
    | nil => intro b d _ h2; cases d with
      | nil => simp [lexC]
      | cons z ds => simp [lexC]
    | cons x xs ih => intro b d h1 h2; cases b with
      | nil => simp [lexC] at h1
      | cons y bs => cases d with
        | nil => simp [lexC] at h2
        | cons z ds =>
          unfold lexC at h1 h2 ⊢
          have l1 : c x y ≤ 0 := by split at h1 <;> omega
          have l2 : c y z ≤ 0 := by split at h2 <;> omega
          have l3 := h.trans x y z l1 l2
          by_cases e : c x z = 0
          · rw [if_pos e]
            obtain rfl := h.zero x z e
            have e1 : c x y = 0 := by
              rcases Int.lt_trichotomy (c x y) 0 with k | k | k
              · have := (h.anti x y).1 k; omega
              · exact k
              · omega
            rw [if_pos e1] at h1
            rw [if_pos (h.sym0 e1)] at h2
            exact ih bs ds h1 h2
          · rw [if_neg e]; exact l3

/-- compareForests. -/
def cmpF : List (List Int) → List (List Int) → Int := thenC (fun f => (sumLen f : Int)) (thenC (fun f => (f.length : Int)) (lexC cmpT))
theorem cmpF_cmp : Cmp cmpF := thenC_cmp (thenC_cmp (lexC_cmp cmpT_cmp))
/-- Its sign. -/
def sgn (n : Int) : Int := if n < 0 then -1 else if n = 0 then 0 else 1
end Go.Proofs.YtacbkjmkjpjhoaaGreat

/- The order of forests and products: the greatest forest of a product; plain. -/
namespace Go.Proofs.YtacbkjmkjpjhoaaGreat

section
variable {α : Type} {c : α → α → Int} (hc : Cmp c)
include hc

/-- Putting an element into two sorted lists of the same length keeps their order. -/
theorem lexC_ins (x : α) : ∀ {f g : List α}, f.Pairwise (fun a b => c a b ≤ 0) → g.Pairwise (fun a b => c a b ≤ 0) → f.length = g.length → lexC c f g < 0 → lexC c (ins c x f) (ins c x g) < 0
  | [], [], _, _, _, h => by simp [lexC] at h
  | [], _ :: _, _, _, hl, _ => by simp at hl
  | _ :: _, [], _, _, hl, _ => by simp at hl
  | a :: f, b :: g, h1, h2, hl, h => by
    have w1 := h1
    rw [List.pairwise_cons] at h1 h2
    have hself : ∀ y : α, ∀ u v, lexC c (y :: u) (y :: v) = lexC c u v := fun y u v => by show (if c y y = 0 then _ else _) = _; rw [if_pos (hc.refl y)]
    have hlt : ∀ (y z : α) u v, c y z < 0 → lexC c (y :: u) (z :: v) < 0 := fun y z u v hyz => by
      show (if c y z = 0 then _ else _) < 0
      rw [if_neg (by omega)]; exact hyz
    by_cases hab : c a b = 0
    · obtain rfl := hc.zero a b hab
      have h3 : lexC c f g < 0 := by rwa [hself] at h
      unfold ins
      split
      · rw [hself, hself]; exact h3
      · rw [hself]
        exact lexC_ins x h1.2 h2.2 (by simpa using hl) h3
    · have hab' : c a b < 0 := by
        have : (if c a b = 0 then lexC c f g else c a b) < 0 := h
        rwa [if_neg hab] at this
      by_cases hxa : c x a < 0
      · have hxb := hc.lt_tr hxa hab'
        unfold ins
        rw [if_pos hxa, if_pos hxb, hself]
        exact hlt _ _ _ _ hab'
      · by_cases hxb : c x b < 0
        · unfold ins
          rw [if_neg hxa, if_pos hxb]
          have hax := hc.le_of_not_lt hxa
          by_cases hax0 : c a x = 0
          · obtain rfl := hc.zero a x hax0
            rw [hself]
            cases f with
            | nil => exact hlt _ _ _ _ hab'
            | cons y f =>
              unfold ins
              split
              · exact hlt _ _ _ _ hab'
              · rename_i hay
                have h5 := h1.1 y (by simp)
                have h6 : c a y = 0 := by omega
                obtain rfl := hc.zero a y h6
                exact hlt _ _ _ _ hab'
          · exact hlt _ _ _ _ (by omega)
        · unfold ins
          rw [if_neg hxa, if_neg hxb]
          exact hlt _ _ _ _ hab'
end

/-- The product of two forests. -/
def mulF (f g : List (List Int)) : List (List Int) := sortC cmpT (f ++ g)

theorem prime_small : ∀ x < 102, 2 ≤ x → 10007 % x ≠ 0 := by decide +kernel
theorem prime_dvd {d : Nat} (h : d ∣ 10007) : d = 1 ∨ d = 10007 := by
  obtain ⟨k, hk⟩ := h
  have hd : d ≠ 0 := by rintro rfl; omega
  have hk0 : k ≠ 0 := by rintro rfl; omega
  by_cases h1 : d = 1
  · exact .inl h1
  · by_cases h2 : d < 102
    · exact absurd (by rw [hk]; exact Nat.mul_mod_right d k) (prime_small d h2 (by omega))
    · by_cases h3 : k = 1
      · subst h3; right; omega
      · have h4 : k < 102 := by
          rcases Nat.lt_or_ge k 102 with h | h
          · exact h
          · have := Nat.mul_le_mul (show 102 ≤ d by omega) h
            omega
        exact absurd (by rw [hk]; exact Nat.mul_mod_left d k) (prime_small k h4 (by omega))
theorem prime_gcd (a : Nat) (ha : a < 10007) (h0 : a ≠ 0) : Nat.gcd 10007 a = 1 := by
  rcases prime_dvd (Nat.gcd_dvd_left 10007 a) with h | h
  · exact h
  · have := Nat.le_of_dvd (by omega) (h ▸ Nat.gcd_dvd_right 10007 a)
    omega
theorem prime_mul {a b : Int} (ha : 1 ≤ a ∧ a < 10007) (hb : 1 ≤ b ∧ b < 10007) : mP (a * b) ≠ 0 := by
  intro h
  obtain ⟨m, rfl⟩ := Int.eq_ofNat_of_zero_le (show 0 ≤ a by omega)
  obtain ⟨n, rfl⟩ := Int.eq_ofNat_of_zero_le (show 0 ≤ b by omega)
  have h1 : (m * n) % 10007 = 0 := by
    unfold mP at h
    have : ((m * n : Nat) : Int) % 10007 = 0 := by rw [Int.natCast_mul]; exact h
    omega
  have h2 : 10007 ∣ m * n := Nat.dvd_of_mod_eq_zero h1
  have h3 : Nat.Coprime 10007 m := prime_gcd m (by omega) (by omega)
  have h4 := h3.dvd_of_dvd_mul_left h2
  have := Nat.le_of_dvd (by omega) h4
  omega

theorem lexC_len (f g : List (List Int)) (h : f.length = g.length) : cmpF f g = if (sumLen f : Int) = sumLen g then lexC cmpT f g else (sumLen f : Int) - sumLen g := by
  unfold cmpF thenC
  simp only [h, if_true]


theorem mulF_len (f g : List (List Int)) : (mulF f g).length = f.length + g.length := by unfold mulF; rw [sortC_length, List.length_append]
theorem mulF_sum (f g : List (List Int)) : sumLen (mulF f g) = sumLen f + sumLen g := by
  unfold mulF; rw [sumLen_perm (sortC_perm _)]; simp [sumLen]
theorem mulF_comm (f g : List (List Int)) : mulF f g = mulF g f := sortC_congr cmpT_cmp (List.perm_append_comm)
theorem mulF_sorted (f g : List (List Int)) : (mulF f g).Pairwise (fun a b => cmpT a b ≤ 0) := sortC_sorted cmpT_cmp _

/-- Sorted forests of the same shape: the order stays when another forest is put to both. -/
theorem lexC_mul : ∀ (h f g : List (List Int)), f.Pairwise (fun a b => cmpT a b ≤ 0) → g.Pairwise (fun a b => cmpT a b ≤ 0) → f.length = g.length → lexC cmpT f g < 0 → lexC cmpT (h.foldl (fun s x => ins cmpT x s) f) (h.foldl (fun s x => ins cmpT x s) g) < 0
  | [], _, _, _, _, _, hlt => hlt
  | x :: h, f, g, h1, h2, hl, hlt => lexC_mul h _ _ (ins_sorted cmpT_cmp x f h1) (ins_sorted cmpT_cmp x g h2) (by rw [ins_length, ins_length, hl]) (lexC_ins cmpT_cmp x h1 h2 hl hlt)
theorem mulF_foldl {f : List (List Int)} (h : List (List Int)) (hf : f.Pairwise (fun a b => cmpT a b ≤ 0)) : mulF f h = h.foldl (fun s x => ins cmpT x s) f := by
  unfold mulF sortC
  rw [List.foldl_append]
  congr 1
  exact sortC_of_sorted cmpT_cmp hf

/-- The order of forests goes with products. -/
theorem cmpF_mul {f g : List (List Int)} (h : List (List Int)) (hf : f.Pairwise (fun a b => cmpT a b ≤ 0)) (hg : g.Pairwise (fun a b => cmpT a b ≤ 0)) (hlt : cmpF f g < 0) : cmpF (mulF f h) (mulF g h) < 0 := by
  unfold cmpF thenC at hlt ⊢
  simp only [mulF_sum, mulF_len] at hlt ⊢
  by_cases h1 : sumLen f = sumLen g
  · by_cases h2 : f.length = g.length
    · rw [if_pos (by rw [h1])] at hlt ⊢
      rw [if_pos (by rw [h2])] at hlt ⊢
      rw [mulF_foldl h hf, mulF_foldl h hg]
      exact lexC_mul h f g hf hg h2 hlt
    · rw [if_pos (by rw [h1])] at hlt ⊢
      rw [if_neg (by omega)] at hlt ⊢
      omega
  · rw [if_neg (by omega)] at hlt ⊢
    omega

/-- The products of summands in all combinations. -/
def prodL (d e : List (Int × List (List Int))) : List (Int × List (List Int)) := d.flatMap fun p => e.map fun q => (mP (p.1 * q.1), mulF p.2 q.2)
def SrtF (L : List (Int × List (List Int))) : Prop := ∀ q ∈ L, q.2.Pairwise fun a b => cmpT a b ≤ 0

theorem prodL_snoc (d e : List (Int × List (List Int))) (p : Int × List (List Int)) : prodL (d ++ [p]) e = prodL d e ++ e.map fun q => (mP (p.1 * q.1), mulF p.2 q.2) := by
  unfold prodL; rw [List.flatMap_append]; simp

/-- The greatest product stands alone. -/
theorem prod_top {d e : List (Int × List (List Int))} {p q : Int × List (List Int)} (hd : NfS cmpF (d ++ [p])) (he : NfS cmpF (e ++ [q])) (sd : SrtF (d ++ [p])) (se : SrtF (e ++ [q])) :
    mP (coef cmpF (prodL (d ++ [p]) (e ++ [q])) (mulF p.2 q.2)) = mP (p.1 * q.1) := by
  have h1 := (List.pairwise_append.1 hd.1).2.2
  have h2 := (List.pairwise_append.1 he.1).2.2
  have hC := cmpF_cmp
  have hlast : ∀ r ∈ e, cmpF (mulF p.2 r.2) (mulF p.2 q.2) < 0 := fun r hr => by
    rw [mulF_comm p.2 r.2, mulF_comm p.2 q.2]
    exact cmpF_mul p.2 (se r (by simp [hr])) (se q (by simp)) (h2 r hr q (by simp))
  have hfirst : coef cmpF (prodL d (e ++ [q])) (mulF p.2 q.2) = 0 := coef_zero (fun z hz => by
    unfold prodL at hz
    rw [List.mem_flatMap] at hz
    obtain ⟨r, hr, hz⟩ := hz
    rw [List.mem_map] at hz
    obtain ⟨u, hu, rfl⟩ := hz
    have h3 : cmpF (mulF r.2 u.2) (mulF p.2 u.2) < 0 := cmpF_mul u.2 (sd r (by simp [hr])) (sd p (by simp)) (h1 r hr p (by simp))
    have h4 : cmpF (mulF r.2 u.2) (mulF p.2 q.2) < 0 := by
      rcases List.mem_append.1 hu with hu | hu
      · exact hC.lt_tr h3 (hlast u hu)
      · simp at hu; subst hu; exact h3
    show cmpF (mulF r.2 u.2) (mulF p.2 q.2) ≠ 0
    omega)
  rw [prodL_snoc, coef_append, hfirst, List.map_append, coef_append]
  have hmid : coef cmpF (e.map fun q => (mP (p.1 * q.1), mulF p.2 q.2)) (mulF p.2 q.2) = 0 := coef_zero (fun z hz => by
    rw [List.mem_map] at hz
    obtain ⟨u, hu, rfl⟩ := hz
    have := hlast u hu
    show cmpF (mulF p.2 u.2) (mulF p.2 q.2) ≠ 0
    omega)
  rw [hmid]
  show mP (0 + (0 + ((if cmpF (mulF p.2 q.2) (mulF p.2 q.2) = 0 then mP (p.1 * q.1) else 0) + 0))) = _
  rw [if_pos (hC.refl _)]
  unfold mP; omega

theorem nz_mem {κ : Type} {c : κ → κ → Int} (hc : Cmp c) {L : List (Int × κ)} {x : κ} (h : mP (coef c L x) ≠ 0) : ∃ q ∈ L, q.2 = x := by
  by_cases hx : ∃ q ∈ L, q.2 = x
  · exact hx
  · exfalso
    refine h ?_
    rw [coef_zero (fun q hq e => hx ⟨q, hq, hc.zero _ _ e⟩)]; rfl

/-- The product of two sums that are not 0 has a forest of as many nodes as the greatest ones have together. -/
theorem prod_deg {d e : List (Int × List (List Int))} {p q : Int × List (List Int)} (hd : NfS cmpF (d ++ [p])) (he : NfS cmpF (e ++ [q])) (sd : SrtF (d ++ [p])) (se : SrtF (e ++ [q])) :
    ∃ r ∈ sumS cmpF (prodL (d ++ [p]) (e ++ [q])), sumLen r.2 = sumLen p.2 + sumLen q.2 := by
  have h : mP (coef cmpF (sumS cmpF (prodL (d ++ [p]) (e ++ [q]))) (mulF p.2 q.2)) ≠ 0 := by
    rw [sumS_coef cmpF_cmp, prod_top hd he sd se]
    exact prime_mul (hd.2 p (by simp)) (he.2 q (by simp))
  obtain ⟨r, h1, h2⟩ := nz_mem cmpF_cmp h
  exact ⟨r, h1, by rw [h2, mulF_sum]⟩
end Go.Proofs.YtacbkjmkjpjhoaaGreat
