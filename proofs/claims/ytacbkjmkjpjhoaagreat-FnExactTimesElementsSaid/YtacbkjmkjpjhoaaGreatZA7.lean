/- Lemmas (7). -/
import Derived.Test.YtacbkjmkjpjhoaaGreatZA1
import Derived.Test.YtacbkjmkjpjhoaaGreatZA4
import Derived.Test.YtacbkjmkjpjhoaaGreatZA5
import Derived.Test.YtacbkjmkjpjhoaaGreatZA6
set_option linter.unusedSimpArgs false
set_option linter.unusedVariables false
namespace Go.Proofs.YtacbkjmkjpjhoaaGreat
def mP (n : Int) : Int := n % 10007
section
variable {κ : Type} (c : κ → κ → Int)
def putS : List (Int × κ) → Int → κ → List (Int × κ)
  | [], k, x => if k = 0 then [] else [(k, x)]
  | (a, y) :: L, k, x => if k = 0 then (a, y) :: L else if c x y < 0 then (k, x) :: (a, y) :: L
      else if c x y = 0 then (if mP (a + k) = 0 then L else (mP (a + k), y) :: L) else (a, y) :: putS L k x
def addS (L : List (Int × κ)) (M : List (Int × κ)) : List (Int × κ) := M.foldl (fun s q => putS c s q.1 q.2) L
def sumS (M : List (Int × κ)) : List (Int × κ) := addS c [] M
def coef (L : List (Int × κ)) (x : κ) : Int :=
  match L with
  | [] => 0
  | q :: L => (if c q.2 x = 0 then q.1 else 0) + coef L x
def NfS (L : List (Int × κ)) : Prop := L.Pairwise (fun p q => c p.2 q.2 < 0) ∧ ∀ q ∈ L, 1 ≤ q.1 ∧ q.1 < 10007
end
section
variable {κ : Type} {c : κ → κ → Int} (hc : Cmp c)
theorem mP_range (n : Int) : 0 ≤ mP n ∧ mP n < 10007 := ⟨Int.emod_nonneg _ (by decide), Int.emod_lt_of_pos _ (by decide)⟩
theorem mP_small {n : Int} (h : 0 ≤ n) (h' : n < 10007) : mP n = n := Int.emod_eq_of_lt h h'
theorem coef_cons (q : Int × κ) (L : List (Int × κ)) (x : κ) : coef c (q :: L) x = (if c q.2 x = 0 then q.1 else 0) + coef c L x := rfl
theorem coef_append (x : κ) : ∀ (L M : List (Int × κ)), coef c (L ++ M) x = coef c L x + coef c M x
  | [], M => by simp [coef]
  | q :: L, M => by rw [List.cons_append, coef_cons, coef_cons, coef_append x L M]; omega
theorem coef_perm {L M : List (Int × κ)} (h : L.Perm M) (x : κ) : coef c L x = coef c M x := by
  induction h with
  | nil => rfl
  | cons q _ ih => rw [coef_cons, coef_cons, ih]
  | swap p q L => simp only [coef_cons]; omega
  | trans _ _ h1 h2 => rw [h1, h2]
theorem coef_zero {L : List (Int × κ)} {x : κ} (h : ∀ q ∈ L, c q.2 x ≠ 0) : coef c L x = 0 := by
  induction L with
  | nil => rfl
  | cons q L ih => rw [coef_cons, if_neg (h q (by simp)), ih (fun p hp => h p (by simp [hp]))]; rfl
theorem nil_or_snoc {α : Type} (l : List α) : l = [] ∨ ∃ o x, l = o ++ [x] := by
  rcases List.eq_nil_or_concat l with h | ⟨o, x, h⟩
  · exact .inl h
  · exact .inr ⟨o, x, by rw [h, List.concat_eq_append]⟩
include hc
theorem Cmp.lt_ne {a b : κ} (h : c a b < 0) : c b a ≠ 0 := by
  intro e
  have := hc.zero b a e
  subst this
  rw [hc.refl] at h; omega
theorem Cmp.lt_tr {a b d : κ} (h1 : c a b < 0) (h2 : c b d < 0) : c a d < 0 := by
  rcases Int.lt_trichotomy (c a d) 0 with h | h | h
  · exact h
  · have := hc.zero a d h
    subst this
    have := (hc.anti a b).1 h1
    omega
  · have := hc.trans a b d (by omega) (by omega)
    omega
theorem NfS.ext : ∀ {L M : List (Int × κ)}, NfS c L → NfS c M → (∀ x, mP (coef c L x) = mP (coef c M x)) → L = M
  | [], [], _, _, _ => rfl
  | [], (b, z) :: M, _, ⟨h2, h3⟩, he => by
    exfalso
    rw [List.pairwise_cons] at h2
    have h0 : coef c M z = 0 := coef_zero (fun q hq => hc.lt_ne (h2.1 q hq))
    have := he z
    rw [coef_cons, if_pos (hc.refl z), h0] at this
    have hb := h3 (b, z) (by simp)
    simp at hb
    simp [coef, mP] at this
    omega
  | (a, y) :: L, [], ⟨h2, h3⟩, _, he => by
    exfalso
    rw [List.pairwise_cons] at h2
    have h0 : coef c L y = 0 := coef_zero (fun q hq => hc.lt_ne (h2.1 q hq))
    have := he y
    rw [coef_cons, if_pos (hc.refl y), h0] at this
    have hb := h3 (a, y) (by simp)
    simp at hb
    simp [coef, mP] at this
    omega
  | (a, y) :: L, (b, z) :: M, ⟨h1, h1'⟩, ⟨h2, h2'⟩, he => by
    have w1 := h1; have w2 := h2
    rw [List.pairwise_cons] at h1 h2
    have ha := h1' (a, y) (by simp)
    have hb := h2' (b, z) (by simp)
    simp only at ha hb
    have hy0 : coef c L y = 0 := coef_zero (fun q hq => hc.lt_ne (h1.1 q hq))
    have hz0 : coef c M z = 0 := coef_zero (fun q hq => hc.lt_ne (h2.1 q hq))
    rcases Int.lt_trichotomy (c y z) 0 with h | h | h
    · exfalso
      have h4 : coef c ((b, z) :: M) y = 0 := coef_zero (fun q hq => by
        rcases List.mem_cons.1 hq with rfl | hq
        · exact hc.lt_ne h
        · exact hc.lt_ne (hc.lt_tr h (h2.1 q hq)))
      have := he y
      rw [h4, coef_cons, if_pos (hc.refl y), hy0] at this
      simp [mP] at this
      omega
    · obtain rfl := hc.zero y z h
      have hab : a = b := by
        have := he y
        rw [coef_cons, coef_cons, if_pos (hc.refl y), if_pos (hc.refl y), hy0, hz0] at this
        simp [mP] at this
        omega
      subst hab
      have := NfS.ext (L := L) (M := M) ⟨h1.2, fun q hq => h1' q (by simp [hq])⟩ ⟨h2.2, fun q hq => h2' q (by simp [hq])⟩ (fun x => by
        have := he x
        rw [coef_cons, coef_cons] at this
        unfold mP at this ⊢
        omega)
      rw [this]
    · exfalso
      have h := (hc.anti z y).2 h
      have h4 : coef c ((a, y) :: L) z = 0 := coef_zero (fun q hq => by
        rcases List.mem_cons.1 hq with rfl | hq
        · exact hc.lt_ne h
        · exact hc.lt_ne (hc.lt_tr h (h1.1 q hq)))
      have := he z
      rw [h4, coef_cons, if_pos (hc.refl z), hz0] at this
      simp [mP] at this
      omega
omit hc in
theorem putS_mem : ∀ (L : List (Int × κ)) (k : Int) (x : κ) {q : Int × κ}, q ∈ putS c L k x → q.2 = x ∨ ∃ p ∈ L, p.2 = q.2
  | [], k, x, q, h => by
    unfold putS at h
    split at h
    · cases h
    · simp at h; subst h; exact .inl rfl
  | (a, y) :: L, k, x, q, h => by
    unfold putS at h
    split at h
    · exact .inr ⟨q, h, rfl⟩
    · split at h
      · rcases List.mem_cons.1 h with rfl | h
        · exact .inl rfl
        · exact .inr ⟨q, h, rfl⟩
      · split at h
        · split at h
          · exact .inr ⟨q, by simp [h], rfl⟩
          · rcases List.mem_cons.1 h with rfl | h
            · exact .inr ⟨(a, y), by simp, rfl⟩
            · exact .inr ⟨q, by simp [h], rfl⟩
        · rcases List.mem_cons.1 h with rfl | h
          · exact .inr ⟨(a, y), by simp, rfl⟩
          · rcases putS_mem L k x h with h | ⟨p, h1, h2⟩
            · exact .inl h
            · exact .inr ⟨p, by simp [h1], h2⟩
theorem putS_nf : ∀ {L : List (Int × κ)} {k : Int} {x : κ}, NfS c L → 0 ≤ k → k < 10007 → NfS c (putS c L k x)
  | [], k, x, h, h0, h1 => by
    unfold putS
    split
    · exact h
    · exact ⟨List.pairwise_singleton _ _, fun q hq => by simp at hq; subst hq; simp; omega⟩
  | (a, y) :: L, k, x, ⟨h2, h3⟩, h0, h1 => by
    have hw := h2
    rw [List.pairwise_cons] at h2
    have ha := h3 (a, y) (by simp)
    simp only at ha
    unfold putS
    split
    · exact ⟨hw, h3⟩
    · split
      · rename_i hk hlt
        refine ⟨List.pairwise_cons.2 ⟨fun q hq => ?_, hw⟩, fun q hq => ?_⟩
        · rcases List.mem_cons.1 hq with rfl | hq
          · exact hlt
          · exact hc.lt_tr hlt (h2.1 q hq)
        · rcases List.mem_cons.1 hq with rfl | hq
          · simp; omega
          · exact h3 q hq
      · split
        · split
          · exact ⟨h2.2, fun q hq => h3 q (by simp [hq])⟩
          · refine ⟨List.pairwise_cons.2 ⟨h2.1, h2.2⟩, fun q hq => ?_⟩
            rcases List.mem_cons.1 hq with rfl | hq
            · have := mP_range (a + k); simp only; omega
            · exact h3 q (by simp [hq])
        · rename_i hk hnl hne
          have ih := putS_nf (k := k) (x := x) ⟨h2.2, fun q hq => h3 q (by simp [hq])⟩ h0 h1
          have hyx : c y x < 0 := by
            rcases Int.lt_trichotomy (c x y) 0 with h | h | h
            · exact absurd h hnl
            · exact absurd h hne
            · exact (hc.anti y x).2 h
          refine ⟨List.pairwise_cons.2 ⟨fun q hq => ?_, ih.1⟩, fun q hq => ?_⟩
          · rcases putS_mem L k x hq with h | ⟨p, hp, h⟩
            · rw [h]; exact hyx
            · rw [← h]; exact h2.1 p hp
          · rcases List.mem_cons.1 hq with rfl | hq
            · exact ha
            · exact ih.2 q hq
theorem putS_coef (z : κ) : ∀ (L : List (Int × κ)) (k : Int) (x : κ), mP (coef c (putS c L k x) z) = mP (coef c L z + if c x z = 0 then k else 0)
  | [], k, x => by
    unfold putS
    split
    · rename_i h; subst h; simp
    · simp [coef]
  | (a, y) :: L, k, x => by
    unfold putS
    split
    · rename_i h; subst h; simp
    · split
      · rw [coef_cons]; congr 1; simp only; omega
      · split
        · rename_i h
          obtain rfl := hc.zero x y h
          split
          · rename_i h4
            rw [coef_cons]
            by_cases h5 : c x z = 0
            · simp only [if_pos h5]; unfold mP at h4 ⊢; omega
            · simp only [if_neg h5]; congr 1; omega
          · rw [coef_cons, coef_cons]
            by_cases h5 : c x z = 0
            · simp only [if_pos h5]; unfold mP; omega
            · simp only [if_neg h5]; congr 1; omega
        · rw [coef_cons, coef_cons]
          have ih := putS_coef z L k x
          unfold mP at ih ⊢
          omega
theorem addS_nf : ∀ {M L : List (Int × κ)}, NfS c L → (∀ q ∈ M, 0 ≤ q.1 ∧ q.1 < 10007) → NfS c (addS c L M)
  | [], L, h, _ => h
  | q :: M, L, h, hM => addS_nf (M := M) (putS_nf hc h (hM q (by simp)).1 (hM q (by simp)).2) (fun p hp => hM p (by simp [hp]))
theorem addS_coef (z : κ) : ∀ (M L : List (Int × κ)), mP (coef c (addS c L M) z) = mP (coef c L z + coef c M z)
  | [], L => by simp [addS, coef]
  | q :: M, L => by
    show mP (coef c (addS c (putS c L q.1 q.2) M) z) = _
    have h1 := addS_coef z M (putS c L q.1 q.2)
    have h2 := putS_coef hc z L q.1 q.2
    rw [h1, coef_cons]
    unfold mP at h2 ⊢
    omega
theorem sumS_nf {M : List (Int × κ)} (hM : ∀ q ∈ M, 0 ≤ q.1 ∧ q.1 < 10007) : NfS c (sumS c M) := addS_nf hc ⟨List.Pairwise.nil, fun q hq => nomatch hq⟩ hM
theorem sumS_coef (M : List (Int × κ)) (z : κ) : mP (coef c (sumS c M) z) = mP (coef c M z) := by
  have := addS_coef hc z M []
  rw [show coef c [] z = 0 from rfl, Int.zero_add] at this
  exact this
theorem sumS_self {L : List (Int × κ)} (h : NfS c L) : sumS c L = L :=
  NfS.ext hc (sumS_nf hc (fun q hq => by have := h.2 q hq; omega)) h (fun x => sumS_coef hc L x)
omit hc
def mergeTo (c : κ → κ → Int) : List (Int × κ) → List (Int × κ) → List (Int × κ)
  | out, [] => out
  | out, (a, x) :: M => mergeTo c (match out.getLast? with
    | some (b, y) => if c y x = 0 then out.dropLast ++ [(mP (b + a), y)] else out ++ [(mP a, x)]
    | none => [(mP a, x)]) M
include hc
theorem mergeTo_coef (z : κ) : ∀ (M out : List (Int × κ)), mP (coef c (mergeTo c out M) z) = mP (coef c out z + coef c M z)
  | [], out => by simp [mergeTo, coef]
  | (a, x) :: M, out => by
    unfold mergeTo
    rw [mergeTo_coef z M, coef_cons]
    rcases nil_or_snoc out with rfl | ⟨o, ⟨b, y⟩, rfl⟩
    · simp only [List.getLast?_nil, coef]
      by_cases h5 : c x z = 0
      · simp only [if_pos h5]; unfold mP; omega
      · simp only [if_neg h5]; unfold mP; omega
    · rw [List.getLast?_concat]
      simp only
      split
      · rename_i h
        obtain rfl := hc.zero y x h
        rw [List.dropLast_concat, coef_append, coef_append]
        simp only [coef]
        by_cases h5 : c y z = 0
        · simp only [if_pos h5]; unfold mP; omega
        · simp only [if_neg h5]; congr 1; omega
      · rw [coef_append]
        simp only [coef]
        by_cases h5 : c x z = 0
        · simp only [if_pos h5]; unfold mP; omega
        · simp only [if_neg h5]; unfold mP; omega
theorem mergeTo_rise : ∀ (M out : List (Int × κ)), M.Pairwise (fun p q => c p.2 q.2 ≤ 0) → out.Pairwise (fun p q => c p.2 q.2 < 0) → (∀ p ∈ out, ∀ q ∈ M, c p.2 q.2 ≤ 0) → (∀ q ∈ out, 0 ≤ q.1 ∧ q.1 < 10007) →
    (mergeTo c out M).Pairwise (fun p q => c p.2 q.2 < 0) ∧ ∀ q ∈ mergeTo c out M, 0 ≤ q.1 ∧ q.1 < 10007
  | [], out, _, h2, _, h4 => ⟨h2, h4⟩
  | (a, x) :: M, out, h1, h2, h3, h4 => by
    rw [List.pairwise_cons] at h1
    unfold mergeTo
    rcases nil_or_snoc out with rfl | ⟨o, ⟨b, y⟩, rfl⟩
    · simp only [List.getLast?_nil]
      exact mergeTo_rise M _ h1.2 (List.pairwise_singleton _ _) (fun p hp q hq => by simp at hp; subst hp; exact h1.1 q hq) (fun q hq => by simp at hq; subst hq; exact mP_range a)
    · rw [List.getLast?_concat]
      simp only
      have h2' := List.pairwise_append.1 h2
      split
      · rename_i h
        obtain rfl := hc.zero y x h
        rw [List.dropLast_concat]
        refine mergeTo_rise M _ h1.2 (List.pairwise_append.2 ⟨h2'.1, List.pairwise_singleton _ _, fun p hp q hq => ?_⟩) (fun p hp q hq => ?_) (fun q hq => ?_)
        · simp at hq; subst hq; exact h2'.2.2 p hp (b, y) (by simp)
        · rcases List.mem_append.1 hp with hp | hp
          · exact h3 p (by simp [hp]) q (by simp [hq])
          · simp at hp; subst hp; exact h1.1 q hq
        · rcases List.mem_append.1 hq with hq | hq
          · exact h4 q (by simp [hq])
          · simp at hq; subst hq; exact mP_range _
      · rename_i h
        have hyx : c y x < 0 := by
          have := h3 (b, y) (by simp) (a, x) (by simp)
          simp only at this
          omega
        refine mergeTo_rise M _ h1.2 (List.pairwise_append.2 ⟨h2, List.pairwise_singleton _ _, fun p hp q hq => ?_⟩) (fun p hp q hq => ?_) (fun q hq => ?_)
        · simp at hq; subst hq
          rcases List.mem_append.1 hp with hp | hp
          · exact hc.lt_tr (h2'.2.2 p hp (b, y) (by simp)) hyx
          · simp at hp; subst hp; exact hyx
        · rcases List.mem_append.1 hp with hp | hp
          · exact h3 p hp q (by simp [hq])
          · simp at hp; subst hp; exact h1.1 q hq
        · rcases List.mem_append.1 hq with hq | hq
          · exact h4 q hq
          · simp at hq; subst hq; exact mP_range _
omit hc in
theorem coef_filter (z : κ) (L : List (Int × κ)) : coef c (L.filter fun q => !decide (q.1 = 0)) z = coef c L z := by
  induction L with
  | nil => rfl
  | cons q L ih =>
    rw [List.filter_cons]
    by_cases h : q.1 = 0
    · simp only [h, decide_true, Bool.not_true, Bool.false_eq_true, if_false, ih, coef_cons]; simp
    · simp only [h, decide_false, Bool.not_false, if_true, coef_cons, ih]
theorem merge_sum {L S : List (Int × κ)} (hp : S.Perm L) (hs : S.Pairwise (fun p q => c p.2 q.2 ≤ 0)) (hL : ∀ q ∈ L, 0 ≤ q.1 ∧ q.1 < 10007) :
    (mergeTo c [] S).filter (fun q => !decide (q.1 = 0)) = sumS c L := by
  obtain ⟨h1, h2⟩ := mergeTo_rise hc S [] hs List.Pairwise.nil (fun p hp => nomatch hp) (fun q hq => nomatch hq)
  refine NfS.ext hc ⟨h1.filter _, fun q hq => ?_⟩ (sumS_nf hc hL) (fun x => ?_)
  · rw [List.mem_filter] at hq
    have := h2 q hq.1
    have h0 : q.1 ≠ 0 := by simpa using hq.2
    omega
  · rw [coef_filter, sumS_coef hc, mergeTo_coef hc, ← coef_perm hp]
    simp [coef]
end
end Go.Proofs.YtacbkjmkjpjhoaaGreat
namespace Go.Proofs.YtacbkjmkjpjhoaaGreat
def thenC {α : Type} (f : α → Int) (c : α → α → Int) (a b : α) : Int := if f a = f b then c a b else f a - f b
def lexC {α : Type} (c : α → α → Int) : List α → List α → Int
  | [], [] => 0
  | [], _ :: _ => -1
  | _ :: _, [] => 1
  | a :: xs, b :: bs => if c a b = 0 then lexC c xs bs else c a b
theorem thenC_cmp {α : Type} {f : α → Int} {c : α → α → Int} (h : Cmp c) : Cmp (thenC f c) where
  zero a b e := by
    unfold thenC at e
    split at e
    · exact h.zero a b e
    · omega
  refl a := by unfold thenC; rw [if_pos rfl]; exact h.refl a
  anti a b := by
    unfold thenC
    by_cases e : f a = f b
    · rw [if_pos e, if_pos e.symm]; exact h.anti a b
    · rw [if_neg e, if_neg (fun k => e k.symm)]; omega
  trans a b d h1 h2 := by
    unfold thenC at h1 h2 ⊢
    split at h1 <;> split at h2 <;> split <;> first | omega | (exact h.trans a b d h1 h2)
theorem Cmp.sym0 {α : Type} {c : α → α → Int} (h : Cmp c) {a b : α} (e : c a b = 0) : c b a = 0 := by rw [h.zero a b e]; exact h.refl b
theorem lexC_cmp {α : Type} {c : α → α → Int} (h : Cmp c) : Cmp (lexC c) where
  zero := by
    intro a
    induction a with
    | nil => intro b e; cases b with
      | nil => rfl
      | cons y bs => simp [lexC] at e
    | cons x xs ih => intro b e; cases b with
      | nil => simp [lexC] at e
      | cons y bs =>
        unfold lexC at e
        split at e
        · rename_i h1; rw [h.zero x y h1, ih bs e]
        · rename_i h1; exact absurd e h1
  refl := by
    intro a
    induction a with
    | nil => rfl
    | cons x xs ih => unfold lexC; rw [if_pos (h.refl x)]; exact ih
  anti := by
    intro a
    induction a with
    | nil => intro b; cases b <;> simp [lexC]
    | cons x xs ih => intro b; cases b with
      | nil => simp [lexC]
      | cons y bs =>
        unfold lexC
        by_cases e : c x y = 0
        · rw [if_pos e, if_pos (h.sym0 e)]; exact ih bs
        · rw [if_neg e, if_neg (fun k => e (h.sym0 k))]; exact h.anti x y
  trans := by
    intro a
    induction a with
    | nil => intro b d _ h2; cases d with
      | nil => simp [lexC]
      | cons z ds => simp [lexC]
    | cons x xs ih => intro b d h1 h2; cases b with
      | nil => simp [lexC] at h1
      | cons y bs => cases d with
        | nil => simp [lexC] at h2
        | cons z ds =>
          unfold lexC at h1 h2 ⊢
          have l1 : c x y ≤ 0 := by split at h1 <;> omega
          have l2 : c y z ≤ 0 := by split at h2 <;> omega
          have l3 := h.trans x y z l1 l2
          by_cases e : c x z = 0
          · rw [if_pos e]
            obtain rfl := h.zero x z e
            have e1 : c x y = 0 := by
              rcases Int.lt_trichotomy (c x y) 0 with k | k | k
              · have := (h.anti x y).1 k; omega
              · exact k
              · omega
            rw [if_pos e1] at h1
            rw [if_pos (h.sym0 e1)] at h2
            exact ih bs ds h1 h2
          · rw [if_neg e]; exact l3
def cmpF : List (List Int) → List (List Int) → Int := thenC (fun f => (sumLen f : Int)) (thenC (fun f => (f.length : Int)) (lexC cmpT))
theorem cmpF_cmp : Cmp cmpF := thenC_cmp (thenC_cmp (lexC_cmp cmpT_cmp))
def sgn (n : Int) : Int := if n < 0 then -1 else if n = 0 then 0 else 1
end Go.Proofs.YtacbkjmkjpjhoaaGreat
namespace Go.Proofs.YtacbkjmkjpjhoaaGreat
section
variable {α : Type} {c : α → α → Int} (hc : Cmp c)
include hc
theorem lexC_ins (x : α) : ∀ {f g : List α}, f.Pairwise (fun a b => c a b ≤ 0) → g.Pairwise (fun a b => c a b ≤ 0) → f.length = g.length → lexC c f g < 0 → lexC c (ins c x f) (ins c x g) < 0
  | [], [], _, _, _, h => by simp [lexC] at h
  | [], _ :: _, _, _, hl, _ => by simp at hl
  | _ :: _, [], _, _, hl, _ => by simp at hl
  | a :: f, b :: g, h1, h2, hl, h => by
    have w1 := h1
    rw [List.pairwise_cons] at h1 h2
    have hself : ∀ y : α, ∀ u v, lexC c (y :: u) (y :: v) = lexC c u v := fun y u v => by show (if c y y = 0 then _ else _) = _; rw [if_pos (hc.refl y)]
    have hlt : ∀ (y z : α) u v, c y z < 0 → lexC c (y :: u) (z :: v) < 0 := fun y z u v hyz => by
      show (if c y z = 0 then _ else _) < 0
      rw [if_neg (by omega)]; exact hyz
    by_cases hab : c a b = 0
    · obtain rfl := hc.zero a b hab
      have h3 : lexC c f g < 0 := by rwa [hself] at h
      unfold ins
      split
      · rw [hself, hself]; exact h3
      · rw [hself]
        exact lexC_ins x h1.2 h2.2 (by simpa using hl) h3
    · have hab' : c a b < 0 := by
        have : (if c a b = 0 then lexC c f g else c a b) < 0 := h
        rwa [if_neg hab] at this
      by_cases hxa : c x a < 0
      · have hxb := hc.lt_tr hxa hab'
        unfold ins
        rw [if_pos hxa, if_pos hxb, hself]
        exact hlt _ _ _ _ hab'
      · by_cases hxb : c x b < 0
        · unfold ins
          rw [if_neg hxa, if_pos hxb]
          have hax := hc.le_of_not_lt hxa
          by_cases hax0 : c a x = 0
          · obtain rfl := hc.zero a x hax0
            rw [hself]
            cases f with
            | nil => exact hlt _ _ _ _ hab'
            | cons y f =>
              unfold ins
              split
              · exact hlt _ _ _ _ hab'
              · rename_i hay
                have h5 := h1.1 y (by simp)
                have h6 : c a y = 0 := by omega
                obtain rfl := hc.zero a y h6
                exact hlt _ _ _ _ hab'
          · exact hlt _ _ _ _ (by omega)
        · unfold ins
          rw [if_neg hxa, if_neg hxb]
          exact hlt _ _ _ _ hab'
end
def mulF (f g : List (List Int)) : List (List Int) := sortC cmpT (f ++ g)
theorem prime_small : ∀ x < 102, 2 ≤ x → 10007 % x ≠ 0 := by decide +kernel
theorem prime_dvd {d : Nat} (h : d ∣ 10007) : d = 1 ∨ d = 10007 := by
  obtain ⟨k, hk⟩ := h
  have hd : d ≠ 0 := by rintro rfl; omega
  have hk0 : k ≠ 0 := by rintro rfl; omega
  by_cases h1 : d = 1
  · exact .inl h1
  · by_cases h2 : d < 102
    · exact absurd (by rw [hk]; exact Nat.mul_mod_right d k) (prime_small d h2 (by omega))
    · by_cases h3 : k = 1
      · subst h3; right; omega
      · have h4 : k < 102 := by
          rcases Nat.lt_or_ge k 102 with h | h
          · exact h
          · have := Nat.mul_le_mul (show 102 ≤ d by omega) h
            omega
        exact absurd (by rw [hk]; exact Nat.mul_mod_left d k) (prime_small k h4 (by omega))
theorem prime_gcd (a : Nat) (ha : a < 10007) (h0 : a ≠ 0) : Nat.gcd 10007 a = 1 := by
  rcases prime_dvd (Nat.gcd_dvd_left 10007 a) with h | h
  · exact h
  · have := Nat.le_of_dvd (by omega) (h ▸ Nat.gcd_dvd_right 10007 a)
    omega
theorem prime_mul {a b : Int} (ha : 1 ≤ a ∧ a < 10007) (hb : 1 ≤ b ∧ b < 10007) : mP (a * b) ≠ 0 := by
  intro h
  obtain ⟨m, rfl⟩ := Int.eq_ofNat_of_zero_le (show 0 ≤ a by omega)
  obtain ⟨n, rfl⟩ := Int.eq_ofNat_of_zero_le (show 0 ≤ b by omega)
  have h1 : (m * n) % 10007 = 0 := by
    unfold mP at h
    have : ((m * n : Nat) : Int) % 10007 = 0 := by rw [Int.natCast_mul]; exact h
    omega
  have h2 : 10007 ∣ m * n := Nat.dvd_of_mod_eq_zero h1
  have h3 : Nat.Coprime 10007 m := prime_gcd m (by omega) (by omega)
  have h4 := h3.dvd_of_dvd_mul_left h2
  have := Nat.le_of_dvd (by omega) h4
  omega
theorem mulF_len (f g : List (List Int)) : (mulF f g).length = f.length + g.length := by unfold mulF; rw [sortC_length, List.length_append]
theorem mulF_sum (f g : List (List Int)) : sumLen (mulF f g) = sumLen f + sumLen g := by
  unfold mulF; rw [sumLen_perm (sortC_perm _)]; simp [sumLen]
theorem mulF_comm (f g : List (List Int)) : mulF f g = mulF g f := sortC_congr cmpT_cmp (List.perm_append_comm)
theorem lexC_mul : ∀ (h f g : List (List Int)), f.Pairwise (fun a b => cmpT a b ≤ 0) → g.Pairwise (fun a b => cmpT a b ≤ 0) → f.length = g.length → lexC cmpT f g < 0 → lexC cmpT (h.foldl (fun s x => ins cmpT x s) f) (h.foldl (fun s x => ins cmpT x s) g) < 0
  | [], _, _, _, _, _, hlt => hlt
  | x :: h, f, g, h1, h2, hl, hlt => lexC_mul h _ _ (ins_sorted cmpT_cmp x f h1) (ins_sorted cmpT_cmp x g h2) (by rw [ins_length, ins_length, hl]) (lexC_ins cmpT_cmp x h1 h2 hl hlt)
theorem mulF_foldl {f : List (List Int)} (h : List (List Int)) (hf : f.Pairwise (fun a b => cmpT a b ≤ 0)) : mulF f h = h.foldl (fun s x => ins cmpT x s) f := by
  unfold mulF sortC
  rw [List.foldl_append]
  congr 1
  exact sortC_of_sorted cmpT_cmp hf
theorem cmpF_mul {f g : List (List Int)} (h : List (List Int)) (hf : f.Pairwise (fun a b => cmpT a b ≤ 0)) (hg : g.Pairwise (fun a b => cmpT a b ≤ 0)) (hlt : cmpF f g < 0) : cmpF (mulF f h) (mulF g h) < 0 := by
  unfold cmpF thenC at hlt ⊢
  simp only [mulF_sum, mulF_len] at hlt ⊢
  by_cases h1 : sumLen f = sumLen g
  · by_cases h2 : f.length = g.length
    · rw [if_pos (by rw [h1])] at hlt ⊢
      rw [if_pos (by rw [h2])] at hlt ⊢
      rw [mulF_foldl h hf, mulF_foldl h hg]
      exact lexC_mul h f g hf hg h2 hlt
    · rw [if_pos (by rw [h1])] at hlt ⊢
      rw [if_neg (by omega)] at hlt ⊢
      omega
  · rw [if_neg (by omega)] at hlt ⊢
    omega
def prodL (d e : List (Int × List (List Int))) : List (Int × List (List Int)) := d.flatMap fun p => e.map fun q => (mP (p.1 * q.1), mulF p.2 q.2)
def SrtF (L : List (Int × List (List Int))) : Prop := ∀ q ∈ L, q.2.Pairwise fun a b => cmpT a b ≤ 0
theorem prodL_snoc (d e : List (Int × List (List Int))) (p : Int × List (List Int)) : prodL (d ++ [p]) e = prodL d e ++ e.map fun q => (mP (p.1 * q.1), mulF p.2 q.2) := by
  unfold prodL; rw [List.flatMap_append]; simp
theorem prod_top {d e : List (Int × List (List Int))} {p q : Int × List (List Int)} (hd : NfS cmpF (d ++ [p])) (he : NfS cmpF (e ++ [q])) (sd : SrtF (d ++ [p])) (se : SrtF (e ++ [q])) :
    mP (coef cmpF (prodL (d ++ [p]) (e ++ [q])) (mulF p.2 q.2)) = mP (p.1 * q.1) := by
  have h1 := (List.pairwise_append.1 hd.1).2.2
  have h2 := (List.pairwise_append.1 he.1).2.2
  have hC := cmpF_cmp
  have hlast : ∀ r ∈ e, cmpF (mulF p.2 r.2) (mulF p.2 q.2) < 0 := fun r hr => by
    rw [mulF_comm p.2 r.2, mulF_comm p.2 q.2]
    exact cmpF_mul p.2 (se r (by simp [hr])) (se q (by simp)) (h2 r hr q (by simp))
  have hfirst : coef cmpF (prodL d (e ++ [q])) (mulF p.2 q.2) = 0 := coef_zero (fun z hz => by
    unfold prodL at hz
    rw [List.mem_flatMap] at hz
    obtain ⟨r, hr, hz⟩ := hz
    rw [List.mem_map] at hz
    obtain ⟨u, hu, rfl⟩ := hz
    have h3 : cmpF (mulF r.2 u.2) (mulF p.2 u.2) < 0 := cmpF_mul u.2 (sd r (by simp [hr])) (sd p (by simp)) (h1 r hr p (by simp))
    have h4 : cmpF (mulF r.2 u.2) (mulF p.2 q.2) < 0 := by
      rcases List.mem_append.1 hu with hu | hu
      · exact hC.lt_tr h3 (hlast u hu)
      · simp at hu; subst hu; exact h3
    show cmpF (mulF r.2 u.2) (mulF p.2 q.2) ≠ 0
    omega)
  rw [prodL_snoc, coef_append, hfirst, List.map_append, coef_append]
  have hmid : coef cmpF (e.map fun q => (mP (p.1 * q.1), mulF p.2 q.2)) (mulF p.2 q.2) = 0 := coef_zero (fun z hz => by
    rw [List.mem_map] at hz
    obtain ⟨u, hu, rfl⟩ := hz
    have := hlast u hu
    show cmpF (mulF p.2 u.2) (mulF p.2 q.2) ≠ 0
    omega)
  rw [hmid]
  show mP (0 + (0 + ((if cmpF (mulF p.2 q.2) (mulF p.2 q.2) = 0 then mP (p.1 * q.1) else 0) + 0))) = _
  rw [if_pos (hC.refl _)]
  unfold mP; omega
theorem nz_mem {κ : Type} {c : κ → κ → Int} (hc : Cmp c) {L : List (Int × κ)} {x : κ} (h : mP (coef c L x) ≠ 0) : ∃ q ∈ L, q.2 = x := by
  by_cases hx : ∃ q ∈ L, q.2 = x
  · exact hx
  · exfalso
    refine h ?_
    rw [coef_zero (fun q hq e => hx ⟨q, hq, hc.zero _ _ e⟩)]; rfl
theorem prod_deg {d e : List (Int × List (List Int))} {p q : Int × List (List Int)} (hd : NfS cmpF (d ++ [p])) (he : NfS cmpF (e ++ [q])) (sd : SrtF (d ++ [p])) (se : SrtF (e ++ [q])) :
    ∃ r ∈ sumS cmpF (prodL (d ++ [p]) (e ++ [q])), sumLen r.2 = sumLen p.2 + sumLen q.2 := by
  have h : mP (coef cmpF (sumS cmpF (prodL (d ++ [p]) (e ++ [q]))) (mulF p.2 q.2)) ≠ 0 := by
    rw [sumS_coef cmpF_cmp, prod_top hd he sd se]
    exact prime_mul (hd.2 p (by simp)) (he.2 q (by simp))
  obtain ⟨r, h1, h2⟩ := nz_mem cmpF_cmp h
  exact ⟨r, h1, by rw [h2, mulF_sum]⟩
def cmpN : List (List Int) → List (List Int) → Int := thenC (fun f => (f.length : Int)) (lexC cmpT)
theorem cmpN_eq (f g : List (List Int)) : cmpN f g = if (f.length : Int) = g.length then lexC cmpT f g else (f.length : Int) - g.length := rfl
theorem cmpF_N (f g : List (List Int)) : cmpF f g = if (sumLen f : Int) = sumLen g then cmpN f g else (sumLen f : Int) - sumLen g := rfl
end Go.Proofs.YtacbkjmkjpjhoaaGreat
namespace Go.Proofs.YtacbkjmkjpjhoaaGreat
open Go.RowKit
theorem lexC_step {α : Type} {c : α → α → Int} {f g : List α} {k : Nat} (h1 : k < f.length) (h2 : k < g.length) : lexC c (f.drop k) (g.drop k) = if c f[k] g[k] = 0 then lexC c (f.drop (k + 1)) (g.drop (k + 1)) else c f[k] g[k] := by
  rw [List.drop_eq_getElem_cons h1, List.drop_eq_getElem_cons h2]; rfl
theorem lexC_endL {α : Type} {c : α → α → Int} {f g : List α} {k : Nat} (h1 : ¬ k < f.length) (h2 : k < g.length) : lexC c (f.drop k) (g.drop k) = -1 := by
  rw [List.drop_eq_nil_of_le (Nat.not_lt.1 h1), List.drop_eq_getElem_cons h2]; rfl
theorem lexC_endR {α : Type} {c : α → α → Int} {f g : List α} {k : Nat} (h1 : k < f.length) (h2 : ¬ k < g.length) : lexC c (f.drop k) (g.drop k) = 1 := by
  rw [List.drop_eq_getElem_cons h1, List.drop_eq_nil_of_le (Nat.not_lt.1 h2)]; rfl
theorem lexC_end0 {α : Type} {c : α → α → Int} {f g : List α} {k : Nat} (h1 : ¬ k < f.length) (h2 : ¬ k < g.length) : lexC c (f.drop k) (g.drop k) = 0 := by
  rw [List.drop_eq_nil_of_le (Nat.not_lt.1 h1), List.drop_eq_nil_of_le (Nat.not_lt.1 h2)]; rfl
set_option maxRecDepth 100000 in
set_option maxHeartbeats 2000000 in
theorem c_CompareFunc (v1 v2 : Value) (f g : List (List Int)) (w : World) (h1 : Rd (RS (RS RI)) w [v1] f) (h2 : Rd (RS (RS RI)) w [v2] g) :
    Calls Tryz.prog 162 #[v1, v2, .func (.func 136) #[] #[]] w (RetS w (.int .i64 (lexC cmpT f g))) := by
  obtain ⟨oa, ca, L1⟩ := h1.lists
  obtain ⟨ob, cb, L2⟩ := h2.lists
  obtain rfl := L1.val
  obtain rfl := L2.val
  have m1 := L1.le; have m2 := L1.capLe; have m3 := L2.le; have m4 := L2.capLe
  unfold maxLen at m2 m4
  have HL1 := Lib.hid L1
  have HL2 := Lib.hid L2
  clear L1 L2 h1 h2
  go_enter Tryz.func162, Tryz.ntmps162
  go_wp2_with fail
  go_loop [13] (fun i => ∃ k : Nat, k ≤ f.length ∧ k ≤ g.length ∧ i = .int .i64 k ∧ lexC cmpT f g = lexC cmpT (f.drop k) (g.drop k)) (fun i => f.length - (intOf i).toNat)
  case atStart => exact ⟨0, Nat.zero_le _, Nat.zero_le _, rfl, by simp⟩
  case round =>
    obtain ⟨k, hk, hk2, rfl, he⟩ := hrel
    have He := Lib.hid he
    clear he
    by_cases hlt : k < f.length
    · obtain ⟨b1, o1, rfl, hb1, hc1⟩ := HL1.out.get hlt
      obtain ⟨oi, ci, g1, hrd1, q1, q2⟩ := hc1 k hlt
      clear hc1
      by_cases hlt2 : k < g.length
      · obtain ⟨b2, o2, rfl, hb2, hc2⟩ := HL2.out.get hlt2
        obtain ⟨oj, cj, g2, hrd2, q3, q4⟩ := hc2 k hlt2
        clear hc2
        have hs := lexC_step (c := cmpT) hlt hlt2
        by_cases h0 : cmpT f[k] g[k] = 0
        · rw [if_pos h0] at hs
          have hcall := c_impl_compareTrees _ _ _ _ w hrd1 hrd2
          rw [h0] at hcall
          have HC := Lib.hid hcall
          have Hs := Lib.hid hs
          obtain ⟨x1, hx1⟩ : ∃ x, x = f[k].length := ⟨_, rfl⟩
          obtain ⟨x2, hx2⟩ : ∃ x, x = g[k].length := ⟨_, rfl⟩
          rw [← hx1] at g1 q1 HC
          rw [← hx2] at g2 q3 HC
          clear hs h0 hcall hrd1 hrd2 hx1 hx2
          go_wp2_with (go_at_call 136; refine HC.out.mono ?_; rintro e w' ⟨rfl, rfl⟩)
          go_round
          case rel => exact ⟨k + 1, by omega, by omega, by go_num, by rw [He.out, Hs.out]⟩
          case measure => simp [intOf]; omega
        · rw [if_neg h0] at hs
          have hcall := c_impl_compareTrees _ _ _ _ w hrd1 hrd2
          have hb : (cmpT f[k] g[k] != 0) = true := by simp [h0]
          obtain ⟨z, hz⟩ : ∃ z, z = cmpT f[k] g[k] := ⟨_, rfl⟩
          rw [← hz] at hcall hb hs
          have HC := Lib.hid hcall
          have Hs := Lib.hid hs
          obtain ⟨x1, hx1⟩ : ∃ x, x = f[k].length := ⟨_, rfl⟩
          obtain ⟨x2, hx2⟩ : ∃ x, x = g[k].length := ⟨_, rfl⟩
          rw [← hx1] at g1 q1 HC
          rw [← hx2] at g2 q3 HC
          clear hs h0 hcall hrd1 hrd2 hx1 hx2 hz
          go_wp2_with (go_at_call 136; refine HC.out.mono ?_; rintro e w' ⟨rfl, rfl⟩)
          go_ret
          exact ⟨by (rw [He.out, Hs.out] <;> rfl), rfl⟩
      · have HE := Lib.hid (lexC_endR (c := cmpT) hlt hlt2)
        go_wp2_with fail
        go_ret
        exact ⟨by (rw [He.out, HE.out] <;> rfl), rfl⟩
    · by_cases hlt2 : k < g.length
      · have HE := Lib.hid (lexC_endL (c := cmpT) hlt hlt2)
        go_wp2_with fail
        go_ret
        exact ⟨by (rw [He.out, HE.out] <;> rfl), rfl⟩
      · have HE := Lib.hid (lexC_end0 (c := cmpT) hlt hlt2)
        go_wp2_with fail
        go_ret
        exact ⟨by (rw [He.out, HE.out] <;> rfl), rfl⟩
set_option maxRecDepth 100000 in
set_option maxHeartbeats 400000 in
theorem c_compareTrunks (v1 v2 : Value) (f g : List (List Int)) (w : World) (h1 : Rd (RS (RS RI)) w [v1] f) (h2 : Rd (RS (RS RI)) w [v2] g) :
    Calls Tryz.prog 124 #[v1, v2] w (RetS w (.int .i64 (cmpN f g))) := by
  obtain ⟨oa, c1, e1, m1, m2⟩ := h1.val
  obtain ⟨ob, c2, e2, m3, m4⟩ := h2.val
  subst e1; subst e2
  unfold maxLen at m2 m4
  rw [cmpN_eq]
  by_cases hl : f.length = g.length
  · have hlb : ((f.length : Int) != (g.length : Int)) = false := by simp [hl]
    have hcall := c_CompareFunc _ _ _ _ w h1 h2
    rw [if_pos (by rw [hl])]
    have HC := Lib.hid hcall
    clear hl hcall h1 h2
    go_enter Tryz.func124, Tryz.ntmps124
    go_wp2_with (go_at_call 162; refine HC.out.mono ?_; rintro e w' ⟨rfl, rfl⟩)
    go_ret
    exact ⟨rfl, rfl⟩
  · have hlb : ((f.length : Int) != (g.length : Int)) = true := by simp; omega
    have hw : IntKind.i64.wrap ((f.length : Int) - (g.length : Int)) = (f.length : Int) - (g.length : Int) := IntWalk.i64_in _ (by omega)
    rw [if_neg (by omega)]
    clear h1 h2
    go_enter Tryz.func124, Tryz.ntmps124
    go_wp2_with fail
    go_ret
    exact ⟨rfl, rfl⟩
set_option maxRecDepth 100000 in
set_option maxHeartbeats 400000 in
theorem c_compareForests (v1 v2 : Value) (f g : List (List Int)) (w : World) (h1 : Rd (RS (RS RI)) w [v1] f) (h2 : Rd (RS (RS RI)) w [v2] g) (hf : sumLen f ≤ 1000000000000000000) (hg : sumLen g ≤ 1000000000000000000) :
    Calls Tryz.prog 77 #[v1, v2] w (RetS w (.int .i64 (cmpF f g))) := by
  have hn1 := c_impl_nodesIn _ _ w h1
  have hn2 := c_impl_nodesIn _ _ w h2
  rw [nodesB_eq f hf] at hn1
  rw [nodesB_eq g hg] at hn2
  have ht := c_compareTrunks _ _ _ _ w h1 h2
  rw [cmpF_N]
  obtain ⟨p, hp⟩ : ∃ p, p = sumLen f := ⟨_, rfl⟩
  obtain ⟨q, hq⟩ : ∃ q, q = sumLen g := ⟨_, rfl⟩
  rw [← hp] at hf hn1 ⊢
  rw [← hq] at hg hn2 ⊢
  have hw : IntKind.i64.wrap ((p : Int) - (q : Int)) = (p : Int) - (q : Int) := IntWalk.i64_in _ (by omega)
  obtain ⟨Rl, hR⟩ : ∃ R : Value → Int → Prop, ∀ v n, R v n ↔ Calls Tryz.prog 88 #[v] w (RetS w (.int .i64 n)) := ⟨_, fun _ _ => Iff.rfl⟩
  have r1 : Rl v1 p := (hR _ _).2 hn1
  have r2 : Rl v2 q := (hR _ _).2 hn2
  have HN : Hid (∀ v n, Rl v n → Calls Tryz.prog 88 #[v] w (RetS w (.int .i64 n))) := Lib.hid (fun v n => (hR v n).1)
  have H3 := Lib.hid ht
  clear hp hq h1 h2 hn1 hn2 ht hR
  by_cases hl : (p : Int) = q
  · have hlb : (((p : Int) - (q : Int)) != 0) = false := by rw [hl]; simp
    rw [if_pos hl]
    clear hl
    go_enter Tryz.func77, Tryz.ntmps77
    go_wp2_with (first | (go_at_call 88; refine (HN.out _ _ (by assumption)).mono ?_; rintro e w' ⟨rfl, rfl⟩) | (go_at_call 124; refine H3.out.mono ?_; rintro e w' ⟨rfl, rfl⟩))
    go_ret
    exact ⟨rfl, rfl⟩
  · have hlb : (((p : Int) - (q : Int)) != 0) = true := by simp; omega
    rw [if_neg hl]
    clear hl
    go_enter Tryz.func77, Tryz.ntmps77
    go_wp2_with (go_at_call 88; refine (HN.out _ _ (by assumption)).mono ?_; rintro e w' ⟨rfl, rfl⟩)
    go_ret
    exact ⟨rfl, rfl⟩
theorem cmpF_in64 {f g : List (List Int)} (hf : sumLen f ≤ 1000000000000000000) (hg : sumLen g ≤ 1000000000000000000) (h1 : f.length ≤ maxLen) (h2 : g.length ≤ maxLen) (h3 : ∀ t ∈ f, t.length ≤ maxLen) (h4 : ∀ t ∈ g, t.length ≤ maxLen) : In64 (cmpF f g) := by
  have hl : ∀ (f g : List (List Int)), (∀ t ∈ f, t.length ≤ maxLen) → (∀ t ∈ g, t.length ≤ maxLen) → In64 (lexC cmpT f g) := by
    intro f
    induction f with
    | nil => intro g _ _; cases g <;> (unfold lexC In64; omega)
    | cons x xs ih => intro g h3 h4; cases g with
      | nil => unfold lexC In64; omega
      | cons y bs =>
        unfold lexC
        split
        · exact ih bs (fun t ht => h3 t (by simp [ht])) (fun t ht => h4 t (by simp [ht]))
        · exact cmpT_in64 (h3 x (by simp)) (h4 y (by simp))
  rw [cmpF_N, cmpN_eq]
  unfold maxLen at h1 h2
  split
  · split
    · exact hl f g h3 h4
    · unfold In64; omega
  · unfold In64; omega
end Go.Proofs.YtacbkjmkjpjhoaaGreat
namespace Go.Proofs.YtacbkjmkjpjhoaaGreat
open Go.RowKit
section
variable {β : Type} {S : Rep β} {w : World}
theorem OwnF.partAt {v : Value} {xs : List (Int × β)} {F : List Nat} (h : OwnF (RS (RP RI S)) F w [v] xs) (hS : S.k = 1) (i : Nat) (hi : i < xs.length) :
    ∃ g cap s G, v = .slice (some ⟨g, 0, none⟩) xs.length cap ∧ xs.length ≤ cap ∧ cap ≤ 9223372036854775807 ∧ g < w.heap.size ∧ w.cell? ⟨g, i * 2, none⟩ = some (.int .i64 xs[i].1) ∧ w.cell? ⟨g, i * 2 + 1, none⟩ = some s ∧ w.frozen? ⟨g, i * 2, none⟩ = false ∧
      OwnF S G w [s] xs[i].2 ∧ (∀ b, b ∈ G → b ∈ F ∧ b ≠ g) ∧
      (∀ n, In64 n → OwnF (RS (RP RI S)) F (w.setCell ⟨g, i * 2, none⟩ (.int .i64 n)) [v] (xs.set i (n, xs[i].2)) ∧ ChgF F w (w.setCell ⟨g, i * 2, none⟩ (.int .i64 n))) ∧
      (∀ (w' : World) (y : β), OwnF S G w' [s] y → ChgF G w w' → OwnF (RS (RP RI S)) F w' [v] (xs.set i (xs[i].1, y)) ∧ ChgF F w w') := by
  have hlt := h.lt
  have hnd := h.2
  have hk2 : (RP RI S).k = 2 := by show 1 + S.k = 2; omega
  obtain ⟨g, cap, d1, c, d2, F1, G0, F2, hv, hc1, hc2, rfl, hcl, hd1, hx, hrow, hK⟩ := h.lens i hi
  rw [hk2] at hd1 hrow
  have hx0 := hx
  obtain ⟨c1, c2, Ga, G, rfl, rfl, ⟨⟨rfl, hb⟩, rfl⟩, hs⟩ := hx0
  have hsl := S.rd_len (S.own_rd hs)
  rw [hS] at hsl
  match c2, hsl with
  | [s], _ =>
  simp only [List.nil_append] at *
  have hn1 := List.nodup_cons.1 hnd
  have hn2 := List.nodup_append.1 hn1.2
  have hn3 := List.nodup_append.1 hn2.2.1
  have e1 : d1 ++ ([Value.int IntKind.i64 xs[i].1] ++ [s] ++ d2) = d1 ++ (Value.int IntKind.i64 xs[i].1 :: s :: d2) := by simp
  have g1 : w.cell? ⟨g, i * 2, none⟩ = some (.int .i64 xs[i].1) := hrow.cells (i * 2) _ (by rw [e1, List.getElem?_append_right (by omega), hd1]; simp)
  have g2 : w.cell? ⟨g, i * 2 + 1, none⟩ = some s := hrow.cells (i * 2 + 1) _ (by rw [e1, List.getElem?_append_right (by omega), hd1]; simp)
  have hGF : ∀ b, b ∈ G → b ∈ g :: (F1 ++ (G ++ F2)) ∧ b ≠ g := fun b hb => ⟨by simp [hb], fun e => hn1.1 (by subst e; simp [hb])⟩
  refine ⟨g, cap, s, G, hv, hc1, hc2, hlt g (by simp), g1, g2, hrow.frozen _, ⟨hs, hn3.1⟩, hGF, ?_, ?_⟩
  · intro n hn
    obtain ⟨hst, hgr⟩ := hrow.store (i * 2) (.int .i64 n)
    have hset : (d1 ++ ([Value.int IntKind.i64 xs[i].1] ++ [s] ++ d2)).set (i * 2) (.int .i64 n) = d1 ++ ([Value.int IntKind.i64 n] ++ [s] ++ d2) := by
      rw [List.set_append_right _ _ (by omega), hd1, Nat.sub_self]; rfl
    rw [hset] at hst
    have hfr : ∀ b, b ≠ g → (w.setCell ⟨g, i * 2, none⟩ (.int .i64 n)).heap[b]? = w.heap[b]? := fun b hb => heap_setCell_other w ⟨g, i * 2, none⟩ b _ hb
    refine ⟨hK _ [.int .i64 n, s] (n, xs[i].2) G (by rw [hk2]; rfl) ⟨[.int .i64 n], [s], [], G, rfl, rfl, ⟨⟨rfl, hn⟩, rfl⟩, S.own_frame hs (fun b hb => hfr b (hGF b hb).2)⟩ (fun b hb => hfr b ?_) (by rw [hk2]; exact hst) hnd, (ChgF.of_grown hgr).mono (fun b hb => by simp at hb; simp [hb])⟩
    intro e
    subst e
    rcases List.mem_append.1 hb with h | h
    · exact hn1.1 (by simp [h])
    · exact hn1.1 (by simp [h])
  · intro w' y hy hch
    have hfr : ∀ b, b ∈ F1 ++ F2 → w'.heap[b]? = w.heap[b]? := by
      intro b hm
      refine hch.block b (hlt b ?_) ?_
      · rcases List.mem_append.1 hm with hm | hm
        · simp [hm]
        · simp [hm]
      · intro hG
        rcases List.mem_append.1 hm with hm | hm
        · exact hn2.2.2 b hm b (by simp [hG]) rfl
        · exact hn3.2.2 b hG b hm rfl
    have hrow' : Row w' v 2 xs.length (d1 ++ ([Value.int IntKind.i64 xs[i].1] ++ [s] ++ d2)) (some g) := hrow.frame (fun g' hg' => by cases hg'; exact hch.block g (hlt g (by simp)) (fun e => (hGF g e).2 rfl))
    exact ⟨hK _ [.int .i64 xs[i].1, s] (xs[i].1, y) G (by rw [hk2]; rfl) ⟨[.int .i64 xs[i].1], [s], [], G, rfl, rfl, ⟨⟨rfl, hb⟩, rfl⟩, hy.1⟩ hfr (by rw [hk2]; exact hrow') hnd, hch.mono (fun b hb => (hGF b hb).1)⟩
theorem Rd.partAt {v : Value} {xs : List (Int × β)} (h : Rd (RS (RP RI S)) w [v] xs) (hS : S.k = 1) (i : Nat) (hi : i < xs.length) :
    ∃ b off cap s, v = .slice (some ⟨b, off, none⟩) xs.length cap ∧ b < w.heap.size ∧ w.cell? ⟨b, off + i * 2, none⟩ = some (.int .i64 xs[i].1) ∧ w.cell? ⟨b, off + i * 2 + 1, none⟩ = some s ∧ In64 xs[i].1 ∧ Rd S w [s] xs[i].2 := by
  have hk2 : (RP RI S).k = 2 := by show 1 + S.k = 2; omega
  obtain ⟨oa, cap, ds, h1, h2, h3, h4, h5, h6⟩ := h
  simp only [List.cons.injEq, and_true] at h1
  subst h1
  obtain ⟨c, hc, hpos⟩ := h5.get i hi
  rw [hk2] at hpos
  obtain ⟨c1, c2, rfl, ⟨rfl, hb⟩, hs⟩ := hc
  have hsl := S.rd_len hs
  rw [hS] at hsl
  match c2, hsl with
  | [s], _ =>
  rcases h6 with h6 | ⟨b, off, rfl, hbl, hcell⟩
  · have := h5.len
    rw [h6, hk2] at this
    simp at this
    omega
  · refine ⟨b, off, cap, s, rfl, hbl, hcell _ _ (hpos 0 _ rfl), (by rw [Nat.add_assoc]; exact hcell _ _ (hpos 1 _ rfl)), hb, Rd.of hs⟩
end
abbrev RPart : Rep (Int × List (List Int)) := RP RI (RS (RS RI))
def cnt_P : List (Int × List (List Int)) → Nat
  | [] => 0
  | p :: ps => 1 + cnt_II p.2 + cnt_P ps
def mkd_P : List (Int × List (List Int)) → Int → List (Int × List (List Int))
  | [], _ => []
  | p :: ps, k => (k, mkd_II p.2 (k + 1)) :: mkd_P ps (k + 1 + cnt_II p.2)
theorem mkd_P_len : ∀ (ps : List (Int × List (List Int))) (k : Int), (mkd_P ps k).length = ps.length
  | [], _ => rfl
  | p :: ps, k => by simp [mkd_P, mkd_P_len ps]
theorem mkd_P_get : ∀ (ps : List (Int × List (List Int))) (k : Int) (i : Nat) (h : i < ps.length), (mkd_P ps k)[i]'(by rw [mkd_P_len]; exact h) = (k + cnt_P (ps.take i), mkd_II ps[i].2 (k + cnt_P (ps.take i) + 1))
  | p :: ps, k, 0, h => by simp [mkd_P, cnt_P]
  | p :: ps, k, i + 1, h => by
    simp only [mkd_P, List.getElem_cons_succ, List.take_succ_cons]
    rw [mkd_P_get ps _ i (by simpa using h)]
    simp only [cnt_P]
    have e : k + 1 + (cnt_II p.2 : Int) + (cnt_P (ps.take i) : Nat) = k + ((1 + cnt_II p.2 + cnt_P (ps.take i) : Nat) : Int) := by omega
    rw [e]
theorem cnt_P_append : ∀ (ps qs : List (Int × List (List Int))), cnt_P (ps ++ qs) = cnt_P ps + cnt_P qs
  | [], qs => by simp [cnt_P]
  | p :: ps, qs => by simp only [List.cons_append, cnt_P, cnt_P_append ps qs]; omega
theorem cnt_P_take_succ (ps : List (Int × List (List Int))) (k : Nat) (h : k < ps.length) : cnt_P (ps.take (k + 1)) = cnt_P (ps.take k) + (1 + cnt_II ps[k].2) := by
  rw [List.take_succ_eq_append_getElem h, cnt_P_append]; simp [cnt_P]
theorem cnt_P_take (ps : List (Int × List (List Int))) (k : Nat) : cnt_P (ps.take k) ≤ cnt_P ps := by
  have : cnt_P (ps.take k ++ ps.drop k) = cnt_P ps := by rw [List.take_append_drop]
  rw [cnt_P_append] at this
  omega
set_option maxRecDepth 100000 in
set_option maxHeartbeats 1000000 in
theorem markF_P (v : Value) (xs : List (Int × List (List Int))) (F : List Nat) (k0 : Int) (w : World) (h : OwnF (RS RPart) F w [v] xs) (hk0 : 0 ≤ k0) (hk : k0 + cnt_P xs ≤ 4611686018427387904) :
    Calls Tryz.prog 17 #[v, .int .i64 k0] w fun e w' => e = .returned (.int .i64 (k0 + (cnt_P xs : Nat))) ∧ OwnF (RS RPart) F w' [v] (mkd_P xs k0) ∧ ChgF F w w' := by
  obtain ⟨oa, cap, rfl, m1, m2⟩ := h.rd.val
  unfold maxLen at m2
  have H0 := Lib.hid h
  clear h
  go_enter Tryz.func17, Tryz.ntmps17
  go_wp2_with fail
  go_loopw [1, 5] (fun q i wr => ∃ (k : Nat) (z : List (Int × List (List Int))), k ≤ xs.length ∧ i = .int .i64 k ∧ q = .int .i64 (k0 + (cnt_P (xs.take k) : Nat)) ∧ Hid (z = (mkd_P xs k0).take k ++ xs.drop k) ∧ Hid (OwnF (RS RPart) F wr [.slice oa xs.length cap] z ∧ ChgF F w wr)) (fun _ i _ => xs.length - (intOf i).toNat)
  case atStart => exact ⟨0, xs, Nat.zero_le _, rfl, by simp [cnt_P], Lib.hid (by simp), Lib.hid ⟨H0.out, ChgF.refl _ _⟩⟩
  case round =>
    obtain ⟨k, z, hkl, rfl, rfl, hz, hown⟩ := hrel
    clear H0
    by_cases hlt : k < xs.length
    · have hml := mkd_P_len xs k0
      have hzl : z.length = xs.length := by rw [hz.out]; simp [hml]; omega
      obtain ⟨g, cap', s, G, hv, -, -, hgl, g1, g2, hfz, hGs, hGF, hK1, hK2⟩ := hown.out.1.partAt rfl k (by omega)
      rw [hzl] at hv
      simp only [Value.slice.injEq, true_and] at hv
      obtain ⟨rfl, rfl⟩ := hv
      have hzk : z[k]'(by omega) = xs[k] := by
        simp only [hz.out]
        rw [List.getElem_append_right (by simp [hml]; omega)]
        simp [List.getElem_drop, hml]
        congr 1; omega
      have hst := cnt_P_take_succ xs k hlt
      have hle := cnt_P_take xs (k + 1)
      have hmk := mkd_P_get xs k0 k hlt
      obtain ⟨n, hn⟩ : ∃ n, n = cnt_P (xs.take k) := ⟨_, rfl⟩
      rw [← hn] at hst hmk
      rw [← hn]
      have hset : z.set k (k0 + (n : Int), mkd_II xs[k].2 (k0 + n + 1)) = (mkd_P xs k0).take (k + 1) ++ xs.drop (k + 1) := by
        rw [hz.out, List.set_append_right _ _ (by simp [hml]; omega)]
        have e : k - ((mkd_P xs k0).take k).length = 0 := by simp [hml]; omega
        rw [e, List.drop_eq_getElem_cons hlt, List.set_cons_zero, List.take_succ_eq_append_getElem (by rw [hml]; exact hlt), hmk]
        simp
      obtain ⟨f1, f2⟩ := hK1 (k0 + n) (by unfold In64; omega)
      obtain ⟨W1, hW1⟩ : ∃ W1, W1 = wr.setCell ⟨g, k * 2, none⟩ (.int .i64 (k0 + n)) := ⟨_, rfl⟩
      rw [← hW1] at f1 f2
      have hzl2 : (z.set k (k0 + (n : Int), z[k].2)).length = xs.length := by rw [List.length_set, hzl]
      obtain ⟨g', cap', s', G', hv', -, -, -, g1', g2', -, hGs', hGF', -, hK2'⟩ := f1.partAt rfl k (by omega)
      rw [hzl2] at hv'
      simp only [Value.slice.injEq, Option.some.injEq, Addr.mk.injEq, and_true, true_and] at hv'
      obtain ⟨rfl, rfl⟩ := hv'
      have hne : (⟨g, k * 2, none⟩ : Addr) ≠ ⟨g, k * 2 + 1, none⟩ := by intro h; injection h; omega
      have hss : s' = s := by
        rw [hW1, World.cell?_setCell_other _ _ _ _ hne, g2] at g2'
        exact (Option.some.inj g2').symm
      subst hss
      simp only [List.getElem_set_self, hzk] at hGs' hK2' g1 f1
      have hpf := hst
      obtain ⟨pf, hpf'⟩ : ∃ pf, pf = xs[k].2 := ⟨_, rfl⟩
      rw [← hpf'] at hset hst hGs' hK2'
      obtain ⟨os, cs, rfl, q1, q2⟩ := hGs'.rd.val
      unfold maxLen at q2
      have hmkF := markF_II _ pf G' (k0 + n + 1) W1 hGs' (by omega) (by omega)
      rw [hW1] at hmkF
      have HK2 := Lib.hid hK2'
      have HSET := Lib.hid hset
      have HST := Lib.hid hst
      have HW1 := Lib.hid hW1
      have HF2 := Lib.hid f2
      have i1 : (0 : Int) ≤ (k : Int) := by omega
      have i2 : (k : Int) < (xs.length : Int) := by omega
      obtain ⟨p1, hp1⟩ : ∃ p1, p1 = xs[k].1 := ⟨_, rfl⟩
      rw [← hp1] at g1
      have hw1 : IntKind.i64.wrap (k0 + (n : Int)) = k0 + n := IntWalk.i64_in _ (by omega)
      have hw2 : IntKind.i64.wrap (k0 + (n : Int) + 1) = k0 + n + 1 := IntWalk.i64_in _ (by omega)
      clear hK1 hK2 hK2' hset hst hmk hzk hzl hzl2 hn hpf hpf' f1 f2 hGs hGs' hGF hGF' hml g1' g2' hW1 hp1
      go_wp2_with fail
      refine hmkF.mono ?_
      rintro e w2 ⟨rfl, hr2, hc2⟩
      obtain ⟨k1, k2⟩ := HK2.out w2 (mkd_II pf (k0 + n + 1)) hr2 (by rw [HW1.out]; exact hc2)
      have HF : Hid (OwnF (RS RPart) F w2 [.slice (some ⟨g, 0, none⟩) xs.length cap] ((mkd_P xs k0).take (k + 1) ++ xs.drop (k + 1)) ∧ ChgF F w w2) := Lib.hid ⟨by rw [List.set_set] at k1; rw [HSET.out] at k1; exact k1, hown.out.2.trans (HF2.out.trans k2)⟩
      clear k1 k2 hr2 hc2 hmkF
      go_wp2_with fail
      go_roundw
      case rel => exact ⟨k + 1, _, by omega, by go_num, by rw [HST.out]; congr 1; omega, Lib.hid rfl, HF⟩
      case measure => simp [intOf] <;> omega
    · have hfin : Hid (z = mkd_P xs k0) := Lib.hid (by rw [hz.out, List.take_of_length_le (by rw [mkd_P_len]; omega), List.drop_of_length_le (by omega), List.append_nil])
      have hf2 : xs.take k = xs := List.take_of_length_le (by omega)
      rw [hf2]
      go_wp2_with fail
      go_ret
      exact ⟨rfl, hfin.out ▸ hown.out.1, hown.out.2⟩
theorem ChgF.toChg {F : List Nat} {w w' : World} {lo hi : Nat} (h : ChgF F w w') (hF : ∀ b, b ∈ F → lo ≤ b ∧ b < hi) : Chg lo hi w w' :=
  ⟨h.os, h.tape, h.output, h.size, fun k hk hne => h.block k hk (fun e => by have := hF k e; omega)⟩
theorem mark_P (v : Value) (xs : List (Int × List (List Int))) (lo hi : Nat) (k0 : Int) (w : World) (h : Own (RS RPart) lo hi w [v] xs) (hk0 : 0 ≤ k0) (hk : k0 + cnt_P xs ≤ 4611686018427387904) :
    Calls Tryz.prog 17 #[v, .int .i64 k0] w fun e w' => e = .returned (.int .i64 (k0 + (cnt_P xs : Nat))) ∧ Own (RS RPart) lo hi w' [v] (mkd_P xs k0) ∧ Chg lo hi w w' := by
  obtain ⟨F, hF, hb⟩ := OwnF.of h
  refine (markF_P v xs F k0 w hF hk0 hk).mono ?_
  rintro e w' ⟨rfl, h1, h2⟩
  exact ⟨rfl, h1.to hb, h2.toChg hb⟩
set_option maxRecDepth 100000 in
set_option maxHeartbeats 1000000 in
theorem held_P (v : Value) (xs : List (Int × List (List Int))) (k0 : Int) (w : World) (h : Rd (RS RPart) w [v] (mkd_P xs k0)) (hk0 : 0 ≤ k0) (hk : k0 + cnt_P xs ≤ 4611686018427387904) :
    Calls Tryz.prog 18 #[v, .int .i64 k0] w (RetS w (.int .i64 (k0 + (cnt_P xs : Nat)))) := by
  have hml := mkd_P_len xs k0
  have hAt := fun i hi => h.partAt (S := RS (RS RI)) rfl i hi
  obtain ⟨oa, cap, rfl, m1, m2⟩ := h.val
  unfold maxLen at m2
  have HAT := Lib.hid hAt
  obtain ⟨N, hN⟩ : ∃ N, N = (mkd_P xs k0).length := ⟨_, rfl⟩
  have hNx : N = xs.length := by rw [hN, hml]
  rw [← hN] at m1
  rw [← hN]
  have HNN := Lib.hid hN
  have HNX := Lib.hid hNx
  clear h hAt hml hN hNx
  go_enter Tryz.func18, Tryz.ntmps18
  go_wp2_with fail
  go_loopw [1, 5] (fun q i wr => ∃ (k : Nat), k ≤ N ∧ i = .int .i64 k ∧ q = .int .i64 (k0 + (cnt_P (xs.take k) : Nat)) ∧ wr = w) (fun _ i _ => N - (intOf i).toNat)
  case atStart => exact ⟨0, Nat.zero_le _, rfl, by simp [cnt_P], rfl⟩
  case round =>
    obtain ⟨k, hkl, rfl, rfl, rfl⟩ := hrel
    by_cases hlt : k < N
    · have hltm : k < (mkd_P xs k0).length := by rw [← HNN.out]; exact hlt
      have hltx : k < xs.length := by rw [← HNX.out]; exact hlt
      obtain ⟨b, off, cap', s, hv, hb, g1, g2, _, hrd⟩ := HAT.out k hltm
      rw [← HNN.out] at hv
      simp only [Value.slice.injEq, true_and] at hv
      obtain ⟨rfl, rfl⟩ := hv
      have hgt := mkd_P_get xs k0 k hltx
      rw [hgt] at g1 hrd
      have hst := cnt_P_take_succ xs k hltx
      have hle := cnt_P_take xs (k + 1)
      obtain ⟨n, hn⟩ : ∃ n, n = cnt_P (xs.take k) := ⟨_, rfl⟩
      rw [← hn] at hst g1 hrd
      rw [← hn]
      obtain ⟨pf, hpf⟩ : ∃ pf, pf = xs[k].2 := ⟨_, rfl⟩
      rw [← hpf] at hst hrd
      obtain ⟨os, cs, rfl, q1, q2⟩ := hrd.val
      have hh := held_II _ pf (k0 + n + 1) wr hrd (by omega) (by omega)
      have HST := Lib.hid hst
      have i1 : (0 : Int) ≤ (k : Int) := by omega
      have i2 : (k : Int) < (N : Int) := by omega
      have i3 : ¬ (k0 + (n : Int) + 1 + (cnt_II pf : Nat) < 0) := by omega
      have i4 : (k0 + (n : Int) != k0 + n) = false := by simp
      have hw1 : IntKind.i64.wrap (k0 + (n : Int)) = k0 + n := IntWalk.i64_in _ (by omega)
      have hw2 : IntKind.i64.wrap (k0 + (n : Int) + 1) = k0 + n + 1 := IntWalk.i64_in _ (by omega)
      obtain ⟨cf, hcf⟩ : ∃ cf, cf = cnt_II pf := ⟨_, rfl⟩
      rw [← hcf] at hh i3 HST
      clear hrd hgt hn hpf hst hcf q1
      go_wp2_with fail
      refine hh.mono ?_
      rintro e w2 ⟨rfl, rfl⟩
      go_wp2_with fail
      go_roundw
      case rel => exact ⟨k + 1, by omega, by go_num, by rw [HST.out]; congr 1; omega, (by first | rfl | trivial)⟩
      case measure => simp [intOf]; omega
    · have hf2 : xs.take k = xs := List.take_of_length_le (by rw [← HNX.out]; omega)
      rw [hf2]
      go_wp2_with fail
      go_ret
      exact ⟨rfl, rfl⟩
set_option maxRecDepth 100000 in
set_option maxHeartbeats 1000000 in
theorem eqv_Part (s1 s2 : Value) (n : Int) (f : List (List Int)) (w : World) (h1 : Rd (RS (RS RI)) w [s1] f) (h2 : Rd (RS (RS RI)) w [s2] f) :
    Calls Tryz.prog 56 #[.agg #[.int .i64 n, s1], .agg #[.int .i64 n, s2]] w (RetV w (.bool true)) := by
  obtain ⟨o1, c1, rfl, _, _⟩ := h1.val
  obtain ⟨o2, c2, rfl, _, _⟩ := h2.val
  have H1 := Lib.hid h1
  have H2 := Lib.hid h2
  have hne : (n != n) = false := by simp
  clear h1 h2
  go_enter Tryz.func56, Tryz.ntmps56
  go_wp2_with fail
  have b1 : Below w.heap.size w (w.alloc (.cells #[.int .i64 n, .slice o1 f.length c1] 54)) := (Below.refl _ _).alloc (Nat.le_refl _) _
  have b2 : Below w.heap.size w ((w.alloc (.cells #[.int .i64 n, .slice o1 f.length c1] 54)).alloc (.cells #[.int .i64 n, .slice o2 f.length c2] 54)) := b1.alloc (by simp) _
  refine (eqv_II _ _ f _ (H1.out.below b2 (Nat.le_refl _)) (H2.out.below b2 (Nat.le_refl _))).mono ?_
  rintro e w' ⟨rfl, b3⟩
  go_wp2_with fail
  go_ret
  exact ⟨rfl, b2.trans (b3.mono b2.size)⟩
set_option maxRecDepth 100000 in
set_option maxHeartbeats 1000000 in
theorem eqv_P (v1 v2 : Value) (xs : List (Int × List (List Int))) (w : World) (h1 : Rd (RS RPart) w [v1] xs) (h2 : Rd (RS RPart) w [v2] xs) :
    Calls Tryz.prog 16 #[v1, v2] w (RetV w (.bool true)) := by
  have a1 := fun i hi => h1.partAt (S := RS (RS RI)) rfl i hi
  have a2 := fun i hi => h2.partAt (S := RS (RS RI)) rfl i hi
  obtain ⟨oa, cap, rfl, m1, m2⟩ := h1.val
  obtain ⟨ob, cap2, rfl, m3, m4⟩ := h2.val
  unfold maxLen at m2 m4
  have A1 := Lib.hid a1
  have A2 := Lib.hid a2
  have hne : ((xs.length : Int) != (xs.length : Int)) = false := by simp
  have EG := Lib.hid (enters (P := Tryz.prog) (f := 56) Tryz.func56 (by kernel_rfl) rfl)
  clear h1 h2 a1 a2
  go_enter Tryz.func16, Tryz.ntmps16
  go_wp2_with fail
  go_loopw [5] (fun i wr => ∃ k : Nat, k ≤ xs.length ∧ i = .int .i64 k ∧ Below w.heap.size w wr) (fun i _ => xs.length - (intOf i).toNat)
  case atStart => exact ⟨0, Nat.zero_le _, rfl, Below.refl _ _⟩
  case round =>
    obtain ⟨k, hk, rfl, hbel⟩ := hrel
    have hsz1 := hbel.size
    by_cases hlt : k < xs.length
    · obtain ⟨b1, f1, c1, s1, hv1, hb1, g1, g2, _, r1⟩ := A1.out k hlt
      obtain ⟨b2, f2, c2, s2, hv2, hb2, g3, g4, _, r2⟩ := A2.out k hlt
      simp only [Value.slice.injEq, true_and] at hv1 hv2
      obtain ⟨rfl, rfl⟩ := hv1
      obtain ⟨rfl, rfl⟩ := hv2
      have k1 := (hbel.cell (p := ⟨b1, f1 + k * 2, none⟩) hb1).trans g1
      have k2 := (hbel.cell (p := ⟨b1, f1 + k * 2 + 1, none⟩) hb1).trans g2
      have k3 := (hbel.cell (p := ⟨b2, f2 + k * 2, none⟩) hb2).trans g3
      have k4 := (hbel.cell (p := ⟨b2, f2 + k * 2 + 1, none⟩) hb2).trans g4
      obtain ⟨n, hn⟩ : ∃ n, n = xs[k].1 := ⟨_, rfl⟩
      obtain ⟨f, hf⟩ : ∃ f, f = xs[k].2 := ⟨_, rfl⟩
      rw [← hn] at k1 k3
      rw [← hf] at r1 r2
      obtain ⟨o1, d1, rfl, _, _⟩ := r1.val
      obtain ⟨o2, d2, rfl, _, _⟩ := r2.val
      have HEQ : Hid (∀ W : World, W.heap = wr.heap → Calls Tryz.prog 56 #[.agg #[.int .i64 n, .slice o1 f.length d1], .agg #[.int .i64 n, .slice o2 f.length d2]] W (RetV W (.bool true))) := Lib.hid (fun W hW => eqv_Part _ _ n f W ((r1.below hbel (Nat.le_refl _)).of_heap hW) ((r2.below hbel (Nat.le_refl _)).of_heap hW))
      have i1 : (0 : Int) ≤ (k : Int) := by omega
      have i2 : (k : Int) < (xs.length : Int) := by omega
      clear g1 g2 g3 g4 r1 r2 hn hf
      go_wp2_with fail
      go_region_law ((refine step_call rfl 56 _ _ rfl EG.out #[.agg #[.int .i64 n, .slice o1 f.length d1], .agg #[.int .i64 n, .slice o2 f.length d2]] (by simp [Act.eval]) ?_; refine Calls.mono (HEQ.out _ (by rfl)) ?_; rintro e w2 ⟨rfl, b3⟩; have b3' : Below wr.heap.size wr w2 := ⟨b3.os, b3.tape, b3.output, b3.size, b3.block⟩; refine ⟨_, rfl, ?_⟩))
      all_goals
        have hb4 := hbel.trans (b3'.mono hsz1)
        go_wp2_with fail
        go_roundw
        case rel => exact ⟨k + 1, by omega, by go_num, hb4⟩
        case measure => simp [intOf] <;> omega
    · go_wp2_with fail
      go_ret
      exact ⟨rfl, hbel⟩
end Go.Proofs.YtacbkjmkjpjhoaaGreat
namespace Go.Proofs.YtacbkjmkjpjhoaaGreat
open Go.RowKit
section
variable {β : Type} {S : Rep β} {w : World}
end
end Go.Proofs.YtacbkjmkjpjhoaaGreat
namespace Go.Proofs.YtacbkjmkjpjhoaaGreat
open Go.RowKit
section
variable {β : Type} {S : Rep β} {w : World}
theorem Own.setPart {v : Value} {xs : List (Int × β)} {lo hi : Nat} (h : Own (RS (RP RI S)) lo hi w [v] xs) (hS : S.k = 1) (i : Nat) (hi' : i < xs.length) :
    ∃ g cap, v = .slice (some ⟨g, 0, none⟩) xs.length cap ∧ xs.length ≤ cap ∧ cap ≤ 9223372036854775807 ∧ lo ≤ g ∧ g < hi ∧ g < w.heap.size ∧
      ∀ (w1 : World) (y : Int × β) (u : Value) (M hi2 : Nat), In64 y.1 → Own S M hi2 w1 [u] y.2 → hi ≤ M → M ≤ hi2 → Below hi w w1 →
        (∃ a b, w1.cell? ⟨g, i * 2, none⟩ = some a ∧ w1.cell? ⟨g, i * 2 + 1, none⟩ = some b) ∧ w1.frozen? ⟨g, i * 2, none⟩ = false ∧ w1.frozen? ⟨g, i * 2 + 1, none⟩ = false ∧
        Own (RS (RP RI S)) lo hi2 ((w1.setCell ⟨g, i * 2, none⟩ (.int .i64 y.1)).setCell ⟨g, i * 2 + 1, none⟩ u) [v] (xs.set i y) ∧ Chg lo hi w1 ((w1.setCell ⟨g, i * 2, none⟩ (.int .i64 y.1)).setCell ⟨g, i * 2 + 1, none⟩ u) := by
  have hk2 : (RP RI S).k = 2 := by show 1 + S.k = 2; omega
  obtain ⟨og, ds, F, hrow, hel, hF, hlt⟩ := h.open
  obtain ⟨g, rfl⟩ := hrow.some_of hi'
  obtain ⟨cap, hv, hc1, hc2⟩ := hrow.slice
  obtain ⟨d1, c0, d2, F1, G, F2, rfl, rfl, hd1, hL1, hx, hL2⟩ := hel.split i hi'
  have la := (RP RI S).rd_len ((RP RI S).own_rd hx)
  rw [hk2] at la hd1
  match c0, la with
  | [a, b], _ =>
    have hg := hlt g (by simp)
    have hgs := hrow.lt g rfl
    refine ⟨g, cap, hv, hc1, by unfold maxLen at hc2; omega, hg.1, hg.2, hgs, ?_⟩
    intro w1 y u M hi2 hy1 hy hiM hM2 hbel
    obtain ⟨Gy, hGy, hGyn, hGyl⟩ := hy
    have hrow1 : Row w1 v (RP RI S).k xs.length (d1 ++ ([a, b] ++ d2)) (some g) := hrow.frame (fun g' hg' => by cases hg'; exact hbel.block g hg.2)
    obtain ⟨s1, r1⟩ := hrow1.store (i * 2) (.int .i64 y.1)
    have hset : (d1 ++ ([a, b] ++ d2)).set (i * 2) (.int .i64 y.1) = d1 ++ ([.int .i64 y.1, b] ++ d2) := by
      rw [List.set_append_right _ _ (by omega), hd1, Nat.sub_self]; rfl
    rw [hset] at s1
    obtain ⟨s2, r2⟩ := s1.store (i * 2 + 1) u
    have hset2 : (d1 ++ ([.int .i64 y.1, b] ++ d2)).set (i * 2 + 1) u = d1 ++ ([.int .i64 y.1, u] ++ d2) := by
      rw [List.set_append_right _ _ (by omega), hd1, Nat.add_sub_cancel_left]; rfl
    rw [hset2] at s2
    obtain ⟨W, hW⟩ : ∃ W, W = (w1.setCell ⟨g, i * 2, none⟩ (.int .i64 y.1)).setCell ⟨g, i * 2 + 1, none⟩ u := ⟨_, rfl⟩
    have hWh : ∀ z, z ≠ g → W.heap[z]? = w1.heap[z]? := fun z hz => by
      rw [hW, heap_setCell_other _ ⟨g, i * 2 + 1, none⟩ z u hz, heap_setCell_other _ ⟨g, i * 2, none⟩ z _ hz]
    rw [← hW] at s2 r2 ⊢
    have hne : ∀ z, z ∈ F1 ++ (G ++ F2) → z ≠ g := by
      intro z hz e; subst e
      exact (List.nodup_append.1 hF).2.2 z (by simp) z hz rfl
    have hfr : ∀ z, z ∈ F1 ++ (G ++ F2) → W.heap[z]? = w.heap[z]? := by
      intro z hz
      rw [hWh z (hne z hz)]
      exact hbel.block z (hlt z (List.mem_append_right _ hz)).2
    have hGf : ∀ z, z ∈ Gy → W.heap[z]? = w1.heap[z]? := by
      intro z hz
      have := (hGyl z hz).1
      exact hWh z (by omega)
    have hyc : (RP RI S).own W [.int .i64 y.1, u] y Gy := ⟨[.int .i64 y.1], [u], [], Gy, rfl, rfl, ⟨⟨rfl, hy1⟩, rfl⟩, S.own_frame hGy hGf⟩
    have hjoin := ownL.join (R := RP RI S) hi' (hL1.frame fun z hz => hfr z (by simp [hz])) hyc (hL2.frame fun z hz => hfr z (by simp [hz]))
    refine ⟨⟨a, b, hrow1.cells (i * 2) a (by rw [List.getElem?_append_right (by omega), hd1]; simp), hrow1.cells (i * 2 + 1) b (by rw [List.getElem?_append_right (by omega), hd1, Nat.add_sub_cancel_left]; rfl)⟩, hrow1.frozen _, hrow1.frozen _, ?_,
      (Chg.of_grown r1 (fun z hz => by cases hz; exact hg)).trans (Chg.of_grown r2 (fun z hz => by cases hz; exact hg))⟩
    refine Own.mk' (og := some g) (ds := d1 ++ ([.int .i64 y.1, u] ++ d2)) (by rw [List.length_set]; exact s2) hjoin ?_ ?_
    · have hb : (F1 ++ F2).Nodup := (List.nodup_append.1 hF).2.1.sublist (List.Sublist.append (List.Sublist.refl _) (List.sublist_append_right _ _))
      have hb1 := List.nodup_append.1 hb
      have hab : ∀ z, z ∈ Gy → z ∉ F1 ++ F2 ∧ z ≠ g := by
        intro z hz
        have h1 := (hGyl z hz).1
        refine ⟨fun hm => ?_, by omega⟩
        have := (hlt z (by
          rcases List.mem_append.1 hm with hm | hm
          · simp [hm]
          · simp [hm])).2
        omega
      simp only [Option.toList_some, List.singleton_append, List.nodup_cons]
      constructor
      · intro hm
        simp only [List.mem_append] at hm
        rcases hm with hm | hm | hm
        · exact hne g (by simp [hm]) rfl
        · exact (hab g hm).2 rfl
        · exact hne g (by simp [hm]) rfl
      · refine List.nodup_append.2 ⟨hb1.1, List.nodup_append.2 ⟨hGyn, hb1.2.1, fun z hz z' hz' e => ?_⟩, fun z hz z' hz' e => ?_⟩
        · subst e; exact (hab z hz).1 (by simp [hz'])
        · subst e
          rcases List.mem_append.1 hz' with hz' | hz'
          · exact (hab z hz').1 (by simp [hz])
          · exact hb1.2.2 z hz z hz' rfl
    · intro z hz
      simp only [List.mem_append, Option.mem_toList, Option.some.injEq] at hz
      rcases hz with hz | hz | hz | hz
      · subst hz; omega
      · have := hlt z (by simp [hz]); omega
      · have := hGyl z hz; omega
      · have := hlt z (by simp [hz]); omega
end
theorem heap3a (w : World) (a b c : Go.Obj) : (((w.alloc a).alloc b).alloc c).heap[w.heap.size + 1]? = some b := by
  rw [Go.heap_alloc_old _ _ (by simp), Go.heap_alloc2_new]
theorem heap3b (w : World) (a b c : Go.Obj) : (((w.alloc a).alloc b).alloc c).heap[w.heap.size + 1 + 1]? = some c := by
  have e : ((w.alloc a).alloc b).heap.size = w.heap.size + 1 + 1 := by simp
  rw [← e, Go.heap_alloc_new]
def szN : List (Int × List (List Int)) → Nat
  | [] => 0
  | p :: ps => (p.2.length + sumLen p.2) + szN ps
def szP (e : List (Int × List (List Int))) : Prop := e.length + szN e ≤ 1048576
theorem szN_mem : ∀ {e : List (Int × List (List Int))} {p : Int × List (List Int)}, p ∈ e → p.2.length + sumLen p.2 ≤ szN e
  | q :: e, p, h => by
    rcases List.mem_cons.1 h with rfl | h
    · unfold szN; omega
    · have := szN_mem h; unfold szN; omega
theorem cnt_le_szN : ∀ (e : List (Int × List (List Int))), cnt_P e ≤ e.length + szN e
  | [] => by simp [cnt_P]
  | p :: e => by
    have := cnt_le_szN e
    unfold cnt_P szN cnt_II
    simp only [List.length_cons]
    omega
theorem cntb_P (e : List (Int × List (List Int))) (h : szP e) : cnt_P e ≤ 1048576 := Nat.le_trans (cnt_le_szN e) h
theorem madeCells_parts (n : Nat) : (madeCells (Value.agg #[.int .i64 0, .slice none 0 0]).cells (n * 2)).toList = (List.replicate n [Value.int .i64 0, Value.slice none 0 0]).flatten := by
  exact madeCells_rep (z := .agg #[.int .i64 0, .slice none 0 0]) (ds := [.int 0, .sl 1 []]) ⟨rfl, rfl⟩ (by decide) n
theorem ownL_parts {w : World} : ∀ n, ownL RPart w (List.replicate n [Value.int .i64 0, Value.slice none 0 0]).flatten (List.replicate n (0, [])) []
  | 0 => ⟨rfl, rfl⟩
  | n + 1 => ⟨[.int .i64 0, .slice none 0 0], _, [], [], rfl, rfl, ⟨[.int .i64 0], [.slice none 0 0], [], [], rfl, rfl, ⟨⟨rfl, by show In64 0; unfold In64; omega⟩, rfl⟩, ⟨.slice none 0 0, none, [], [], rfl, Row.nil w 1, ⟨rfl, rfl⟩, rfl⟩⟩, ownL_parts n⟩
theorem tPartI : ST Tryz.prog 24 54 (.agg #[.int .i64 0, .slice none 0 0]) 2 32 := ST.mk' (by kernel_rfl) (by kernel_rfl) rfl (by decide)
set_option maxRecDepth 100000 in
set_option maxHeartbeats 1000000 in
theorem c_toPart (s : Value) (n : Int) (f : List (List Int)) (w : World) (h : Rd (RS (RS RI)) w [s] f) (hn : In64 n) (hsz : szII f) :
    Calls Tryz.prog 52 #[.agg #[.int .i64 n, s]] w fun e w' => ∃ u, e = .returned (.agg #[.int .i64 n, u]) ∧ Own (RS (RS RI)) w.heap.size w'.heap.size w' [u] f ∧ Below w.heap.size w w' := by
  obtain ⟨o1, c1, rfl, _, _⟩ := h.val
  have H1 := Lib.hid h
  clear h
  go_enter Tryz.func52, Tryz.ntmps52
  go_wp2_with fail
  obtain ⟨W, hW⟩ : ∃ W, W = ((w.alloc (.cells #[.int .i64 n, .slice o1 f.length c1] 65)).alloc (.cells #[.int .i64 0, .slice none 0 0] 54)).alloc (.cells #[.int .i64 n, .slice none 0 0] 54) := ⟨_, rfl⟩
  have bW : Below w.heap.size w W := by
    rw [hW]
    have b1 := (Below.refl w.heap.size w).alloc (Nat.le_refl _) (.cells #[.int .i64 n, .slice o1 f.length c1] 65)
    have b2 := b1.alloc b1.size (.cells #[.int .i64 0, .slice none 0 0] 54)
    exact b2.alloc b2.size (.cells #[.int .i64 n, .slice none 0 0] 54)
  have hsW : W.heap.size = w.heap.size + 3 := by rw [hW]; simp
  have k1 : W.heap[w.heap.size + 1]? = some (.cells #[.int .i64 0, .slice none 0 0] 54) := by rw [hW]; exact heap3a _ _ _ _
  have k2 : W.heap[w.heap.size + 1 + 1]? = some (.cells #[.int .i64 n, .slice none 0 0] 54) := by rw [hW]; exact heap3b _ _ _ _
  rw [← hW]
  refine (to_II _ f W (H1.out.below bW (Nat.le_refl _)) hsz).mono ?_
  rintro e w2 ⟨u, rfl, o2, b2⟩
  obtain ⟨o3, c3, rfl, l1, l2⟩ := o2.val
  have k1 := (b2.block (w.heap.size + 1) (by omega)).trans k1
  have k2 := (b2.block (w.heap.size + 1 + 1) (by omega)).trans k2
  have c20 : w2.cell? ⟨w.heap.size + 1 + 1, 0, none⟩ = some (.int .i64 n) := by simp [World.cell?, k2]
  have c21 : w2.cell? ⟨w.heap.size + 1 + 1, 1, none⟩ = some (.slice none 0 0) := by simp [World.cell?, k2]
  have c10 : w2.cell? ⟨w.heap.size + 1, 0, none⟩ = some (.int .i64 0) := by simp [World.cell?, k1]
  have c11 : w2.cell? ⟨w.heap.size + 1, 1, none⟩ = some (.slice none 0 0) := by simp [World.cell?, k1]
  have f20 : w2.frozen? ⟨w.heap.size + 1 + 1, 0, none⟩ = false := by simp [World.frozen?, k2]
  have f21 : w2.frozen? ⟨w.heap.size + 1 + 1, 1, none⟩ = false := by simp [World.frozen?, k2]
  have f10 : w2.frozen? ⟨w.heap.size + 1, 0, none⟩ = false := by simp [World.frozen?, k1]
  have f11 : w2.frozen? ⟨w.heap.size + 1, 1, none⟩ = false := by simp [World.frozen?, k1]
  go_wp2_with fail
  have b3 := (((bW.trans (b2.mono (by omega))).setCell (p := ⟨w.heap.size + 1 + 1, 1, none⟩) (by show w.heap.size ≤ w.heap.size + 1 + 1; omega) (.slice o3 f.length c3)).setCell (p := ⟨w.heap.size + 1, 0, none⟩) (by show w.heap.size ≤ w.heap.size + 1; omega) (.int .i64 n)).setCell (p := ⟨w.heap.size + 1, 1, none⟩) (by show w.heap.size ≤ w.heap.size + 1; omega) (.slice o3 f.length c3)
  have hfin : ∀ z, w.heap.size + 3 ≤ z → (((w2.setCell ⟨w.heap.size + 1 + 1, 1, none⟩ (.slice o3 f.length c3)).setCell ⟨w.heap.size + 1, 0, none⟩ (.int .i64 n)).setCell ⟨w.heap.size + 1, 1, none⟩ (.slice o3 f.length c3)).heap[z]? = w2.heap[z]? := fun z hz => by
    rw [heap_setCell_other _ ⟨w.heap.size + 1, 1, none⟩ z _ (by show z ≠ w.heap.size + 1; omega), heap_setCell_other _ ⟨w.heap.size + 1, 0, none⟩ z _ (by show z ≠ w.heap.size + 1; omega), heap_setCell_other _ ⟨w.heap.size + 1 + 1, 1, none⟩ z _ (by show z ≠ w.heap.size + 1 + 1; omega)]
  have o4 : Own (RS (RS RI)) w.heap.size (((w2.setCell ⟨w.heap.size + 1 + 1, 1, none⟩ (.slice o3 f.length c3)).setCell ⟨w.heap.size + 1, 0, none⟩ (.int .i64 n)).setCell ⟨w.heap.size + 1, 1, none⟩ (.slice o3 f.length c3)).heap.size (((w2.setCell ⟨w.heap.size + 1 + 1, 1, none⟩ (.slice o3 f.length c3)).setCell ⟨w.heap.size + 1, 0, none⟩ (.int .i64 n)).setCell ⟨w.heap.size + 1, 1, none⟩ (.slice o3 f.length c3)) [.slice o3 f.length c3] f := by
    obtain ⟨F, h1, h2, h3⟩ := o2
    refine ⟨F, (RS (RS RI)).own_frame h1 (fun z hz => hfin z (by have := h3 z hz; omega)), h2, fun z hz => ?_⟩
    have := h3 z hz
    have hsz3 : (((w2.setCell ⟨w.heap.size + 1 + 1, 1, none⟩ (.slice o3 f.length c3)).setCell ⟨w.heap.size + 1, 0, none⟩ (.int .i64 n)).setCell ⟨w.heap.size + 1, 1, none⟩ (.slice o3 f.length c3)).heap.size = w2.heap.size := by simp
    omega
  refine bodyPost_ret (v := .agg #[.int .i64 n, .slice o3 f.length c3]) ?_ rfl ⟨_, rfl, o4, b3⟩
  have hres : Tryz.f52.results = #[.cell 2 54] := by kernel_rfl
  clear o4 b3 hfin b2 o2 bW
  simp only [results, hres]
  go_simp
set_option maxRecDepth 100000 in
set_option maxHeartbeats 1000000 in
theorem to_P (v : Value) (xs : List (Int × List (List Int))) (w : World) (h : Rd (RS RPart) w [v] xs) (hsz : szP xs) :
    Calls Tryz.prog 14 #[v] w (RetO (RS RPart) w xs) := by
  have hat := fun i hi => h.partAt (S := RS (RS RI)) rfl i hi
  obtain ⟨oa, cap, rfl, m1, m2⟩ := h.val
  unfold maxLen at m2
  have HA := Lib.hid hat
  have hln : xs.length ≤ 1048576 := by unfold szP at hsz; omega
  have HZ := Lib.hid hsz
  clear hat h hsz
  go_enter Tryz.func14, Tryz.ntmps14
  go_wp2_with (at_make; refine wpList_makeRow rfl _ _ 24 rfl 54 (.agg #[.int .i64 0, .slice none 0 0]) 2 32 tPartI _ _ _ _ xs.length rfl rfl rfl rfl (by omega) (by unfold maxLen; omega) ?_; rintro v1 w1 hrow0 hgr0 rfl)
  rw [madeCells_parts] at hrow0
  have hb0 : Below w.heap.size w w1 := Below.of_grown hgr0 (Nat.le_refl _) (fun g hg => by cases hg)
  have HO : Hid (Own (RS RPart) w.heap.size w1.heap.size w1 [.slice (some ⟨w.heap.size, 0, none⟩) xs.length xs.length] (List.replicate xs.length (0, []))) := Lib.hid (Own.mk' (og := some w.heap.size) (F := []) (ds := (List.replicate xs.length [Value.int .i64 0, Value.slice none 0 0]).flatten) (by rw [List.length_replicate]; exact hrow0) (ownL_parts xs.length) (by simp) (fun b hb => by have := hrow0.lt w.heap.size rfl; simp at hb; omega))
  clear hrow0 hgr0
  go_wp2_with fail
  go_loopw [4] (fun i wr => ∃ (k : Nat) (z : List (Int × List (List Int))), k ≤ xs.length ∧ i = .int .i64 k ∧ Hid (z = xs.take k ++ List.replicate (xs.length - k) (0, [])) ∧ Hid (Own (RS RPart) w.heap.size wr.heap.size wr [.slice (some ⟨w.heap.size, 0, none⟩) xs.length xs.length] z) ∧ Below w.heap.size w wr) (fun i _ => xs.length - (intOf i).toNat)
  case atStart => exact ⟨0, _, Nat.zero_le _, rfl, Lib.hid (by simp), HO, hb0⟩
  case round =>
    obtain ⟨k, z, hk, rfl, hz, hown, hbel⟩ := hrel
    have hsz1 := hbel.size
    clear HO
    by_cases hlt : k < xs.length
    · obtain ⟨b, off, cap2, s, hv2, hb, g1, g2, hin, hrd⟩ := HA.out k hlt
      simp only [Value.slice.injEq, true_and] at hv2
      obtain ⟨rfl, rfl⟩ := hv2
      have g1' := (hbel.cell (p := ⟨b, off + k * 2, none⟩) hb).trans g1
      have g2' := (hbel.cell (p := ⟨b, off + k * 2 + 1, none⟩) hb).trans g2
      have hzl : z.length = xs.length := by rw [hz.out]; simp; omega
      obtain ⟨g, cap', hv, _, _, hg1, hg2, hg3, hK⟩ := hown.out.setPart (S := RS (RS RI)) rfl k (by rw [hzl]; exact hlt)
      rw [hzl] at hv
      simp only [Value.slice.injEq, Option.some.injEq, Addr.mk.injEq, and_true, true_and] at hv
      obtain ⟨rfl, rfl⟩ := hv
      have hset : z.set k xs[k] = xs.take (k + 1) ++ List.replicate (xs.length - (k + 1)) (0, []) := by
        rw [hz.out, List.set_append_right _ _ (by simp; omega)]
        have e : k - (xs.take k).length = 0 := by simp; omega
        rw [e, show xs.length - k = (xs.length - (k + 1)) + 1 by omega, List.replicate_succ, List.set_cons_zero, List.take_succ_eq_append_getElem hlt, List.append_assoc, List.singleton_append]
      have hxl : szII xs[k].2 := by
        have h1 := szN_mem (List.getElem_mem hlt)
        have h2 := HZ.out
        unfold szP at h2
        unfold szII
        omega
      have HK := Lib.hid hK
      have hto := c_toPart s xs[k].1 xs[k].2 wr (hrd.below hbel (Nat.le_refl _)) hin hxl
      obtain ⟨os, cs, rfl, l1, l2⟩ := hrd.val
      obtain ⟨x, hx⟩ : ∃ x, x = xs[k] := ⟨_, rfl⟩
      rw [← hx] at g1' g2' hset hto hin l1
      have HSET := Lib.hid hset
      have HIN := Lib.hid hin
      have HTO := Lib.hid hto
      clear g1 g2 hrd hx hset hK hto hxl hin
      go_wp2_with (go_at_call 52; refine HTO.out.mono ?_; rintro e w2 ⟨u, rfl, o2, b2⟩; obtain ⟨ou, cu, rfl, lu1, lu2⟩ := o2.val; obtain ⟨⟨a1, a2, f1, f2⟩, f3, f4, f5, f6⟩ := HK.out w2 x (.slice ou x.2.length cu) wr.heap.size w2.heap.size HIN.out o2 (Nat.le_refl _) b2.size b2; have HF := Lib.hid f5; have hb3 : Below w.heap.size w w2 := hbel.trans (b2.mono hsz1); have hb4 := (hb3.setCell (p := ⟨w.heap.size, k * 2, none⟩) (Nat.le_refl _) (.int .i64 x.1)).setCell (p := ⟨w.heap.size, k * 2 + 1, none⟩) (Nat.le_refl _) (.slice ou x.2.length cu); clear f5 f6 o2)
      go_roundw
      case rel => exact ⟨k + 1, _, by omega, by go_num, HSET, Lib.hid (HF.out.top _ (by simp)), hb4⟩
      case measure => simp [intOf]; omega
    · have hfin : Hid (z = xs) := Lib.hid (by rw [hz.out, List.take_of_length_le (by omega), show xs.length - k = 0 by omega]; simp)
      go_wp2_with fail
      go_ret
      exact ⟨_, rfl, hfin.out ▸ hown.out, hbel⟩
end Go.Proofs.YtacbkjmkjpjhoaaGreat
