/- The order of forests and products: the greatest forest of a product; plain. -/
import Derived.Test.YtdjkmjifeekimaaSumP
import Derived.Test.YtdjkmjifeekimaaForCmp
set_option linter.unusedSimpArgs false
set_option linter.unusedVariables false
namespace Go.Proofs.Ytdjkmjifeekimaa

section
variable {α : Type} {c : α → α → Int} (hc : Cmp c)
include hc

/-- Putting an element into two sorted lists of the same length keeps their order. -/
theorem lexC_ins (x : α) : ∀ {f g : List α}, f.Pairwise (fun a b => c a b ≤ 0) → g.Pairwise (fun a b => c a b ≤ 0) → f.length = g.length → lexC c f g < 0 → lexC c (ins c x f) (ins c x g) < 0
  | [], [], _, _, _, h => by simp [lexC] at h
  | [], _ :: _, _, _, hl, _ => by simp at hl
  | _ :: _, [], _, _, hl, _ => by simp at hl
  | a :: f, b :: g, h1, h2, hl, h => by
    have w1 := h1
    rw [List.pairwise_cons] at h1 h2
    have hself : ∀ y : α, ∀ u v, lexC c (y :: u) (y :: v) = lexC c u v := fun y u v => by show (if c y y = 0 then _ else _) = _; rw [if_pos (hc.refl y)]
    have hlt : ∀ (y z : α) u v, c y z < 0 → lexC c (y :: u) (z :: v) < 0 := fun y z u v hyz => by
      show (if c y z = 0 then _ else _) < 0
      rw [if_neg (by omega)]; exact hyz
    by_cases hab : c a b = 0
    · obtain rfl := hc.zero a b hab
      have h3 : lexC c f g < 0 := by rwa [hself] at h
      unfold ins
      split
      · rw [hself, hself]; exact h3
      · rw [hself]
        exact lexC_ins x h1.2 h2.2 (by simpa using hl) h3
    · have hab' : c a b < 0 := by
        have : (if c a b = 0 then lexC c f g else c a b) < 0 := h
        rwa [if_neg hab] at this
      by_cases hxa : c x a < 0
      · have hxb := hc.lt_tr hxa hab'
        unfold ins
        rw [if_pos hxa, if_pos hxb, hself]
        exact hlt _ _ _ _ hab'
      · by_cases hxb : c x b < 0
        · unfold ins
          rw [if_neg hxa, if_pos hxb]
          have hax := hc.le_of_not_lt hxa
          by_cases hax0 : c a x = 0
          · obtain rfl := hc.zero a x hax0
            rw [hself]
            cases f with
            | nil => exact hlt _ _ _ _ hab'
            | cons y f =>
              unfold ins
              split
              · exact hlt _ _ _ _ hab'
              · rename_i hay
                have h5 := h1.1 y (by simp)
                have h6 : c a y = 0 := by omega
                obtain rfl := hc.zero a y h6
                exact hlt _ _ _ _ hab'
          · exact hlt _ _ _ _ (by omega)
        · unfold ins
          rw [if_neg hxa, if_neg hxb]
          exact hlt _ _ _ _ hab'
end

/-- The product of two forests. -/
def mulF (f g : List (List Int)) : List (List Int) := sortC cmpT (f ++ g)

theorem prime_small : ∀ x < 102, 2 ≤ x → 10007 % x ≠ 0 := by decide +kernel
theorem prime_dvd {d : Nat} (h : d ∣ 10007) : d = 1 ∨ d = 10007 := by
  obtain ⟨k, hk⟩ := h
  have hd : d ≠ 0 := by rintro rfl; omega
  have hk0 : k ≠ 0 := by rintro rfl; omega
  by_cases h1 : d = 1
  · exact .inl h1
  · by_cases h2 : d < 102
    · exact absurd (by rw [hk]; exact Nat.mul_mod_right d k) (prime_small d h2 (by omega))
    · by_cases h3 : k = 1
      · subst h3; right; omega
      · have h4 : k < 102 := by
          rcases Nat.lt_or_ge k 102 with h | h
          · exact h
          · have := Nat.mul_le_mul (show 102 ≤ d by omega) h
            omega
        exact absurd (by rw [hk]; exact Nat.mul_mod_left d k) (prime_small k h4 (by omega))
theorem prime_gcd (a : Nat) (ha : a < 10007) (h0 : a ≠ 0) : Nat.gcd 10007 a = 1 := by
  rcases prime_dvd (Nat.gcd_dvd_left 10007 a) with h | h
  · exact h
  · have := Nat.le_of_dvd (by omega) (h ▸ Nat.gcd_dvd_right 10007 a)
    omega
theorem prime_mul {a b : Int} (ha : 1 ≤ a ∧ a < 10007) (hb : 1 ≤ b ∧ b < 10007) : mP (a * b) ≠ 0 := by
  intro h
  obtain ⟨m, rfl⟩ := Int.eq_ofNat_of_zero_le (show 0 ≤ a by omega)
  obtain ⟨n, rfl⟩ := Int.eq_ofNat_of_zero_le (show 0 ≤ b by omega)
  have h1 : (m * n) % 10007 = 0 := by
    unfold mP at h
    have : ((m * n : Nat) : Int) % 10007 = 0 := by rw [Int.natCast_mul]; exact h
    omega
  have h2 : 10007 ∣ m * n := Nat.dvd_of_mod_eq_zero h1
  have h3 : Nat.Coprime 10007 m := prime_gcd m (by omega) (by omega)
  have h4 := h3.dvd_of_dvd_mul_left h2
  have := Nat.le_of_dvd (by omega) h4
  omega

theorem lexC_len (f g : List (List Int)) (h : f.length = g.length) : cmpF f g = if (sumLen f : Int) = sumLen g then lexC cmpT f g else (sumLen f : Int) - sumLen g := by
  unfold cmpF thenC
  simp only [h, if_true]


theorem mulF_len (f g : List (List Int)) : (mulF f g).length = f.length + g.length := by unfold mulF; rw [sortC_length, List.length_append]
theorem mulF_sum (f g : List (List Int)) : sumLen (mulF f g) = sumLen f + sumLen g := by
  unfold mulF; rw [sumLen_perm (sortC_perm _)]; simp [sumLen]
theorem mulF_comm (f g : List (List Int)) : mulF f g = mulF g f := sortC_congr cmpT_cmp (List.perm_append_comm)
theorem mulF_sorted (f g : List (List Int)) : (mulF f g).Pairwise (fun a b => cmpT a b ≤ 0) := sortC_sorted cmpT_cmp _

/-- Sorted forests of the same shape: the order stays when another forest is put to both. -/
theorem lexC_mul : ∀ (h f g : List (List Int)), f.Pairwise (fun a b => cmpT a b ≤ 0) → g.Pairwise (fun a b => cmpT a b ≤ 0) → f.length = g.length → lexC cmpT f g < 0 → lexC cmpT (h.foldl (fun s x => ins cmpT x s) f) (h.foldl (fun s x => ins cmpT x s) g) < 0
  | [], _, _, _, _, _, hlt => hlt
  | x :: h, f, g, h1, h2, hl, hlt => lexC_mul h _ _ (ins_sorted cmpT_cmp x f h1) (ins_sorted cmpT_cmp x g h2) (by rw [ins_length, ins_length, hl]) (lexC_ins cmpT_cmp x h1 h2 hl hlt)
theorem mulF_foldl {f : List (List Int)} (h : List (List Int)) (hf : f.Pairwise (fun a b => cmpT a b ≤ 0)) : mulF f h = h.foldl (fun s x => ins cmpT x s) f := by
  unfold mulF sortC
  rw [List.foldl_append]
  congr 1
  exact sortC_of_sorted cmpT_cmp hf

/-- The order of forests goes with products. -/
theorem cmpF_mul {f g : List (List Int)} (h : List (List Int)) (hf : f.Pairwise (fun a b => cmpT a b ≤ 0)) (hg : g.Pairwise (fun a b => cmpT a b ≤ 0)) (hlt : cmpF f g < 0) : cmpF (mulF f h) (mulF g h) < 0 := by
  unfold cmpF thenC at hlt ⊢
  simp only [mulF_sum, mulF_len] at hlt ⊢
  by_cases h1 : sumLen f = sumLen g
  · by_cases h2 : f.length = g.length
    · rw [if_pos (by rw [h1])] at hlt ⊢
      rw [if_pos (by rw [h2])] at hlt ⊢
      rw [mulF_foldl h hf, mulF_foldl h hg]
      exact lexC_mul h f g hf hg h2 hlt
    · rw [if_pos (by rw [h1])] at hlt ⊢
      rw [if_neg (by omega)] at hlt ⊢
      omega
  · rw [if_neg (by omega)] at hlt ⊢
    omega

/-- The products of summands in all combinations. -/
def prodL (d e : List (Int × List (List Int))) : List (Int × List (List Int)) := d.flatMap fun p => e.map fun q => (mP (p.1 * q.1), mulF p.2 q.2)
def SrtF (L : List (Int × List (List Int))) : Prop := ∀ q ∈ L, q.2.Pairwise fun a b => cmpT a b ≤ 0

theorem prodL_snoc (d e : List (Int × List (List Int))) (p : Int × List (List Int)) : prodL (d ++ [p]) e = prodL d e ++ e.map fun q => (mP (p.1 * q.1), mulF p.2 q.2) := by
  unfold prodL; rw [List.flatMap_append]; simp

/-- The greatest product stands alone. -/
theorem prod_top {d e : List (Int × List (List Int))} {p q : Int × List (List Int)} (hd : NfS cmpF (d ++ [p])) (he : NfS cmpF (e ++ [q])) (sd : SrtF (d ++ [p])) (se : SrtF (e ++ [q])) :
    mP (coef cmpF (prodL (d ++ [p]) (e ++ [q])) (mulF p.2 q.2)) = mP (p.1 * q.1) := by
  have h1 := (List.pairwise_append.1 hd.1).2.2
  have h2 := (List.pairwise_append.1 he.1).2.2
  have hC := cmpF_cmp
  have hlast : ∀ r ∈ e, cmpF (mulF p.2 r.2) (mulF p.2 q.2) < 0 := fun r hr => by
    rw [mulF_comm p.2 r.2, mulF_comm p.2 q.2]
    exact cmpF_mul p.2 (se r (by simp [hr])) (se q (by simp)) (h2 r hr q (by simp))
  have hfirst : coef cmpF (prodL d (e ++ [q])) (mulF p.2 q.2) = 0 := coef_zero (fun z hz => by
    unfold prodL at hz
    rw [List.mem_flatMap] at hz
    obtain ⟨r, hr, hz⟩ := hz
    rw [List.mem_map] at hz
    obtain ⟨u, hu, rfl⟩ := hz
    have h3 : cmpF (mulF r.2 u.2) (mulF p.2 u.2) < 0 := cmpF_mul u.2 (sd r (by simp [hr])) (sd p (by simp)) (h1 r hr p (by simp))
    have h4 : cmpF (mulF r.2 u.2) (mulF p.2 q.2) < 0 := by
      rcases List.mem_append.1 hu with hu | hu
      · exact hC.lt_tr h3 (hlast u hu)
      · simp at hu; subst hu; exact h3
    show cmpF (mulF r.2 u.2) (mulF p.2 q.2) ≠ 0
    omega)
  rw [prodL_snoc, coef_append, hfirst, List.map_append, coef_append]
  have hmid : coef cmpF (e.map fun q => (mP (p.1 * q.1), mulF p.2 q.2)) (mulF p.2 q.2) = 0 := coef_zero (fun z hz => by
    rw [List.mem_map] at hz
    obtain ⟨u, hu, rfl⟩ := hz
    have := hlast u hu
    show cmpF (mulF p.2 u.2) (mulF p.2 q.2) ≠ 0
    omega)
  rw [hmid]
  show mP (0 + (0 + ((if cmpF (mulF p.2 q.2) (mulF p.2 q.2) = 0 then mP (p.1 * q.1) else 0) + 0))) = _
  rw [if_pos (hC.refl _)]
  unfold mP; omega

theorem nz_mem {κ : Type} {c : κ → κ → Int} (hc : Cmp c) {L : List (Int × κ)} {x : κ} (h : mP (coef c L x) ≠ 0) : ∃ q ∈ L, q.2 = x := by
  by_cases hx : ∃ q ∈ L, q.2 = x
  · exact hx
  · exfalso
    refine h ?_
    rw [coef_zero (fun q hq e => hx ⟨q, hq, hc.zero _ _ e⟩)]; rfl

/-- The product of two sums that are not 0 has a forest of as many nodes as the greatest ones have together. -/
theorem prod_deg {d e : List (Int × List (List Int))} {p q : Int × List (List Int)} (hd : NfS cmpF (d ++ [p])) (he : NfS cmpF (e ++ [q])) (sd : SrtF (d ++ [p])) (se : SrtF (e ++ [q])) :
    ∃ r ∈ sumS cmpF (prodL (d ++ [p]) (e ++ [q])), sumLen r.2 = sumLen p.2 + sumLen q.2 := by
  have h : mP (coef cmpF (sumS cmpF (prodL (d ++ [p]) (e ++ [q]))) (mulF p.2 q.2)) ≠ 0 := by
    rw [sumS_coef cmpF_cmp, prod_top hd he sd se]
    exact prime_mul (hd.2 p (by simp)) (he.2 q (by simp))
  obtain ⟨r, h1, h2⟩ := nz_mem cmpF_cmp h
  exact ⟨r, h1, by rw [h2, mulF_sum]⟩
end Go.Proofs.Ytdjkmjifeekimaa
