/- Exchanges of elements of owned lists; insertion sort, plain. -/
import Derived.Test.YtacbkjmkjpjhoaaGreatBase
import Derived.Test.YtacbkjmkjpjhoaaGreatSort
set_option linter.unusedSimpArgs false
set_option linter.unusedVariables false
namespace Go.Proofs.YtacbkjmkjpjhoaaGreat
open Go.RowKit

section
variable {α : Type}

def swpL (xs : List α) (i j : Nat) : List α := match xs[i]?, xs[j]? with
  | some a, some b => (xs.set i b).set j a
  | _, _ => xs

theorem swpL_eq (xs : List α) (i j : Nat) (hi : i < xs.length) (hj : j < xs.length) : swpL xs i j = (xs.set i xs[j]).set j xs[i] := by
  unfold swpL
  rw [List.getElem?_eq_getElem hi, List.getElem?_eq_getElem hj]

theorem swpL_length (xs : List α) (i j : Nat) : (swpL xs i j).length = xs.length := by
  unfold swpL
  split <;> simp

theorem split2 (xs : List α) (i j : Nat) (hij : i < j) (hj : j < xs.length) : ∃ p a q b r, xs = p ++ (a :: (q ++ (b :: r))) ∧ p.length = i ∧ i + q.length + 1 = j ∧ xs[i] = a ∧ xs[j] = b := by
  refine ⟨xs.take i, xs[i], (xs.take j).drop (i + 1), xs[j], xs.drop (j + 1), ?_, by simp; omega, by simp; omega, rfl, rfl⟩
  have h1 : xs = xs.take j ++ (xs[j] :: xs.drop (j + 1)) := by rw [← List.drop_eq_getElem_cons hj, List.take_append_drop]
  have h2 : xs.take j = xs.take i ++ (xs[i] :: (xs.take j).drop (i + 1)) := by
    have e : (xs.take j)[i]'(by simp; omega) = xs[i] := by simp
    rw [← e, ← List.drop_eq_getElem_cons (by simp; omega)]
    have e2 : (xs.take j).take i = xs.take i := by rw [List.take_take, Nat.min_eq_left (by omega)]
    rw [← e2, List.take_append_drop]
  conv => lhs; rw [h1, h2]
  simp

theorem swpL_split (p q r : List α) (a b : α) (i j : Nat) (hi : p.length = i) (hj : i + q.length + 1 = j) : swpL (p ++ (a :: (q ++ (b :: r)))) i j = p ++ (b :: (q ++ (a :: r))) := by
  subst hi
  subst hj
  have h1 : (p ++ (a :: (q ++ (b :: r))))[p.length]? = some a := by simp
  have h2 : (p ++ (a :: (q ++ (b :: r))))[p.length + q.length + 1]? = some b := by
    rw [List.getElem?_append_right (by omega), show p.length + q.length + 1 - p.length = q.length + 1 by omega]
    simp
  unfold swpL
  rw [h1, h2]
  simp only
  rw [List.set_append_right _ _ (Nat.le_refl _), Nat.sub_self, List.set_cons_zero, List.set_append_right _ _ (by omega), show p.length + q.length + 1 - p.length = q.length + 1 by omega, List.set_cons_succ, List.set_append_right _ _ (Nat.le_refl _), Nat.sub_self, List.set_cons_zero]

theorem swpL_perm (xs : List α) (i j : Nat) (hij : i < j) (hj : j < xs.length) : (swpL xs i j).Perm xs := by
  obtain ⟨p, a, q, b, r, e, h1, h2, _, _⟩ := split2 xs i j hij hj
  subst e
  rw [swpL_split p q r a b i j h1 h2]
  refine List.Perm.append_left p ?_
  refine ((List.perm_middle (l₁ := q) (a := a) (l₂ := r)).cons b).trans ?_
  refine (List.Perm.swap a b _).trans ?_
  exact ((List.perm_middle (l₁ := q) (a := b) (l₂ := r)).symm).cons a

theorem swpL_get (xs : List α) (i j : Nat) (hi : i < xs.length) (hj : j < xs.length) (k : Nat) (hk : k < xs.length) : (swpL xs i j)[k]'(by rw [swpL_length]; exact hk) = if k = j then xs[i] else if k = i then xs[j] else xs[k] := by
  have e := swpL_eq xs i j hi hj
  simp only [e, List.getElem_set]
  by_cases h1 : j = k
  · subst h1; simp
  · by_cases h2 : i = k
    · subst h2; simp [h1, Ne.symm h1]
    · simp [h1, h2, Ne.symm h1, Ne.symm h2]

theorem swpL_out (xs : List α) (i j k : Nat) (h1 : k ≠ i) (h2 : k ≠ j) : (swpL xs i j)[k]? = xs[k]? := by
  unfold swpL
  split
  · rw [List.getElem?_set_ne (Ne.symm h2), List.getElem?_set_ne (Ne.symm h1)]
  · rfl

variable {c : α → α → Int}

/-- Sorted from a up to i. -/
def SegOk (c : α → α → Int) (a i : Nat) (ys : List α) : Prop := ∀ p q (hp : p < ys.length) (hq : q < ys.length), a ≤ p → p < q → q < i → c ys[p] ys[q] ≤ 0
/-- Sorted from a up to i, but for the element j, which is not yet down. -/
def SinkOk (c : α → α → Int) (a i j : Nat) (ys : List α) : Prop := ∀ p q (hp : p < ys.length) (hq : q < ys.length), a ≤ p → p < q → q < i + 1 → q ≠ j → c ys[p] ys[q] ≤ 0

theorem SegOk.sink {a i : Nat} {ys : List α} (h : SegOk c a i ys) : SinkOk c a i i ys := fun p q hp hq h1 h2 h3 h4 => h p q hp hq h1 h2 (by omega)

theorem SinkOk.swap {a i j : Nat} {ys : List α} (h : SinkOk c a i j ys) (hj0 : a < j) (hji : j ≤ i) (hj : j < ys.length) (hlt : c ys[j] (ys[j - 1]'(by omega)) < 0) : SinkOk c a i (j - 1) (swpL ys (j - 1) j) := by
  intro p q hp hq h1 h2 h3 h4
  have hp' : p < ys.length := by rw [swpL_length] at hp; exact hp
  have hq' : q < ys.length := by rw [swpL_length] at hq; exact hq
  rw [swpL_get ys (j - 1) j (by omega) hj p hp', swpL_get ys (j - 1) j (by omega) hj q hq']
  by_cases hqj : q = j
  · subst hqj
    rw [if_pos rfl, if_neg (by omega)]
    by_cases hp1 : p = q - 1
    · rw [if_pos hp1]; omega
    · rw [if_neg hp1]; exact h p (q - 1) hp' (by omega) h1 (by omega) (by omega) (by omega)
  · rw [if_neg hqj, if_neg h4]
    by_cases hpj : p = j
    · subst hpj
      rw [if_pos rfl]
      exact h (p - 1) q (by omega) hq' (by omega) (by omega) h3 hqj
    · rw [if_neg hpj]
      by_cases hp1 : p = j - 1
      · rw [if_pos hp1]
        exact h j q hj hq' (by omega) (by omega) h3 hqj
      · rw [if_neg hp1]
        exact h p q hp' hq' h1 h2 h3 hqj

theorem SinkOk.done (hc : Cmp c) {a i j : Nat} {ys : List α} (h : SinkOk c a i j ys) (hj : j < ys.length) (hs : j ≤ a ∨ ¬ c ys[j] (ys[j - 1]'(by omega)) < 0) (_hji : j ≤ i) : SegOk c a (i + 1) ys := by
  intro p q hp hq h1 h2 h3
  by_cases hqj : q = j
  · subst hqj
    rcases hs with hs | hs
    · omega
    · have hle := hc.le_of_not_lt hs
      by_cases hp1 : p = q - 1
      · subst hp1; exact hle
      · exact hc.trans _ _ _ (h p (q - 1) hp (by omega) h1 (by omega) (by omega) (by omega)) hle
  · exact h p q hp hq h1 h2 (by omega) hqj

theorem SegOk.pairwise {ys : List α} {n : Nat} (h : SegOk c 0 n ys) (hn : ys.length ≤ n) : ys.Pairwise (fun a b => c a b ≤ 0) := by
  rw [List.pairwise_iff_getElem]
  intro i j hi hj hij
  exact h i j hi hj (Nat.zero_le _) hij (by omega)

/-- The same elements, in another order between a and b. -/
structure PermIn (a b : Nat) (xs ys : List α) : Prop where
  perm : ys.Perm xs
  out : ∀ p, (p < a ∨ b ≤ p) → ys[p]? = xs[p]?

theorem PermIn.refl (a b : Nat) (xs : List α) : PermIn a b xs xs := ⟨List.Perm.refl _, fun _ _ => rfl⟩
theorem PermIn.trans {a b : Nat} {xs ys zs : List α} (h : PermIn a b xs ys) (k : PermIn a b ys zs) : PermIn a b xs zs := ⟨k.perm.trans h.perm, fun p hp => (k.out p hp).trans (h.out p hp)⟩
theorem PermIn.len {a b : Nat} {xs ys : List α} (h : PermIn a b xs ys) : ys.length = xs.length := h.perm.length_eq
theorem PermIn.swp {a b : Nat} (xs : List α) (i j : Nat) (hij : i < j) (hj : j < xs.length) (ha : a ≤ i) (hb : j < b) : PermIn a b xs (swpL xs i j) :=
  ⟨swpL_perm xs i j hij hj, fun p hp => swpL_out xs i j p (by omega) (by omega)⟩
theorem PermIn.mono {a b a' b' : Nat} {xs ys : List α} (h : PermIn a b xs ys) (h1 : a' ≤ a) (h2 : b ≤ b') : PermIn a' b' xs ys := ⟨h.perm, fun p hp => h.out p (by omega)⟩

variable {R : Rep α} {w : World}

theorem ownL.unappend : ∀ {xs ys : List α} {ds : List Value} {F : List Nat}, ownL R w ds (xs ++ ys) F →
    ∃ d1 d2 F1 F2, ds = d1 ++ d2 ∧ F = F1 ++ F2 ∧ ownL R w d1 xs F1 ∧ ownL R w d2 ys F2
  | [], ys, ds, F, h => ⟨[], ds, [], F, rfl, rfl, ⟨rfl, rfl⟩, h⟩
  | x :: xs, ys, ds, F, ⟨c, d, G, H, e, e', h1, h2⟩ => by
    obtain ⟨d1, d2, F1, F2, k1, k2, k3, k4⟩ := ownL.unappend h2
    exact ⟨c ++ d1, d2, G ++ F1, F2, by rw [e, k1, List.append_assoc], by rw [e', k2, List.append_assoc], ⟨c, d1, G, F1, rfl, rfl, h1, k3⟩, k4⟩

theorem Own.of_heap {β : Type} {S : Rep β} {w w' : World} {cs : List Value} {x : β} {lo hi : Nat} (h : Own S lo hi w cs x) (e : w'.heap = w.heap) : Own S lo hi w' cs x :=
  h.frame fun b _ _ => by rw [e]

theorem Rd.of_heap {β : Type} {S : Rep β} {w w' : World} {cs : List Value} {x : β} (h : Rd S w cs x) (e : w'.heap = w.heap) : Rd S w' cs x :=
  S.rd_mono (S.rd_frame h fun b _ _ => by rw [e]) (fun b hb _ => by rw [e]; exact hb)

theorem Chg.of_heap {lo hi : Nat} {w w' w'' : World} (h : Chg lo hi w w') (e : w''.heap = w'.heap) (e1 : w''.os = w'.os) (e2 : w''.tape = w'.tape) (e3 : w''.output = w'.output) : Chg lo hi w w'' :=
  ⟨e1.trans h.os, e2.trans h.tape, e3.trans h.output, by rw [e]; exact h.size, fun k hk hn => by rw [e]; exact h.block k hk hn⟩

/-- Two elements of an owned list change places. -/
theorem Own.swap {v : Value} {xs : List α} {lo hi : Nat} (h : Own (RS R) lo hi w [v] xs) (hk : R.k = 1) (i j : Nat) (hij : i < j) (hj : j < xs.length) :
    ∃ g cap a b, v = .slice (some ⟨g, 0, none⟩) xs.length cap ∧ xs.length ≤ cap ∧ cap ≤ 9223372036854775807 ∧ g < w.heap.size ∧
      w.cell? ⟨g, i, none⟩ = some a ∧ w.cell? ⟨g, j, none⟩ = some b ∧ w.frozen? ⟨g, i, none⟩ = false ∧ w.frozen? ⟨g, j, none⟩ = false ∧ Rd R w [a] xs[i] ∧ Rd R w [b] xs[j] ∧
      (w.setCell ⟨g, j, none⟩ a).cell? ⟨g, i, none⟩ = some a ∧
      Own (RS R) lo hi ((w.setCell ⟨g, j, none⟩ a).setCell ⟨g, i, none⟩ b) [v] (swpL xs i j) ∧ Chg lo hi w ((w.setCell ⟨g, j, none⟩ a).setCell ⟨g, i, none⟩ b) := by
  obtain ⟨og, ds, F, hrow, hel, hF, hlt⟩ := h.open
  obtain ⟨g, rfl⟩ := hrow.some_of hj
  obtain ⟨cap, hv, hc1, hc2⟩ := hrow.slice
  obtain ⟨p, x, q, y, r, e, hp, hq, hxi, hxj⟩ := split2 xs i j hij hj
  rw [hxi, hxj]
  have hel0 := hel
  rw [e] at hel0
  obtain ⟨d1, d2, F1, F2, rfl, rfl, h1, ⟨ca, d3, G, H, rfl, rfl, h2, h3⟩⟩ := ownL.unappend hel0
  obtain ⟨d4, d5, F4, F5, rfl, rfl, h4, ⟨cb, d6, G2, H2, rfl, rfl, h5, h6⟩⟩ := ownL.unappend h3
  have la := R.rd_len (R.own_rd h2)
  have lb := R.rd_len (R.own_rd h5)
  rw [hk] at la lb
  match ca, la, cb, lb with
  | [a], _, [b], _ =>
    have l1 : d1.length = i := by rw [h1.len, hk, Nat.mul_one, hp]
    have l4 : i + d4.length + 1 = j := by rw [h4.len, hk, Nat.mul_one]; exact hq
    have hlen : xs.length = p.length + (1 + (q.length + (1 + r.length))) := by rw [e]; simp only [List.length_append, List.length_cons]; omega
    have hrow' : Row w v 1 xs.length (d1 ++ (a :: (d4 ++ (b :: d6)))) (some g) := by rw [← hk]; exact hrow
    have ga : w.cell? ⟨g, i, none⟩ = some a := hrow'.cells i a (by rw [← l1]; simp)
    have gb : w.cell? ⟨g, j, none⟩ = some b := hrow'.cells j b (by
      rw [List.getElem?_append_right (by omega), l1, show j - i = d4.length + 1 by omega]; simp)
    obtain ⟨s1, r1⟩ := hrow'.store j a
    obtain ⟨s2, r2⟩ := s1.store i b
    have hset : ((d1 ++ (a :: (d4 ++ (b :: d6)))).set j a).set i b = d1 ++ (b :: (d4 ++ (a :: d6))) := by
      rw [List.set_append_right _ _ (by omega), l1, show j - i = d4.length + 1 by omega, List.set_cons_succ, List.set_append_right _ _ (Nat.le_refl _), Nat.sub_self, List.set_cons_zero]
      rw [List.set_append_right _ _ (by omega), l1, Nat.sub_self, List.set_cons_zero]
    rw [hset] at s2
    have hfr : ∀ z, z ∈ F1 ++ (G ++ (F4 ++ (G2 ++ H2))) → ((w.setCell ⟨g, j, none⟩ a).setCell ⟨g, i, none⟩ b).heap[z]? = w.heap[z]? := by
      intro z hz
      have hne : z ≠ g := by
        intro e; subst e
        exact (List.nodup_append.1 hF).2.2 z (by simp) z hz rfl
      rw [heap_setCell_other _ ⟨g, i, none⟩ z b hne, heap_setCell_other _ ⟨g, j, none⟩ z a hne]
    have hown : ownL R ((w.setCell ⟨g, j, none⟩ a).setCell ⟨g, i, none⟩ b) (d1 ++ (b :: (d4 ++ (a :: d6)))) (swpL xs i j) (F1 ++ (G2 ++ (F4 ++ (G ++ H2)))) := by
      rw [e, swpL_split p q r x y i j hp hq]
      refine ownL.append (h1.frame fun z hz => hfr z (by simp [hz])) ?_
      refine ⟨[b], d4 ++ (a :: d6), G2, F4 ++ (G ++ H2), rfl, rfl, R.own_frame h5 (fun z hz => hfr z (by simp [hz])), ?_⟩
      refine ownL.append (h4.frame fun z hz => hfr z (by simp [hz])) ?_
      exact ⟨[a], d6, G, H2, rfl, rfl, R.own_frame h2 (fun z hz => hfr z (by simp [hz])), h6.frame fun z hz => hfr z (by simp [hz])⟩
    have hperm : (F1 ++ (G2 ++ (F4 ++ (G ++ H2)))).Perm (F1 ++ (G ++ (F4 ++ (G2 ++ H2)))) := by
      refine List.Perm.append_left F1 ?_
      have e1 : (G2 ++ (F4 ++ (G ++ H2))).Perm (G ++ (G2 ++ (F4 ++ H2))) := by
        rw [← List.append_assoc, ← List.append_assoc]
        refine (List.perm_append_comm.append_right H2).trans ?_
        rw [List.append_assoc, List.append_assoc]
      refine e1.trans (List.Perm.append_left G ?_)
      rw [← List.append_assoc, ← List.append_assoc]
      exact List.perm_append_comm.append_right H2
    have hg := hlt g (by simp)
    have hgs := hrow.lt g rfl
    refine ⟨g, cap, a, b, hv, hc1, by unfold maxLen at hc2; omega, hgs, ga, gb, hrow'.frozen i, hrow'.frozen j, Rd.of (R.own_rd h2), Rd.of (R.own_rd h5), ?_, ?_, ?_⟩
    · rw [World.cell?_setCell_other _ _ _ _ (by intro e; simp only [Addr.mk.injEq] at e; omega)]; exact ga
    · refine Own.mk' (og := some g) (ds := d1 ++ (b :: (d4 ++ (a :: d6)))) (F := F1 ++ (G2 ++ (F4 ++ (G ++ H2)))) (by rw [hk, swpL_length]; exact s2) hown ?_ ?_
      · exact (List.Perm.nodup_iff (hperm.append_left _)).2 hF
      · intro z hz
        exact hlt z ((hperm.append_left _).mem_iff.1 hz)
    · exact (Chg.of_grown r1 (fun z hz => by cases hz; exact hg)).trans (Chg.of_grown r2 (fun z hz => by cases hz; exact hg))
end
end Go.Proofs.YtacbkjmkjpjhoaaGreat
