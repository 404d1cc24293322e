/- IsElement and its results, as plain functions. -/
import Derived.Test.YtacbkjmkjpjhoaaGreatSumD
import Derived.Test.YtacbkjmkjpjhoaaGreatNum
set_option linter.unusedSimpArgs false
set_option linter.unusedVariables false
/- Elements: what the functions return; plain. -/
namespace Go.Proofs.YtacbkjmkjpjhoaaGreat

abbrev Elt := List (Int × List (List Int))

/-- IsTree. -/
def canT (t : List Int) : Bool := lev8 t && decide (canon t = t)
/-- What IsForest asks at a place. -/
def okT (f : List (List Int)) (i : Nat) : Bool := canT (f.getD i []) && (decide (i = 0) || decide (cmpT (f.getD (i - 1) []) (f.getD i []) ≤ 0))
/-- IsForest. -/
def forB (f : List (List Int)) : Bool := decide (sumLen f ≤ 8) && (List.range f.length).all (okT f)
/-- What IsElement asks at a place. -/
def okP (e : Elt) (i : Nat) : Bool :=
  decide (1 ≤ (e.getD i (0, [])).1) && decide ((e.getD i (0, [])).1 < 10007) && forB (e.getD i (0, [])).2 && (decide (i = 0) || decide (cmpF (e.getD (i - 1) (0, [])).2 (e.getD i (0, [])).2 < 0))
/-- IsElement. -/
def elB (e : Elt) : Bool := decide (e.length ≤ 300) && (List.range e.length).all (okP e)

theorem all_range {n : Nat} {p : Nat → Bool} : (List.range n).all p = true ↔ ∀ i < n, p i = true := by
  rw [List.all_eq_true]
  exact ⟨fun h i hi => h i (List.mem_range.2 hi), fun h i hi => h i (List.mem_range.1 hi)⟩
theorem all_range_no {n i : Nat} {p : Nat → Bool} (hi : i < n) (h : p i = false) : (List.range n).all p = false := by
  rcases hq : (List.range n).all p with _ | _
  · rfl
  · rw [all_range.1 hq i hi] at h; cases h

/-- Neighbours in order: all in order. -/
theorem adj_pairwise {α : Type} {r : α → α → Prop} (ht : ∀ a b d, r a b → r b d → r a d) : ∀ {l : List α}, (∀ i (h : i + 1 < l.length), r l[i] l[i + 1]) → l.Pairwise r
  | [], _ => List.Pairwise.nil
  | [a], _ => List.pairwise_singleton _ _
  | a :: b :: l, h => by
    have ih := adj_pairwise ht (l := b :: l) (fun i hi => h (i + 1) (by simp at hi ⊢; omega))
    refine List.pairwise_cons.2 ⟨fun x hx => ?_, ih⟩
    have h0 : r a b := h 0 (by simp)
    rcases List.mem_cons.1 hx with rfl | hx
    · exact h0
    · exact ht a b x h0 ((List.pairwise_cons.1 ih).1 x hx)

theorem getD_at {α : Type} {l : List α} {d : α} {i : Nat} (h : i < l.length) : l.getD i d = l[i] := by
  rw [List.getD_eq_getElem?_getD, List.getElem?_eq_getElem h]; rfl

theorem forB_spec {f : List (List Int)} (h : forB f = true) : sumLen f ≤ 8 ∧ (∀ t ∈ f, canT t = true) ∧ f.Pairwise fun a b => cmpT a b ≤ 0 := by
  unfold forB at h
  rw [Bool.and_eq_true, all_range] at h
  refine ⟨of_decide_eq_true h.1, fun t ht => ?_, adj_pairwise (fun a b d => cmpT_cmp.trans a b d) (fun i hi => ?_)⟩
  · obtain ⟨i, hi, rfl⟩ := List.getElem_of_mem ht
    have := h.2 i hi
    unfold okT at this
    rw [Bool.and_eq_true, getD_at hi] at this
    exact this.1
  · have := h.2 (i + 1) hi
    unfold okT at this
    rw [Bool.and_eq_true, Bool.or_eq_true, getD_at hi, Nat.add_sub_cancel, getD_at (show i < f.length by omega)] at this
    rcases this.2 with h1 | h1
    · have := of_decide_eq_true h1; omega
    · exact of_decide_eq_true h1

theorem elB_spec {e : Elt} (h : elB e = true) : e.length ≤ 300 ∧ NfS cmpF e ∧ SrtF e ∧ ∀ p ∈ e, forB p.2 = true := by
  unfold elB at h
  rw [Bool.and_eq_true, all_range] at h
  have hall : ∀ p ∈ e, (1 ≤ p.1 ∧ p.1 < 10007) ∧ forB p.2 = true := fun p hp => by
    obtain ⟨i, hi, rfl⟩ := List.getElem_of_mem hp
    have := h.2 i hi
    unfold okP at this
    rw [getD_at hi] at this
    simp only [Bool.and_eq_true, decide_eq_true_eq] at this
    exact ⟨this.1.1, this.1.2⟩
  refine ⟨of_decide_eq_true h.1, ⟨adj_pairwise (r := fun p q : Int × List (List Int) => cmpF p.2 q.2 < 0) (fun a b d h1 h2 => cmpF_cmp.lt_tr h1 h2) (fun i hi => ?_), fun p hp => (hall p hp).1⟩, fun p hp => (forB_spec (hall p hp).2).2.2, fun p hp => (hall p hp).2⟩
  have := h.2 (i + 1) hi
  unfold okP at this
  rw [getD_at hi, Nat.add_sub_cancel, getD_at (show i < e.length by omega)] at this
  simp only [Bool.and_eq_true, Bool.or_eq_true, decide_eq_true_eq] at this
  rcases this.2 with h1 | h1
  · omega
  · exact h1

/-- What comes ahead stays. -/
theorem putS_skip {κ : Type} {c : κ → κ → Int} {k : Int} {x : κ} (hk : k ≠ 0) (M : List (Int × κ)) : ∀ {L : List (Int × κ)}, (∀ q ∈ L, 0 < c x q.2) → putS c (L ++ M) k x = L ++ putS c M k x
  | [], _ => rfl
  | (a, y) :: L, h => by
    have h0 : 0 < c x y := h (a, y) (by simp)
    show putS c ((a, y) :: (L ++ M)) k x = _
    conv => lhs; unfold putS
    rw [if_neg hk, if_neg (by omega), if_neg (by omega), putS_skip hk M (fun q hq => h q (by simp [hq]))]
    rfl
theorem putS_zero {κ : Type} {c : κ → κ → Int} {x : κ} (L : List (Int × κ)) : putS c L 0 x = L := by
  cases L <;> simp [putS]

/-- DegreeOf. -/
def degE (e : Elt) : Int := match e.getLast? with
  | none => -1
  | some p => sumLen p.2
def degOf (e : Elt) : Int × Int := if elB e = true then (degE e, 0) else (0, 1)
/-- limited. -/
def limS (L : Elt) : Elt × Int := if L.length ≤ 300 ∧ ∀ p ∈ L, sumLen p.2 ≤ 8 then (L, 0) else ([], 3)
def addOf (d e : Elt) : Elt × Int := if (elB d && elB e) = true then limS (sumS cmpF (d ++ e)) else ([], 1)
def sclOf (e : Elt) (k : Int) : Elt × Int := if elB e = true then (if inR k 0 10006 = true then (sumS cmpF (e.map fun p => (mP (p.1 * k), p.2)), 0) else ([], 2)) else ([], 1)
def timOf (d e : Elt) : Elt × Int := if (elB d && elB e) = true then limS (sumS cmpF (prodL d e)) else ([], 1)
def rotOf (e : Elt) : Elt × Int := if elB e = true then limS (sumS cmpF (e.map fun p => (p.1, [canon (rootOn p.2)]))) else ([], 1)
end Go.Proofs.YtacbkjmkjpjhoaaGreat

/- Forests of elements are small. -/
namespace Go.Proofs.YtacbkjmkjpjhoaaGreat
open Go.RowKit

theorem forB_tree' {f : List (List Int)} (h : forB f = true) : (∀ t ∈ f, 1 ≤ t.length) ∧ sumLen f ≤ 8 := by
  obtain ⟨h1, h2, _⟩ := forB_spec h
  refine ⟨fun t ht => ?_, h1⟩
  have := h2 t ht
  unfold canT at this
  rw [Bool.and_eq_true] at this
  exact (lev8_lev this.1).pos
theorem len_le_sum1 : ∀ f : List (List Int), (∀ t ∈ f, 1 ≤ t.length) → f.length ≤ sumLen f
  | [], _ => by simp
  | b :: bs, h => by
    have ih := len_le_sum1 bs (fun c hc => h c (by simp [hc]))
    have := h b (by simp)
    simp only [sumLen, List.map_cons, List.sum_cons, List.length_cons] at ih ⊢
    omega
theorem forB_short {f : List (List Int)} (h : forB f = true) : f.length ≤ 8 := by
  obtain ⟨h1, h2⟩ := forB_tree' h
  have := len_le_sum1 f h1
  omega
end Go.Proofs.YtacbkjmkjpjhoaaGreat
