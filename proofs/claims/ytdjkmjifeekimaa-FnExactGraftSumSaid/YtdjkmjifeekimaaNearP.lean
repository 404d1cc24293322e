/- Parents, neighbours and rerooted trees, plain. -/
import Derived.Test.YtdjkmjifeekimaaCutPure
set_option linter.unusedSimpArgs false
set_option linter.unusedVariables false
namespace Go.Proofs.Ytdjkmjifeekimaa
open Go.RowKit

/-- The last index below k at which l stands, or -1. -/
def parS (t : List Int) (l : Int) : Nat → Int
  | 0 => -1
  | k + 1 => if t.getD k 0 = l then (k : Int) else parS t l k

theorem parS_lt (t : List Int) (l : Int) : ∀ k, -1 ≤ parS t l k ∧ parS t l k < k
  | 0 => by simp [parS]
  | k + 1 => by
    have := parS_lt t l k
    unfold parS
    split <;> omega

theorem parS_skip (t : List Int) (l : Int) (q : Nat) : ∀ k, q ≤ k → (∀ p, q ≤ p → p < k → t.getD p 0 ≠ l) → parS t l k = parS t l q
  | 0, h, _ => by rw [Nat.le_zero.1 h]
  | k + 1, h, hn => by
    by_cases hq : q = k + 1
    · rw [hq]
    · have h1 := hn k (by omega) (by omega)
      unfold parS
      rw [if_neg h1, parS_skip t l q k (by omega) (fun p a b => hn p a (by omega))]
      cases q <;> rfl

def parAt (t : List Int) (i : Nat) : Int := parS t (t.getD i 0 - 1) i
def parents (t : List Int) : List Int := (List.range t.length).map (parAt t)

theorem parents_len (t : List Int) : (parents t).length = t.length := by simp [parents]
theorem parents_get (t : List Int) (i : Nat) (h : i < t.length) : (parents t)[i]'(by rw [parents_len]; exact h) = parAt t i := by simp [parents]

/-- A pair of neighbours more. -/
def nearStep (near : List (List Int)) (i : Nat) (k : Int) : List (List Int) :=
  if 0 ≤ k then (near.set i (near.getD i [] ++ [k])).set k.toNat ((near.set i (near.getD i [] ++ [k])).getD k.toNat [] ++ [(i : Int)]) else near

def nearTo (t : List Int) : Nat → List (List Int)
  | 0 => List.replicate t.length []
  | i + 1 => nearStep (nearTo t i) i (parAt t i)

def nears (t : List Int) : List (List Int) := nearTo t t.length

theorem nearStep_len (near : List (List Int)) (i : Nat) (k : Int) : (nearStep near i k).length = near.length := by
  unfold nearStep
  split <;> simp

theorem nearTo_len (t : List Int) : ∀ i, (nearTo t i).length = t.length
  | 0 => by simp [nearTo]
  | i + 1 => by rw [nearTo, nearStep_len, nearTo_len t i]

theorem nearStep_each {near : List (List Int)} {i : Nat} {k : Int} {B : Nat} (h : ∀ x ∈ near, x.length ≤ B) : ∀ x ∈ nearStep near i k, x.length ≤ B + 2 := by
  intro x hx
  unfold nearStep at hx
  have h0 : ∀ (near : List (List Int)) (i B : Nat), (∀ x ∈ near, x.length ≤ B) → (near.getD i []).length ≤ B := by
    intro near i B h
    by_cases hi : i < near.length
    · simp only [List.getD_eq_getElem?_getD, List.getElem?_eq_getElem hi, Option.getD_some]; exact h _ (List.getElem_mem hi)
    · simp [List.getD_eq_getElem?_getD, List.getElem?_eq_none (Nat.le_of_not_lt hi)]
  have h1 : ∀ (near : List (List Int)) (i B : Nat) (z : Int), (∀ x ∈ near, x.length ≤ B) → ∀ x ∈ near.set i (near.getD i [] ++ [z]), x.length ≤ B + 1 := by
    intro near i B z h x hx
    rcases List.mem_or_eq_of_mem_set hx with hx | rfl
    · have := h x hx; omega
    · have := h0 near i B h; simp only [List.length_append, List.length_singleton]; omega
  split at hx
  · exact h1 _ _ _ _ (h1 near i B k h) x hx
  · have := h x hx; omega

theorem nearTo_each (t : List Int) : ∀ i, ∀ x ∈ nearTo t i, x.length ≤ 2 * i
  | 0, x, hx => by rw [nearTo, List.mem_replicate] at hx; rw [hx.2]; simp
  | i + 1, x, hx => by
    have := nearStep_each (nearTo_each t i) x hx
    omega

/-- The tree with a root, joined to others; by so many levels at most. -/
def treeF : Nat → List (List Int) → Int → Int → List Int
  | 0, _, _, _ => [0]
  | f + 1, near, root, from' => canon (rootOn (((near.getD root.toNat []).filter fun x => decide (x ≠ from')).map fun x => treeF f near x root))

def nodeCount (bs : List (List Int)) : Nat := bs.foldl (fun a b => a + b.length) 1

theorem nodeCount_eq (bs : List (List Int)) : nodeCount bs = (rootOn bs).length := by
  rw [rootOn_len]
  have : ∀ (bs : List (List Int)) (n : Nat), bs.foldl (fun a b => a + b.length) n = n + sumLen bs := by
    intro bs
    induction bs with
    | nil => intro n; simp [sumLen]
    | cons b bs ih => intro n; rw [List.foldl_cons, ih]; simp [sumLen]; omega
  unfold nodeCount
  rw [this]; omega

/-- .. and that there are no more levels. -/
def treeOk : Nat → List (List Int) → Int → Int → Bool
  | 0, _, _, _ => false
  | f + 1, near, root, from' => decide (0 ≤ root) && (decide (root < near.length) && (((near.getD root.toNat []).all fun x => decide (x = from') || treeOk f near x root)))

/-- .. of 13 nodes at most. -/
def treeSm : Nat → List (List Int) → Int → Int → Nat
  | 0, _, _, _ => 1
  | f + 1, near, root, from' => ((near.getD root.toNat []).filter fun x => decide (x ≠ from')).foldl (fun a x => a + treeSm f near x root) 1

theorem treeF_both : ∀ (f : Nat) (near : List (List Int)) (root from' : Int), LevP (treeF f near root from') ∧ (treeF f near root from').length = treeSm f near root from'
  | 0, _, _, _ => ⟨by rw [treeF]; exact (LevP_iff _).2 ⟨[], rfl, trivial⟩, rfl⟩
  | f + 1, near, root, from' => by
    have hl : LevP (rootOn (((near.getD root.toNat []).filter fun x => decide (x ≠ from')).map fun x => treeF f near x root)) := by
      refine rootOn_lev fun b hb => ?_
      obtain ⟨x, _, rfl⟩ := List.mem_map.1 hb
      exact (treeF_both f near x root).1
    refine ⟨canon_lev hl, ?_⟩
    rw [treeF, canon_len hl, ← nodeCount_eq]
    unfold nodeCount treeSm
    rw [List.foldl_map]
    congr 1
    funext a x
    rw [(treeF_both f near x root).2]

end Go.Proofs.Ytdjkmjifeekimaa
