/- Superfluous trees, plain. -/
import Derived.Test.YtmeijcgclllldaaGraftP
namespace Go.Proofs.Ytmeijcgclllldaa
open Go.RowKit

/-- The edge above a node joins two halves that are the same tree. -/
def supD (t : List Int) (n : Nat) : Bool := Nat.beq (cutT t n).length (cutB t n).length && decide (turnF 8 (cutT t n) (parAt t n).toNat = canon (cutB t n))

def isSup (t : List Int) : Bool := (List.range t.length).any fun i => !(Nat.beq i 0) && supD t i

theorem sup_check : trees8.all (fun t => (List.range t.length).all fun i => Nat.beq i 0 ||
    (treeOk 9 (nears t) (i : Nat) (parAt t i) && (Nat.ble (treeSm 9 (nears t) (i : Nat) (parAt t i)) 13 && (treeOk 9 (nears t) (parAt t i) (i : Nat) && (Nat.ble (treeSm 9 (nears t) (parAt t i) (i : Nat)) 13 &&
      (decide (treeF 9 (nears t) (i : Nat) (parAt t i) = treeF 9 (nears t) (parAt t i) (i : Nat)) == supD t i)))))) = true := by decide +kernel

theorem sup_ok {t : List Int} (h : lev8 t = true) {i : Nat} (h0 : 0 < i) (hi : i < t.length) :
    treeOk 9 (nears (canon t)) i (parAt (canon t) i) = true ∧ treeSm 9 (nears (canon t)) i (parAt (canon t) i) ≤ 13 ∧ treeOk 9 (nears (canon t)) (parAt (canon t) i) i = true ∧ treeSm 9 (nears (canon t)) (parAt (canon t) i) i ≤ 13 ∧
      decide (treeF 9 (nears (canon t)) i (parAt (canon t) i) = treeF 9 (nears (canon t)) (parAt (canon t) i) i) = supD (canon t) i := by
  have := List.all_eq_true.1 (trees8_all sup_check h) i (List.mem_range.2 (by rw [canon_len (lev8_lev h)]; exact hi))
  rw [Bool.or_eq_true] at this
  have := this.resolve_left (fun e => by have := Nat.eq_of_beq_eq_true e; omega)
  simp only [Bool.and_eq_true] at this
  exact ⟨this.1, Nat.le_of_ble_eq_true this.2.1, this.2.2.1, Nat.le_of_ble_eq_true this.2.2.2.1, by simpa using this.2.2.2.2⟩

theorem isSup_true {t : List Int} {i : Nat} (h0 : 0 < i) (hi : i < t.length) (h : supD t i = true) : isSup t = true := by
  refine List.any_eq_true.2 ⟨i, List.mem_range.2 hi, ?_⟩
  have : Nat.beq i 0 = false := by cases i with
    | zero => omega
    | succ i => rfl
  rw [this, h]; rfl

theorem isSup_false {t : List Int} (h : ∀ i, 0 < i → i < t.length → supD t i = false) : isSup t = false := by
  refine List.any_eq_false.2 fun i hi => ?_
  rcases Nat.eq_zero_or_pos i with rfl | h0
  · simp
  · rw [h i h0 (List.mem_range.1 hi)]; simp

/-- What IsSuperfluous returns. -/
def supOf (t : List Int) : Bool × Int := if lev8 t = true then (isSup (canon t), 0) else (false, 1)
theorem supOf_ok {t : List Int} (h : lev8 t = true) : supOf t = (isSup (canon t), 0) := by unfold supOf; rw [if_pos h]
theorem supOf_bad {t : List Int} (h : lev8 t = false) : supOf t = (false, 1) := by unfold supOf; rw [if_neg (by simp [h])]
end Go.Proofs.Ytmeijcgclllldaa
