/- The walks of the laws on maps of numbers. -/
import Derived.Test.YtbpicjmfbaaabaaMarks
namespace Go.Proofs.Ytbpicjmfbaaabaa
open Go.RowKit

theorem marks_in64 (n : Nat) (k : Int) (h0 : 0 ≤ k) (h1 : k + n ≤ 4611686018427387904) : ∀ x ∈ marks n k, In64 x := by
  intro x hx
  simp [marks] at hx
  obtain ⟨i, hi, rfl⟩ := hx
  exact ⟨by omega, by omega⟩

/-- Two lists that are equal. -/
theorem eq_true_I (v1 v2 : Value) (xs : List Int) (w : World) (h1 : Rd (RS RI) w [v1] xs) (h2 : Rd (RS RI) w [v2] xs) :
    Calls Try.prog 11 #[v1, v2] w (RetV w (.bool true)) :=
  (c_laws_eqInt64S v1 v2 xs xs w h1 h2).mono fun e w' h => by simpa using h.toV

/-- A mark on an owned list. -/
theorem mark_own_I (v : Value) (xs : List Int) (lo hi : Nat) (k : Int) (w : World) (h : Own (RS RI) lo hi w [v] xs) (hlo : lo ≤ w.heap.size) (hk0 : 0 ≤ k) (hk : k + xs.length ≤ 4611686018427387904) :
    Calls Try.prog 12 #[v, .int .i64 k] w fun e w' => e = .returned (.int .i64 (k + xs.length)) ∧ Own (RS RI) lo w'.heap.size w' [v] (marks xs.length k) ∧ Below lo w w' := by
  obtain ⟨og, hrow, hb, hg⟩ := h.rowI
  refine (c_laws_markInt64S v xs.length xs og k w hrow hk0 hk).mono ?_
  rintro e w' ⟨h1, h2, h3⟩
  have hlo' : ∀ g, og = some g → lo ≤ g := fun g hgg => (hg g hgg).1
  refine ⟨h1, ?_, Below.of_grown h3 hlo hlo'⟩
  have h2' : Row w' v 1 (marks xs.length k).length ((marks xs.length k).map (Value.int .i64)) og := by rw [marks_length]; exact h2
  exact h2'.OwnI (marks_in64 _ _ hk0 hk) hlo'

set_option maxHeartbeats 400000 in
theorem c_spec_UnitMap (w : World) : Calls Try.prog 9 #[] w (RetO (RS RI) w unitMap) := by
  go_enter Try.func9, Try.ntmps9
  go_wp2_with fail
  refine (c_spec_l07Unit w).mono ?_
  rintro e w1 ⟨v, rfl, h1, h2⟩
  go_wp2_with fail
  go_ret
  exact ⟨v, rfl, h1, h2⟩

set_option maxHeartbeats 400000 in
theorem walk_FnExactUnitMap (w : World) : Calls Try.prog 3 #[] w (RetV w (.bool true)) := by
  go_enter Try.func3, Try.ntmps3
  go_wp2_with fail
  refine (c_spec_UnitMap w).mono ?_
  rintro e w1 ⟨v1, rfl, o1, B1⟩
  have s1 := B1.size
  go_wp2_with fail
  refine (c_impl_UnitMap w1).mono ?_
  rintro e w2 ⟨v2, rfl, o2, B2⟩
  have s2 := B2.size
  replace o1 := o1.below B2 (by omega)
  go_wp2_with fail
  refine (eq_true_I v2 v1 unitMap w2 o2.rd o1.rd).mono ?_
  rintro e w3 ⟨rfl, B3⟩
  have s3 := B3.size
  replace o1 := o1.below B3 (by omega)
  replace o2 := o2.below B3 (by omega)
  go_wp2_with fail
  refine (mark_own_I v2 unitMap w1.heap.size w2.heap.size 1 w3 o2 (by omega) (by decide) (by decide)).mono ?_
  rintro e w4 ⟨rfl, o2, B4⟩
  have s4 := B4.size
  replace o1 := o1.below B4 (by omega)
  go_wp2_with fail
  refine (c_laws_heldInt64S v2 unitMap.length 1 w4 o2.rd (by decide) (by decide)).mono ?_
  rintro e w5 ⟨rfl, rfl⟩
  go_wp2_with fail
  refine (c_impl_UnitMap w4).mono ?_
  rintro e w6 ⟨v6, rfl, o6, B6⟩
  have s6 := B6.size
  replace o1 := o1.below B6 (by omega)
  replace o2 := o2.below B6 (by omega)
  go_wp2_with fail
  refine (eq_true_I v6 v1 unitMap w6 o6.rd o1.rd).mono ?_
  rintro e w7 ⟨rfl, B7⟩
  replace o2 := o2.below B7 (by omega)
  go_wp2_with fail
  refine (c_laws_heldInt64S v2 unitMap.length 1 w7 o2.rd (by decide) (by decide)).mono ?_
  rintro e w8 ⟨rfl, rfl⟩
  go_wp2_with fail
  go_ret
  exact ⟨rfl, B1.trans ((B2.mono s1).trans ((B3.mono (by omega)).trans ((B4.mono s1).trans ((B6.mono (by omega)).trans (B7.mono (by omega))))))⟩
end Go.Proofs.Ytbpicjmfbaaabaa
