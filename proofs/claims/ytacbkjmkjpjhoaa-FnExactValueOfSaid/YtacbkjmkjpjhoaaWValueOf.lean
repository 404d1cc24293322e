/- The walk of the law FnExactValueOf. -/
import Derived.Test.YtacbkjmkjpjhoaaValS
set_option linter.unusedSimpArgs false
set_option linter.unusedVariables false
namespace Go.Proofs.Ytacbkjmkjpjhoaa
open Go.RowKit

set_option maxHeartbeats 1000000 in
theorem walk_FnExactValueOf (v0 : Value) (v1 : Value) (x0 : List (Int × List (List Int))) (x1 : List Int) (w : World) (h0 : Rd (RS RPart) w [v0] x0) (h1 : Rd (RS RI) w [v1] x1) : Calls Try.prog 5 #[v0, v1] w (RetV w (.bool true)) := by
  obtain ⟨a1, c1, hv1, hl1, hm1⟩ := h1.val
  unfold maxLen at hm1
  by_cases z1 : x1.length ≤ 1048576
  rotate_left
  · subst hv1
    go_enter Try.func5, Try.ntmps5
    go_wp2_with fail
    go_ret
    exact ⟨rfl, Below.refl _ _⟩
  subst hv1
  go_enter Try.func5, Try.ntmps5
  go_wp2_with fail
  refine (sz_P _ x0 1048576 _ h0 (by omega) (by omega)).mono ?_
  rintro e w1 ⟨r1, rfl, hr1, B1⟩
  have s1 := B1.size
  have BB := B1.mono (B' := w.heap.size) (by omega)
  rcases hr1 with ⟨n1, z0⟩ | ⟨n1, n1b, z0⟩
  · go_wp2_with fail
    go_ret
    exact ⟨rfl, BB⟩
  go_wp2_with fail
  refine (to_P _ x0 _ (h0.below BB (Nat.le_refl _)) z0).mono ?_
  rintro e w2 ⟨u2, rfl, o2, B2⟩
  have s2 := B2.size
  replace BB := BB.trans (B2.mono (B' := w.heap.size) (by omega))
  go_wp2_with fail
  refine (to_I _ x1 _ (h1.below BB (Nat.le_refl _)) z1).mono ?_
  rintro e w3 ⟨u3, rfl, o3, B3⟩
  have s3 := B3.size
  replace o2 := o2.below B3 (by omega)
  replace BB := BB.trans (B3.mono (B' := w.heap.size) (by omega))
  go_wp2_with fail
  refine (k_spec_ValueOf _ _ x0 x1 _ o2.rd o3.rd z0 z1).mono ?_
  rintro e w4 ⟨rfl, B4⟩
  have s4 := B4.size
  replace o2 := o2.below B4 (by omega)
  replace o3 := o3.below B4 (by omega)
  replace BB := BB.trans (B4.mono (B' := w.heap.size) (by omega))
  go_wp2_with fail
  refine (to_P _ x0 _ (h0.below BB (Nat.le_refl _)) z0).mono ?_
  rintro e w5 ⟨u5, rfl, o5, B5⟩
  have s5 := B5.size
  replace o2 := o2.below B5 (by omega)
  replace o3 := o3.below B5 (by omega)
  replace BB := BB.trans (B5.mono (B' := w.heap.size) (by omega))
  go_wp2_with fail
  refine (to_I _ x1 _ (h1.below BB (Nat.le_refl _)) z1).mono ?_
  rintro e w6 ⟨u6, rfl, o6, B6⟩
  have s6 := B6.size
  replace o2 := o2.below B6 (by omega)
  replace o3 := o3.below B6 (by omega)
  replace o5 := o5.below B6 (by omega)
  replace BB := BB.trans (B6.mono (B' := w.heap.size) (by omega))
  go_wp2_with fail
  refine (k_impl_ValueOf _ _ x0 x1 _ o5.rd o6.rd z0 z1).mono ?_
  rintro e w7 ⟨rfl, B7⟩
  have s7 := B7.size
  replace o2 := o2.below B7 (by omega)
  replace o3 := o3.below B7 (by omega)
  replace o5 := o5.below B7 (by omega)
  replace o6 := o6.below B7 (by omega)
  replace BB := BB.trans (B7.mono (B' := w.heap.size) (by omega))
  go_wp2_with fail
  refine (to_P _ x0 _ (h0.below BB (Nat.le_refl _)) z0).mono ?_
  rintro e w8 ⟨u8, rfl, o8, B8⟩
  have s8 := B8.size
  replace o2 := o2.below B8 (by omega)
  replace o3 := o3.below B8 (by omega)
  replace o5 := o5.below B8 (by omega)
  replace o6 := o6.below B8 (by omega)
  replace BB := BB.trans (B8.mono (B' := w.heap.size) (by omega))
  go_wp2_with fail
  refine (eqv_P _ _ x0 _ o5.rd o8.rd).mono ?_
  rintro e w9 ⟨rfl, B9⟩
  have s9 := B9.size
  replace o2 := o2.below B9 (by omega)
  replace o3 := o3.below B9 (by omega)
  replace o5 := o5.below B9 (by omega)
  replace o6 := o6.below B9 (by omega)
  replace o8 := o8.below B9 (by omega)
  replace BB := BB.trans (B9.mono (B' := w.heap.size) (by omega))
  go_wp2_with fail
  refine (to_I _ x1 _ (h1.below BB (Nat.le_refl _)) z1).mono ?_
  rintro e w10 ⟨u10, rfl, o10, B10⟩
  have s10 := B10.size
  replace o2 := o2.below B10 (by omega)
  replace o3 := o3.below B10 (by omega)
  replace o5 := o5.below B10 (by omega)
  replace o6 := o6.below B10 (by omega)
  replace o8 := o8.below B10 (by omega)
  replace BB := BB.trans (B10.mono (B' := w.heap.size) (by omega))
  go_wp2_with fail
  refine (eqv_I _ _ x1 _ o6.rd o10.rd).mono ?_
  rintro e w11 ⟨rfl, B11⟩
  have s11 := B11.size
  replace o2 := o2.below B11 (by omega)
  replace o3 := o3.below B11 (by omega)
  replace o5 := o5.below B11 (by omega)
  replace o6 := o6.below B11 (by omega)
  replace o8 := o8.below B11 (by omega)
  replace o10 := o10.below B11 (by omega)
  replace BB := BB.trans (B11.mono (B' := w.heap.size) (by omega))
  go_wp2_with fail
  go_ret
  exact ⟨rfl, BB⟩

end Go.Proofs.Ytacbkjmkjpjhoaa
