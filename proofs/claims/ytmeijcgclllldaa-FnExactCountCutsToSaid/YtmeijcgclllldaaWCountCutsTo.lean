/- The walk of the law FnExactCountCutsTo. -/
import Derived.Test.YtmeijcgclllldaaCountCuts
namespace Go.Proofs.Ytmeijcgclllldaa
open Go.RowKit

set_option maxHeartbeats 1000000 in
theorem walk_FnExactCountCutsTo (v0 : Value) (v1 : Value) (v2 : Value) (x0 : List Int) (x1 : List Int) (x2 : List Int) (w : World) (h0 : Rd (RS RI) w [v0] x0) (h1 : Rd (RS RI) w [v1] x1) (h2 : Rd (RS RI) w [v2] x2) : Calls Try.prog 6 #[v0, v1, v2] w (RetV w (.bool true)) := by
  obtain ⟨a0, c0, hv0, hl0, hm0⟩ := h0.val
  unfold maxLen at hm0
  obtain ⟨a1, c1, hv1, hl1, hm1⟩ := h1.val
  unfold maxLen at hm1
  obtain ⟨a2, c2, hv2, hl2, hm2⟩ := h2.val
  unfold maxLen at hm2
  by_cases z0 : x0.length ≤ 1048576
  rotate_left
  · subst hv0
    go_enter Try.func6, Try.ntmps6
    go_wp2_with fail
    go_ret
    exact ⟨rfl, Below.refl _ _⟩
  by_cases z1 : x1.length ≤ 1048576
  rotate_left
  · subst hv0 hv1
    go_enter Try.func6, Try.ntmps6
    go_wp2_with fail
    go_ret
    exact ⟨rfl, Below.refl _ _⟩
  by_cases z2 : x2.length ≤ 1048576
  rotate_left
  · subst hv0 hv1 hv2
    go_enter Try.func6, Try.ntmps6
    go_wp2_with fail
    go_ret
    exact ⟨rfl, Below.refl _ _⟩
  subst hv0
  subst hv1
  subst hv2
  go_enter Try.func6, Try.ntmps6
  go_wp2_with fail
  refine (to_I _ x0 _ h0 z0).mono ?_
  rintro e w1 ⟨u1, rfl, o1, B1⟩
  have s1 := B1.size
  have BB := B1.mono (B' := w.heap.size) (by omega)
  go_wp2_with fail
  refine (to_I _ x1 _ (h1.below BB (Nat.le_refl _)) z1).mono ?_
  rintro e w2 ⟨u2, rfl, o2, B2⟩
  have s2 := B2.size
  replace o1 := o1.below B2 (by omega)
  replace BB := BB.trans (B2.mono (B' := w.heap.size) (by omega))
  go_wp2_with fail
  refine (to_I _ x2 _ (h2.below BB (Nat.le_refl _)) z2).mono ?_
  rintro e w3 ⟨u3, rfl, o3, B3⟩
  have s3 := B3.size
  replace o1 := o1.below B3 (by omega)
  replace o2 := o2.below B3 (by omega)
  replace BB := BB.trans (B3.mono (B' := w.heap.size) (by omega))
  go_wp2_with fail
  refine (k_spec_CountCutsTo _ _ _ x0 x1 x2 _ o1.rd o2.rd o3.rd z0 z1 z2).mono ?_
  rintro e w4 ⟨rfl, B4⟩
  have s4 := B4.size
  replace o1 := o1.below B4 (by omega)
  replace o2 := o2.below B4 (by omega)
  replace o3 := o3.below B4 (by omega)
  replace BB := BB.trans (B4.mono (B' := w.heap.size) (by omega))
  go_wp2_with fail
  refine (to_I _ x0 _ (h0.below BB (Nat.le_refl _)) z0).mono ?_
  rintro e w5 ⟨u5, rfl, o5, B5⟩
  have s5 := B5.size
  replace o1 := o1.below B5 (by omega)
  replace o2 := o2.below B5 (by omega)
  replace o3 := o3.below B5 (by omega)
  replace BB := BB.trans (B5.mono (B' := w.heap.size) (by omega))
  go_wp2_with fail
  refine (to_I _ x1 _ (h1.below BB (Nat.le_refl _)) z1).mono ?_
  rintro e w6 ⟨u6, rfl, o6, B6⟩
  have s6 := B6.size
  replace o1 := o1.below B6 (by omega)
  replace o2 := o2.below B6 (by omega)
  replace o3 := o3.below B6 (by omega)
  replace o5 := o5.below B6 (by omega)
  replace BB := BB.trans (B6.mono (B' := w.heap.size) (by omega))
  go_wp2_with fail
  refine (to_I _ x2 _ (h2.below BB (Nat.le_refl _)) z2).mono ?_
  rintro e w7 ⟨u7, rfl, o7, B7⟩
  have s7 := B7.size
  replace o1 := o1.below B7 (by omega)
  replace o2 := o2.below B7 (by omega)
  replace o3 := o3.below B7 (by omega)
  replace o5 := o5.below B7 (by omega)
  replace o6 := o6.below B7 (by omega)
  replace BB := BB.trans (B7.mono (B' := w.heap.size) (by omega))
  go_wp2_with fail
  refine (k_impl_CountCutsTo _ _ _ x0 x1 x2 _ o5.rd o6.rd o7.rd).mono ?_
  rintro e w8 ⟨rfl, B8⟩
  have s8 := B8.size
  replace o1 := o1.below B8 (by omega)
  replace o2 := o2.below B8 (by omega)
  replace o3 := o3.below B8 (by omega)
  replace o5 := o5.below B8 (by omega)
  replace o6 := o6.below B8 (by omega)
  replace o7 := o7.below B8 (by omega)
  replace BB := BB.trans (B8.mono (B' := w.heap.size) (by omega))
  go_wp2_with fail
  refine (to_I _ x0 _ (h0.below BB (Nat.le_refl _)) z0).mono ?_
  rintro e w9 ⟨u9, rfl, o9, B9⟩
  have s9 := B9.size
  replace o1 := o1.below B9 (by omega)
  replace o2 := o2.below B9 (by omega)
  replace o3 := o3.below B9 (by omega)
  replace o5 := o5.below B9 (by omega)
  replace o6 := o6.below B9 (by omega)
  replace o7 := o7.below B9 (by omega)
  replace BB := BB.trans (B9.mono (B' := w.heap.size) (by omega))
  go_wp2_with fail
  refine (eqv_I _ _ x0 _ o5.rd o9.rd).mono ?_
  rintro e w10 ⟨rfl, B10⟩
  have s10 := B10.size
  replace o1 := o1.below B10 (by omega)
  replace o2 := o2.below B10 (by omega)
  replace o3 := o3.below B10 (by omega)
  replace o5 := o5.below B10 (by omega)
  replace o6 := o6.below B10 (by omega)
  replace o7 := o7.below B10 (by omega)
  replace o9 := o9.below B10 (by omega)
  replace BB := BB.trans (B10.mono (B' := w.heap.size) (by omega))
  go_wp2_with fail
  refine (to_I _ x1 _ (h1.below BB (Nat.le_refl _)) z1).mono ?_
  rintro e w11 ⟨u11, rfl, o11, B11⟩
  have s11 := B11.size
  replace o1 := o1.below B11 (by omega)
  replace o2 := o2.below B11 (by omega)
  replace o3 := o3.below B11 (by omega)
  replace o5 := o5.below B11 (by omega)
  replace o6 := o6.below B11 (by omega)
  replace o7 := o7.below B11 (by omega)
  replace o9 := o9.below B11 (by omega)
  replace BB := BB.trans (B11.mono (B' := w.heap.size) (by omega))
  go_wp2_with fail
  refine (eqv_I _ _ x1 _ o6.rd o11.rd).mono ?_
  rintro e w12 ⟨rfl, B12⟩
  have s12 := B12.size
  replace o1 := o1.below B12 (by omega)
  replace o2 := o2.below B12 (by omega)
  replace o3 := o3.below B12 (by omega)
  replace o5 := o5.below B12 (by omega)
  replace o6 := o6.below B12 (by omega)
  replace o7 := o7.below B12 (by omega)
  replace o9 := o9.below B12 (by omega)
  replace o11 := o11.below B12 (by omega)
  replace BB := BB.trans (B12.mono (B' := w.heap.size) (by omega))
  go_wp2_with fail
  refine (to_I _ x2 _ (h2.below BB (Nat.le_refl _)) z2).mono ?_
  rintro e w13 ⟨u13, rfl, o13, B13⟩
  have s13 := B13.size
  replace o1 := o1.below B13 (by omega)
  replace o2 := o2.below B13 (by omega)
  replace o3 := o3.below B13 (by omega)
  replace o5 := o5.below B13 (by omega)
  replace o6 := o6.below B13 (by omega)
  replace o7 := o7.below B13 (by omega)
  replace o9 := o9.below B13 (by omega)
  replace o11 := o11.below B13 (by omega)
  replace BB := BB.trans (B13.mono (B' := w.heap.size) (by omega))
  go_wp2_with fail
  refine (eqv_I _ _ x2 _ o7.rd o13.rd).mono ?_
  rintro e w14 ⟨rfl, B14⟩
  have s14 := B14.size
  replace o1 := o1.below B14 (by omega)
  replace o2 := o2.below B14 (by omega)
  replace o3 := o3.below B14 (by omega)
  replace o5 := o5.below B14 (by omega)
  replace o6 := o6.below B14 (by omega)
  replace o7 := o7.below B14 (by omega)
  replace o9 := o9.below B14 (by omega)
  replace o11 := o11.below B14 (by omega)
  replace o13 := o13.below B14 (by omega)
  replace BB := BB.trans (B14.mono (B' := w.heap.size) (by omega))
  go_wp2_with fail
  go_ret
  exact ⟨rfl, BB⟩

end Go.Proofs.Ytmeijcgclllldaa
