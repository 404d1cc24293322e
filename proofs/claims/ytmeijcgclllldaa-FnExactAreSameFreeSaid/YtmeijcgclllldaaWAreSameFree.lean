/- The walk of the law FnExactAreSameFree. -/
import Derived.Test.YtmeijcgclllldaaFreeSame
namespace Go.Proofs.Ytmeijcgclllldaa
open Go.RowKit

set_option maxHeartbeats 1000000 in
theorem walk_FnExactAreSameFree (v0 : Value) (v1 : Value) (x0 : List Int) (x1 : List Int) (w : World) (h0 : Rd (RS RI) w [v0] x0) (h1 : Rd (RS RI) w [v1] x1) : Calls Try.prog 11 #[v0, v1] w (RetV w (.bool true)) := by
  obtain ⟨a0, c0, hv0, hl0, hm0⟩ := h0.val
  unfold maxLen at hm0
  obtain ⟨a1, c1, hv1, hl1, hm1⟩ := h1.val
  unfold maxLen at hm1
  by_cases z0 : x0.length ≤ 1048576
  rotate_left
  · subst hv0
    go_enter Try.func11, Try.ntmps11
    go_wp2_with fail
    go_ret
    exact ⟨rfl, Below.refl _ _⟩
  by_cases z1 : x1.length ≤ 1048576
  rotate_left
  · subst hv0 hv1
    go_enter Try.func11, Try.ntmps11
    go_wp2_with fail
    go_ret
    exact ⟨rfl, Below.refl _ _⟩
  subst hv0
  subst hv1
  go_enter Try.func11, Try.ntmps11
  go_wp2_with fail
  refine (to_I _ x0 _ h0 z0).mono ?_
  rintro e w1 ⟨u1, rfl, o1, B1⟩
  have s1 := B1.size
  have BB := B1.mono (B' := w.heap.size) (by omega)
  go_wp2_with fail
  refine (to_I _ x1 _ (h1.below BB (Nat.le_refl _)) z1).mono ?_
  rintro e w2 ⟨u2, rfl, o2, B2⟩
  have s2 := B2.size
  replace o1 := o1.below B2 (by omega)
  replace BB := BB.trans (B2.mono (B' := w.heap.size) (by omega))
  go_wp2_with fail
  refine (k_spec_AreSameFree _ _ x0 x1 _ o1.rd o2.rd z0 z1).mono ?_
  rintro e w3 ⟨rfl, B3⟩
  have s3 := B3.size
  replace o1 := o1.below B3 (by omega)
  replace o2 := o2.below B3 (by omega)
  replace BB := BB.trans (B3.mono (B' := w.heap.size) (by omega))
  go_wp2_with fail
  refine (to_I _ x0 _ (h0.below BB (Nat.le_refl _)) z0).mono ?_
  rintro e w4 ⟨u4, rfl, o4, B4⟩
  have s4 := B4.size
  replace o1 := o1.below B4 (by omega)
  replace o2 := o2.below B4 (by omega)
  replace BB := BB.trans (B4.mono (B' := w.heap.size) (by omega))
  go_wp2_with fail
  refine (to_I _ x1 _ (h1.below BB (Nat.le_refl _)) z1).mono ?_
  rintro e w5 ⟨u5, rfl, o5, B5⟩
  have s5 := B5.size
  replace o1 := o1.below B5 (by omega)
  replace o2 := o2.below B5 (by omega)
  replace o4 := o4.below B5 (by omega)
  replace BB := BB.trans (B5.mono (B' := w.heap.size) (by omega))
  go_wp2_with fail
  refine (k_impl_AreSameFree _ _ x0 x1 _ o4.rd o5.rd).mono ?_
  rintro e w6 ⟨rfl, B6⟩
  have s6 := B6.size
  replace o1 := o1.below B6 (by omega)
  replace o2 := o2.below B6 (by omega)
  replace o4 := o4.below B6 (by omega)
  replace o5 := o5.below B6 (by omega)
  replace BB := BB.trans (B6.mono (B' := w.heap.size) (by omega))
  go_wp2_with fail
  refine (to_I _ x0 _ (h0.below BB (Nat.le_refl _)) z0).mono ?_
  rintro e w7 ⟨u7, rfl, o7, B7⟩
  have s7 := B7.size
  replace o1 := o1.below B7 (by omega)
  replace o2 := o2.below B7 (by omega)
  replace o4 := o4.below B7 (by omega)
  replace o5 := o5.below B7 (by omega)
  replace BB := BB.trans (B7.mono (B' := w.heap.size) (by omega))
  go_wp2_with fail
  refine (eqv_I _ _ x0 _ o4.rd o7.rd).mono ?_
  rintro e w8 ⟨rfl, B8⟩
  have s8 := B8.size
  replace o1 := o1.below B8 (by omega)
  replace o2 := o2.below B8 (by omega)
  replace o4 := o4.below B8 (by omega)
  replace o5 := o5.below B8 (by omega)
  replace o7 := o7.below B8 (by omega)
  replace BB := BB.trans (B8.mono (B' := w.heap.size) (by omega))
  go_wp2_with fail
  refine (to_I _ x1 _ (h1.below BB (Nat.le_refl _)) z1).mono ?_
  rintro e w9 ⟨u9, rfl, o9, B9⟩
  have s9 := B9.size
  replace o1 := o1.below B9 (by omega)
  replace o2 := o2.below B9 (by omega)
  replace o4 := o4.below B9 (by omega)
  replace o5 := o5.below B9 (by omega)
  replace o7 := o7.below B9 (by omega)
  replace BB := BB.trans (B9.mono (B' := w.heap.size) (by omega))
  go_wp2_with fail
  refine (eqv_I _ _ x1 _ o5.rd o9.rd).mono ?_
  rintro e w10 ⟨rfl, B10⟩
  have s10 := B10.size
  replace o1 := o1.below B10 (by omega)
  replace o2 := o2.below B10 (by omega)
  replace o4 := o4.below B10 (by omega)
  replace o5 := o5.below B10 (by omega)
  replace o7 := o7.below B10 (by omega)
  replace o9 := o9.below B10 (by omega)
  replace BB := BB.trans (B10.mono (B' := w.heap.size) (by omega))
  go_wp2_with fail
  go_ret
  exact ⟨rfl, BB⟩

end Go.Proofs.Ytmeijcgclllldaa
