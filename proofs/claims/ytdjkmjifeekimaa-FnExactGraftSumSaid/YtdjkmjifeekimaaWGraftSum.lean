/- The walk of the law FnExactGraftSum. -/
import Derived.Test.YtdjkmjifeekimaaGsW
set_option linter.unusedSimpArgs false
set_option linter.unusedVariables false
namespace Go.Proofs.Ytdjkmjifeekimaa
open Go.RowKit

set_option maxHeartbeats 1000000 in
theorem walk_FnExactGraftSum (v0 : Value) (v1 : Value) (x0 : List Int) (x1 : List Int) (w : World) (h0 : Rd (RS RI) w [v0] x0) (h1 : Rd (RS RI) w [v1] x1) : Calls Try.prog 5 #[v0, v1] w (RetV w (.bool true)) := by
  obtain ⟨a0, c0, hv0, hl0, hm0⟩ := h0.val
  unfold maxLen at hm0
  obtain ⟨a1, c1, hv1, hl1, hm1⟩ := h1.val
  unfold maxLen at hm1
  by_cases z0 : x0.length ≤ 1048576
  rotate_left
  · subst hv0
    go_enter Try.func5, Try.ntmps5
    go_wp2_with fail
    go_ret
    exact ⟨rfl, Below.refl _ _⟩
  by_cases z1 : x1.length ≤ 1048576
  rotate_left
  · subst hv0 hv1
    go_enter Try.func5, Try.ntmps5
    go_wp2_with fail
    go_ret
    exact ⟨rfl, Below.refl _ _⟩
  subst hv0
  subst hv1
  go_enter Try.func5, Try.ntmps5
  go_wp2_with fail
  refine (to_I _ x0 _ h0 z0).mono ?_
  rintro e w1 ⟨u1, rfl, o1, B1⟩
  have s1 := B1.size
  have BB := B1.mono (B' := w.heap.size) (by omega)
  go_wp2_with fail
  refine (to_I _ x1 _ (h1.below BB (Nat.le_refl _)) z1).mono ?_
  rintro e w2 ⟨u2, rfl, o2, B2⟩
  have s2 := B2.size
  replace o1 := o1.below B2 (by omega)
  replace BB := BB.trans (B2.mono (B' := w.heap.size) (by omega))
  go_wp2_with fail
  refine (k_spec_GraftSum _ _ x0 x1 _ o1.rd o2.rd z0 z1).mono ?_
  rintro e w3 ⟨u3, rfl, o3, B3⟩
  have s3 := B3.size
  replace o1 := o1.below B3 (by omega)
  replace o2 := o2.below B3 (by omega)
  replace BB := BB.trans (B3.mono (B' := w.heap.size) (by omega))
  go_wp2_with fail
  refine (to_I _ x0 _ (h0.below BB (Nat.le_refl _)) z0).mono ?_
  rintro e w4 ⟨u4, rfl, o4, B4⟩
  have s4 := B4.size
  replace o1 := o1.below B4 (by omega)
  replace o2 := o2.below B4 (by omega)
  replace o3 := o3.below B4 (by omega)
  replace BB := BB.trans (B4.mono (B' := w.heap.size) (by omega))
  go_wp2_with fail
  refine (to_I _ x1 _ (h1.below BB (Nat.le_refl _)) z1).mono ?_
  rintro e w5 ⟨u5, rfl, o5, B5⟩
  have s5 := B5.size
  replace o1 := o1.below B5 (by omega)
  replace o2 := o2.below B5 (by omega)
  replace o3 := o3.below B5 (by omega)
  replace o4 := o4.below B5 (by omega)
  replace BB := BB.trans (B5.mono (B' := w.heap.size) (by omega))
  go_wp2_with fail
  refine (k_impl_GraftSum _ _ x0 x1 _ o4.rd o5.rd z0 z1).mono ?_
  rintro e w6 ⟨u6, rfl, o6, B6⟩
  have s6 := B6.size
  replace o1 := o1.below B6 (by omega)
  replace o2 := o2.below B6 (by omega)
  replace o3 := o3.below B6 (by omega)
  replace o4 := o4.below B6 (by omega)
  replace o5 := o5.below B6 (by omega)
  replace BB := BB.trans (B6.mono (B' := w.heap.size) (by omega))
  go_wp2_with fail
  refine (eqv_C _ _ (gsOf x0 x1).1 _ o6.rd o3.rd).mono ?_
  rintro e w7 ⟨rfl, B7⟩
  have s7 := B7.size
  replace o1 := o1.below B7 (by omega)
  replace o2 := o2.below B7 (by omega)
  replace o3 := o3.below B7 (by omega)
  replace o4 := o4.below B7 (by omega)
  replace o5 := o5.below B7 (by omega)
  replace o6 := o6.below B7 (by omega)
  replace BB := BB.trans (B7.mono (B' := w.heap.size) (by omega))
  go_wp2_with fail
  refine (to_I _ x0 _ (h0.below BB (Nat.le_refl _)) z0).mono ?_
  rintro e w8 ⟨u8, rfl, o8, B8⟩
  have s8 := B8.size
  replace o1 := o1.below B8 (by omega)
  replace o2 := o2.below B8 (by omega)
  replace o3 := o3.below B8 (by omega)
  replace o4 := o4.below B8 (by omega)
  replace o5 := o5.below B8 (by omega)
  replace o6 := o6.below B8 (by omega)
  replace BB := BB.trans (B8.mono (B' := w.heap.size) (by omega))
  go_wp2_with fail
  refine (eqv_I _ _ x0 _ o4.rd o8.rd).mono ?_
  rintro e w9 ⟨rfl, B9⟩
  have s9 := B9.size
  replace o1 := o1.below B9 (by omega)
  replace o2 := o2.below B9 (by omega)
  replace o3 := o3.below B9 (by omega)
  replace o4 := o4.below B9 (by omega)
  replace o5 := o5.below B9 (by omega)
  replace o6 := o6.below B9 (by omega)
  replace o8 := o8.below B9 (by omega)
  replace BB := BB.trans (B9.mono (B' := w.heap.size) (by omega))
  go_wp2_with fail
  refine (to_I _ x1 _ (h1.below BB (Nat.le_refl _)) z1).mono ?_
  rintro e w10 ⟨u10, rfl, o10, B10⟩
  have s10 := B10.size
  replace o1 := o1.below B10 (by omega)
  replace o2 := o2.below B10 (by omega)
  replace o3 := o3.below B10 (by omega)
  replace o4 := o4.below B10 (by omega)
  replace o5 := o5.below B10 (by omega)
  replace o6 := o6.below B10 (by omega)
  replace o8 := o8.below B10 (by omega)
  replace BB := BB.trans (B10.mono (B' := w.heap.size) (by omega))
  go_wp2_with fail
  refine (eqv_I _ _ x1 _ o5.rd o10.rd).mono ?_
  rintro e w11 ⟨rfl, B11⟩
  have s11 := B11.size
  replace o1 := o1.below B11 (by omega)
  replace o2 := o2.below B11 (by omega)
  replace o3 := o3.below B11 (by omega)
  replace o4 := o4.below B11 (by omega)
  replace o5 := o5.below B11 (by omega)
  replace o6 := o6.below B11 (by omega)
  replace o8 := o8.below B11 (by omega)
  replace o10 := o10.below B11 (by omega)
  replace BB := BB.trans (B11.mono (B' := w.heap.size) (by omega))
  go_wp2_with fail
  have p12 := cntb_I x0 z0
  refine (mark_I _ x0 _ _ 1 _ o4 (by omega) (by omega)).mono ?_
  rintro e w12 ⟨rfl, o4n, B12⟩
  have s12 := B12.size
  replace o1 := o1.apart B12 (by omega)
  replace o2 := o2.apart B12 (by omega)
  replace o3 := o3.apart B12 (by omega)
  replace o5 := o5.apart B12 (by omega)
  replace o6 := o6.apart B12 (by omega)
  replace o8 := o8.apart B12 (by omega)
  replace o10 := o10.apart B12 (by omega)
  replace o4 := o4n
  clear o4n
  replace BB := BB.trans (B12.below (B := w.heap.size) (by omega) (by omega))
  go_wp2_with fail
  have p13 := cntb_I x1 z1
  refine (mark_I _ x1 _ _ (1 + (cnt_I x0 : Nat)) _ o5 (by omega) (by omega)).mono ?_
  rintro e w13 ⟨rfl, o5n, B13⟩
  have s13 := B13.size
  replace o1 := o1.apart B13 (by omega)
  replace o2 := o2.apart B13 (by omega)
  replace o3 := o3.apart B13 (by omega)
  replace o4 := o4.apart B13 (by omega)
  replace o6 := o6.apart B13 (by omega)
  replace o8 := o8.apart B13 (by omega)
  replace o10 := o10.apart B13 (by omega)
  replace o5 := o5n
  clear o5n
  replace BB := BB.trans (B13.below (B := w.heap.size) (by omega) (by omega))
  go_wp2_with fail
  refine (eqv_C _ _ (gsOf x0 x1).1 _ o6.rd o3.rd).mono ?_
  rintro e w14 ⟨rfl, B14⟩
  have s14 := B14.size
  replace o1 := o1.below B14 (by omega)
  replace o2 := o2.below B14 (by omega)
  replace o3 := o3.below B14 (by omega)
  replace o4 := o4.below B14 (by omega)
  replace o5 := o5.below B14 (by omega)
  replace o6 := o6.below B14 (by omega)
  replace o8 := o8.below B14 (by omega)
  replace o10 := o10.below B14 (by omega)
  replace BB := BB.trans (B14.mono (B' := w.heap.size) (by omega))
  go_wp2_with fail
  have p15 := gsOf_cnt x0 x1
  refine (mark_C _ (gsOf x0 x1).1 _ _ 1 _ o6 (by omega) (by omega)).mono ?_
  rintro e w15 ⟨rfl, o6n, B15⟩
  have s15 := B15.size
  replace o1 := o1.apart B15 (by omega)
  replace o2 := o2.apart B15 (by omega)
  replace o3 := o3.apart B15 (by omega)
  replace o4 := o4.apart B15 (by omega)
  replace o5 := o5.apart B15 (by omega)
  replace o8 := o8.apart B15 (by omega)
  replace o10 := o10.apart B15 (by omega)
  replace o6 := o6n
  clear o6n
  replace BB := BB.trans (B15.below (B := w.heap.size) (by omega) (by omega))
  go_wp2_with fail
  refine (held_C _ (gsOf x0 x1).1 1 _ o6.rd (by omega) (by omega)).mono ?_
  rintro e w16 ⟨rfl, rfl⟩
  go_wp2_with fail
  refine (to_I _ x0 _ (h0.below BB (Nat.le_refl _)) z0).mono ?_
  rintro e w17 ⟨u17, rfl, o17, B17⟩
  have s17 := B17.size
  replace o1 := o1.below B17 (by omega)
  replace o2 := o2.below B17 (by omega)
  replace o3 := o3.below B17 (by omega)
  replace o4 := o4.below B17 (by omega)
  replace o5 := o5.below B17 (by omega)
  replace o6 := o6.below B17 (by omega)
  replace o8 := o8.below B17 (by omega)
  replace o10 := o10.below B17 (by omega)
  replace BB := BB.trans (B17.mono (B' := w.heap.size) (by omega))
  go_wp2_with fail
  refine (to_I _ x1 _ (h1.below BB (Nat.le_refl _)) z1).mono ?_
  rintro e w18 ⟨u18, rfl, o18, B18⟩
  have s18 := B18.size
  replace o1 := o1.below B18 (by omega)
  replace o2 := o2.below B18 (by omega)
  replace o3 := o3.below B18 (by omega)
  replace o4 := o4.below B18 (by omega)
  replace o5 := o5.below B18 (by omega)
  replace o6 := o6.below B18 (by omega)
  replace o8 := o8.below B18 (by omega)
  replace o10 := o10.below B18 (by omega)
  replace o17 := o17.below B18 (by omega)
  replace BB := BB.trans (B18.mono (B' := w.heap.size) (by omega))
  go_wp2_with fail
  refine (k_impl_GraftSum _ _ x0 x1 _ o17.rd o18.rd z0 z1).mono ?_
  rintro e w19 ⟨u19, rfl, o19, B19⟩
  have s19 := B19.size
  replace o1 := o1.below B19 (by omega)
  replace o2 := o2.below B19 (by omega)
  replace o3 := o3.below B19 (by omega)
  replace o4 := o4.below B19 (by omega)
  replace o5 := o5.below B19 (by omega)
  replace o6 := o6.below B19 (by omega)
  replace o8 := o8.below B19 (by omega)
  replace o10 := o10.below B19 (by omega)
  replace o17 := o17.below B19 (by omega)
  replace o18 := o18.below B19 (by omega)
  replace BB := BB.trans (B19.mono (B' := w.heap.size) (by omega))
  go_wp2_with fail
  refine (eqv_C _ _ (gsOf x0 x1).1 _ o19.rd o3.rd).mono ?_
  rintro e w20 ⟨rfl, B20⟩
  have s20 := B20.size
  replace o1 := o1.below B20 (by omega)
  replace o2 := o2.below B20 (by omega)
  replace o3 := o3.below B20 (by omega)
  replace o4 := o4.below B20 (by omega)
  replace o5 := o5.below B20 (by omega)
  replace o6 := o6.below B20 (by omega)
  replace o8 := o8.below B20 (by omega)
  replace o10 := o10.below B20 (by omega)
  replace o17 := o17.below B20 (by omega)
  replace o18 := o18.below B20 (by omega)
  replace o19 := o19.below B20 (by omega)
  replace BB := BB.trans (B20.mono (B' := w.heap.size) (by omega))
  go_wp2_with fail
  refine (held_C _ (gsOf x0 x1).1 1 _ o6.rd (by omega) (by omega)).mono ?_
  rintro e w21 ⟨rfl, rfl⟩
  go_wp2_with fail
  go_ret
  exact ⟨rfl, BB⟩

end Go.Proofs.Ytdjkmjifeekimaa
