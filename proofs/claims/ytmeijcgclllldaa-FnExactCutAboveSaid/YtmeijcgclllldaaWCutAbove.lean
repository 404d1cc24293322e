/- The walk of the law FnExactCutAbove. -/
import Derived.Test.YtmeijcgclllldaaCutAbove
namespace Go.Proofs.Ytmeijcgclllldaa
open Go.RowKit

set_option maxHeartbeats 1000000 in
theorem walk_FnExactCutAbove (v0 : Value) (x1 : Int) (x0 : List Int) (w : World) (h0 : Rd (RS RI) w [v0] x0) (h1 : In64 x1) : Calls Try.prog 3 #[v0, .int .i64 x1] w (RetV w (.bool true)) := by
  obtain ⟨a0, c0, hv0, hl0, hm0⟩ := h0.val
  unfold maxLen at hm0
  by_cases z0 : x0.length ≤ 1048576
  rotate_left
  · subst hv0
    go_enter Try.func3, Try.ntmps3
    go_wp2_with fail
    go_ret
    exact ⟨rfl, Below.refl _ _⟩
  subst hv0
  go_enter Try.func3, Try.ntmps3
  go_wp2_with fail
  refine (to_I _ x0 _ h0 z0).mono ?_
  rintro e w1 ⟨u1, rfl, o1, B1⟩
  have s1 := B1.size
  have BB := B1.mono (B' := w.heap.size) (by omega)
  go_wp2_with fail
  refine (k_spec_CutAbove _ x1 x0 _ o1.rd h1 z0).mono ?_
  rintro e w2 ⟨u2a, u2b, m2, rfl, q2, o2a, o2b, B2⟩
  have s2 := B2.size
  replace o1 := o1.below B2 (by omega)
  replace BB := BB.trans (B2.mono (B' := w.heap.size) (by omega))
  go_wp2_with fail
  refine (to_I _ x0 _ (h0.below BB (Nat.le_refl _)) z0).mono ?_
  rintro e w3 ⟨u3, rfl, o3, B3⟩
  have s3 := B3.size
  replace o1 := o1.below B3 (by omega)
  replace o2a := o2a.below B3 (by omega)
  replace o2b := o2b.below B3 (by omega)
  replace BB := BB.trans (B3.mono (B' := w.heap.size) (by omega))
  go_wp2_with fail
  refine (k_impl_CutAbove _ x1 x0 _ o3.rd h1).mono ?_
  rintro e w4 ⟨u4a, u4b, m4, rfl, q4, o4a, o4b, B4⟩
  have s4 := B4.size
  replace o1 := o1.below B4 (by omega)
  replace o2a := o2a.below B4 (by omega)
  replace o2b := o2b.below B4 (by omega)
  replace o3 := o3.below B4 (by omega)
  replace BB := BB.trans (B4.mono (B' := w.heap.size) (by omega))
  go_wp2_with fail
  refine (eqv_I _ _ (cutOf x0 x1).1.1 _ o4a.rd o2a.rd).mono ?_
  rintro e w5 ⟨rfl, B5⟩
  have s5 := B5.size
  replace o1 := o1.below B5 (by omega)
  replace o2a := o2a.below B5 (by omega)
  replace o2b := o2b.below B5 (by omega)
  replace o3 := o3.below B5 (by omega)
  replace o4a := o4a.below B5 (by omega)
  replace o4b := o4b.below B5 (by omega)
  replace BB := BB.trans (B5.mono (B' := w.heap.size) (by omega))
  go_wp2_with fail
  refine (eqv_I _ _ (cutOf x0 x1).1.2 _ o4b.rd o2b.rd).mono ?_
  rintro e w6 ⟨rfl, B6⟩
  have s6 := B6.size
  replace o1 := o1.below B6 (by omega)
  replace o2a := o2a.below B6 (by omega)
  replace o2b := o2b.below B6 (by omega)
  replace o3 := o3.below B6 (by omega)
  replace o4a := o4a.below B6 (by omega)
  replace o4b := o4b.below B6 (by omega)
  replace BB := BB.trans (B6.mono (B' := w.heap.size) (by omega))
  go_wp2_with fail
  refine (to_I _ x0 _ (h0.below BB (Nat.le_refl _)) z0).mono ?_
  rintro e w7 ⟨u7, rfl, o7, B7⟩
  have s7 := B7.size
  replace o1 := o1.below B7 (by omega)
  replace o2a := o2a.below B7 (by omega)
  replace o2b := o2b.below B7 (by omega)
  replace o3 := o3.below B7 (by omega)
  replace o4a := o4a.below B7 (by omega)
  replace o4b := o4b.below B7 (by omega)
  replace BB := BB.trans (B7.mono (B' := w.heap.size) (by omega))
  go_wp2_with fail
  refine (eqv_I _ _ x0 _ o3.rd o7.rd).mono ?_
  rintro e w8 ⟨rfl, B8⟩
  have s8 := B8.size
  replace o1 := o1.below B8 (by omega)
  replace o2a := o2a.below B8 (by omega)
  replace o2b := o2b.below B8 (by omega)
  replace o3 := o3.below B8 (by omega)
  replace o4a := o4a.below B8 (by omega)
  replace o4b := o4b.below B8 (by omega)
  replace o7 := o7.below B8 (by omega)
  replace BB := BB.trans (B8.mono (B' := w.heap.size) (by omega))
  go_wp2_with fail
  have p9 := cntb_I x0 z0
  refine (mark_I _ x0 _ _ 1 _ o3 (by omega) (by omega)).mono ?_
  rintro e w9 ⟨rfl, o3n, B9⟩
  have s9 := B9.size
  replace o1 := o1.apart B9 (by omega)
  replace o2a := o2a.apart B9 (by omega)
  replace o2b := o2b.apart B9 (by omega)
  replace o4a := o4a.apart B9 (by omega)
  replace o4b := o4b.apart B9 (by omega)
  replace o7 := o7.apart B9 (by omega)
  replace o3 := o3n
  clear o3n
  replace BB := BB.trans (B9.below (B := w.heap.size) (by omega) (by omega))
  go_wp2_with fail
  refine (eqv_I _ _ (cutOf x0 x1).1.1 _ o4a.rd o2a.rd).mono ?_
  rintro e w10 ⟨rfl, B10⟩
  have s10 := B10.size
  replace o1 := o1.below B10 (by omega)
  replace o2a := o2a.below B10 (by omega)
  replace o2b := o2b.below B10 (by omega)
  replace o3 := o3.below B10 (by omega)
  replace o4a := o4a.below B10 (by omega)
  replace o4b := o4b.below B10 (by omega)
  replace o7 := o7.below B10 (by omega)
  replace BB := BB.trans (B10.mono (B' := w.heap.size) (by omega))
  go_wp2_with fail
  refine (eqv_I _ _ (cutOf x0 x1).1.2 _ o4b.rd o2b.rd).mono ?_
  rintro e w11 ⟨rfl, B11⟩
  have s11 := B11.size
  replace o1 := o1.below B11 (by omega)
  replace o2a := o2a.below B11 (by omega)
  replace o2b := o2b.below B11 (by omega)
  replace o3 := o3.below B11 (by omega)
  replace o4a := o4a.below B11 (by omega)
  replace o4b := o4b.below B11 (by omega)
  replace o7 := o7.below B11 (by omega)
  replace BB := BB.trans (B11.mono (B' := w.heap.size) (by omega))
  go_wp2_with fail
  have p12 := (cutOf_cnt x0 x1).1
  refine (mark_I _ (cutOf x0 x1).1.1 _ _ 1 _ o4a (by omega) (by omega)).mono ?_
  rintro e w12 ⟨rfl, o4an, B12⟩
  have s12 := B12.size
  replace o1 := o1.apart B12 (by omega)
  replace o2a := o2a.apart B12 (by omega)
  replace o2b := o2b.apart B12 (by omega)
  replace o3 := o3.apart B12 (by omega)
  replace o4b := o4b.apart B12 (by omega)
  replace o7 := o7.apart B12 (by omega)
  replace o4a := o4an
  clear o4an
  replace BB := BB.trans (B12.below (B := w.heap.size) (by omega) (by omega))
  go_wp2_with fail
  have p13 := (cutOf_cnt x0 x1).2
  refine (mark_I _ (cutOf x0 x1).1.2 _ _ (1 + (cnt_I (cutOf x0 x1).1.1 : Nat)) _ o4b (by omega) (by omega)).mono ?_
  rintro e w13 ⟨rfl, o4bn, B13⟩
  have s13 := B13.size
  replace o1 := o1.apart B13 (by omega)
  replace o2a := o2a.apart B13 (by omega)
  replace o2b := o2b.apart B13 (by omega)
  replace o3 := o3.apart B13 (by omega)
  replace o4a := o4a.apart B13 (by omega)
  replace o7 := o7.apart B13 (by omega)
  replace o4b := o4bn
  clear o4bn
  replace BB := BB.trans (B13.below (B := w.heap.size) (by omega) (by omega))
  go_wp2_with fail
  refine (held_I _ (cutOf x0 x1).1.1 1 _ o4a.rd (by omega) (by omega)).mono ?_
  rintro e w14 ⟨rfl, rfl⟩
  go_wp2_with fail
  refine (held_I _ (cutOf x0 x1).1.2 (1 + (cnt_I (cutOf x0 x1).1.1 : Nat)) _ o4b.rd (by omega) (by omega)).mono ?_
  rintro e w15 ⟨rfl, rfl⟩
  go_wp2_with fail
  refine (to_I _ x0 _ (h0.below BB (Nat.le_refl _)) z0).mono ?_
  rintro e w16 ⟨u16, rfl, o16, B16⟩
  have s16 := B16.size
  replace o1 := o1.below B16 (by omega)
  replace o2a := o2a.below B16 (by omega)
  replace o2b := o2b.below B16 (by omega)
  replace o3 := o3.below B16 (by omega)
  replace o4a := o4a.below B16 (by omega)
  replace o4b := o4b.below B16 (by omega)
  replace o7 := o7.below B16 (by omega)
  replace BB := BB.trans (B16.mono (B' := w.heap.size) (by omega))
  go_wp2_with fail
  refine (k_impl_CutAbove _ x1 x0 _ o16.rd h1).mono ?_
  rintro e w17 ⟨u17a, u17b, m17, rfl, q17, o17a, o17b, B17⟩
  have s17 := B17.size
  replace o1 := o1.below B17 (by omega)
  replace o2a := o2a.below B17 (by omega)
  replace o2b := o2b.below B17 (by omega)
  replace o3 := o3.below B17 (by omega)
  replace o4a := o4a.below B17 (by omega)
  replace o4b := o4b.below B17 (by omega)
  replace o7 := o7.below B17 (by omega)
  replace o16 := o16.below B17 (by omega)
  replace BB := BB.trans (B17.mono (B' := w.heap.size) (by omega))
  go_wp2_with fail
  refine (eqv_I _ _ (cutOf x0 x1).1.1 _ o17a.rd o2a.rd).mono ?_
  rintro e w18 ⟨rfl, B18⟩
  have s18 := B18.size
  replace o1 := o1.below B18 (by omega)
  replace o2a := o2a.below B18 (by omega)
  replace o2b := o2b.below B18 (by omega)
  replace o3 := o3.below B18 (by omega)
  replace o4a := o4a.below B18 (by omega)
  replace o4b := o4b.below B18 (by omega)
  replace o7 := o7.below B18 (by omega)
  replace o16 := o16.below B18 (by omega)
  replace o17a := o17a.below B18 (by omega)
  replace o17b := o17b.below B18 (by omega)
  replace BB := BB.trans (B18.mono (B' := w.heap.size) (by omega))
  go_wp2_with fail
  refine (eqv_I _ _ (cutOf x0 x1).1.2 _ o17b.rd o2b.rd).mono ?_
  rintro e w19 ⟨rfl, B19⟩
  have s19 := B19.size
  replace o1 := o1.below B19 (by omega)
  replace o2a := o2a.below B19 (by omega)
  replace o2b := o2b.below B19 (by omega)
  replace o3 := o3.below B19 (by omega)
  replace o4a := o4a.below B19 (by omega)
  replace o4b := o4b.below B19 (by omega)
  replace o7 := o7.below B19 (by omega)
  replace o16 := o16.below B19 (by omega)
  replace o17a := o17a.below B19 (by omega)
  replace o17b := o17b.below B19 (by omega)
  replace BB := BB.trans (B19.mono (B' := w.heap.size) (by omega))
  go_wp2_with fail
  refine (held_I _ (cutOf x0 x1).1.1 1 _ o4a.rd (by omega) (by omega)).mono ?_
  rintro e w20 ⟨rfl, rfl⟩
  go_wp2_with fail
  refine (held_I _ (cutOf x0 x1).1.2 (1 + (cnt_I (cutOf x0 x1).1.1 : Nat)) _ o4b.rd (by omega) (by omega)).mono ?_
  rintro e w21 ⟨rfl, rfl⟩
  go_wp2_with fail
  go_ret
  exact ⟨rfl, BB⟩

end Go.Proofs.Ytmeijcgclllldaa
