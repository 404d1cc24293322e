/- The walk of the law FnExactTimesForests. -/
import Derived.Test.YtdjkmjifeekimaaTim
set_option linter.unusedSimpArgs false
set_option linter.unusedVariables false
namespace Go.Proofs.Ytdjkmjifeekimaa
open Go.RowKit

set_option maxHeartbeats 1000000 in
theorem walk_FnExactTimesForests (v0 : Value) (v1 : Value) (x0 : List (List Int)) (x1 : List (List Int)) (w : World) (h0 : Rd (RS (RS RI)) w [v0] x0) (h1 : Rd (RS (RS RI)) w [v1] x1) : Calls Try.prog 3 #[v0, v1] w (RetV w (.bool true)) := by
  go_enter Try.func3, Try.ntmps3
  go_wp2_with fail
  refine (sz_II _ x0 1048576 _ h0 (by omega) (by omega)).mono ?_
  rintro e w1 ⟨r1, rfl, hr1, B1⟩
  have s1 := B1.size
  have BB := B1.mono (B' := w.heap.size) (by omega)
  rcases hr1 with ⟨n1, z0⟩ | ⟨n1, n1b, z0⟩
  · go_wp2_with fail
    go_ret
    exact ⟨rfl, BB⟩
  go_wp2_with fail
  refine (sz_II _ x1 r1 _ (h1.below BB (Nat.le_refl _)) (by omega) (by omega)).mono ?_
  rintro e w2 ⟨r2, rfl, hr2, B2⟩
  have s2 := B2.size
  replace BB := BB.trans (B2.mono (B' := w.heap.size) (by omega))
  rcases hr2 with ⟨n2, z1⟩ | ⟨n2, n2b, z1⟩
  · go_wp2_with fail
    go_ret
    exact ⟨rfl, BB⟩
  go_wp2_with fail
  refine (to_II _ x0 _ (h0.below BB (Nat.le_refl _)) z0).mono ?_
  rintro e w3 ⟨u3, rfl, o3, B3⟩
  have s3 := B3.size
  replace BB := BB.trans (B3.mono (B' := w.heap.size) (by omega))
  go_wp2_with fail
  refine (to_II _ x1 _ (h1.below BB (Nat.le_refl _)) z1).mono ?_
  rintro e w4 ⟨u4, rfl, o4, B4⟩
  have s4 := B4.size
  replace o3 := o3.below B4 (by omega)
  replace BB := BB.trans (B4.mono (B' := w.heap.size) (by omega))
  go_wp2_with fail
  refine (k_spec_TimesForests _ _ x0 x1 _ o3.rd o4.rd z0 z1).mono ?_
  rintro e w5 ⟨u5, rfl, o5, B5⟩
  have s5 := B5.size
  replace o3 := o3.below B5 (by omega)
  replace o4 := o4.below B5 (by omega)
  replace BB := BB.trans (B5.mono (B' := w.heap.size) (by omega))
  go_wp2_with fail
  refine (to_II _ x0 _ (h0.below BB (Nat.le_refl _)) z0).mono ?_
  rintro e w6 ⟨u6, rfl, o6, B6⟩
  have s6 := B6.size
  replace o3 := o3.below B6 (by omega)
  replace o4 := o4.below B6 (by omega)
  replace o5 := o5.below B6 (by omega)
  replace BB := BB.trans (B6.mono (B' := w.heap.size) (by omega))
  go_wp2_with fail
  refine (to_II _ x1 _ (h1.below BB (Nat.le_refl _)) z1).mono ?_
  rintro e w7 ⟨u7, rfl, o7, B7⟩
  have s7 := B7.size
  replace o3 := o3.below B7 (by omega)
  replace o4 := o4.below B7 (by omega)
  replace o5 := o5.below B7 (by omega)
  replace o6 := o6.below B7 (by omega)
  replace BB := BB.trans (B7.mono (B' := w.heap.size) (by omega))
  go_wp2_with fail
  refine (k_impl_TimesForests _ _ x0 x1 _ o6.rd o7.rd z0 z1).mono ?_
  rintro e w8 ⟨u8, rfl, o8, B8⟩
  have s8 := B8.size
  replace o3 := o3.below B8 (by omega)
  replace o4 := o4.below B8 (by omega)
  replace o5 := o5.below B8 (by omega)
  replace o6 := o6.below B8 (by omega)
  replace o7 := o7.below B8 (by omega)
  replace BB := BB.trans (B8.mono (B' := w.heap.size) (by omega))
  go_wp2_with fail
  refine (eqv_II _ _ (tmfOf x0 x1).1 _ o8.rd o5.rd).mono ?_
  rintro e w9 ⟨rfl, B9⟩
  have s9 := B9.size
  replace o3 := o3.below B9 (by omega)
  replace o4 := o4.below B9 (by omega)
  replace o5 := o5.below B9 (by omega)
  replace o6 := o6.below B9 (by omega)
  replace o7 := o7.below B9 (by omega)
  replace o8 := o8.below B9 (by omega)
  replace BB := BB.trans (B9.mono (B' := w.heap.size) (by omega))
  go_wp2_with fail
  refine (to_II _ x0 _ (h0.below BB (Nat.le_refl _)) z0).mono ?_
  rintro e w10 ⟨u10, rfl, o10, B10⟩
  have s10 := B10.size
  replace o3 := o3.below B10 (by omega)
  replace o4 := o4.below B10 (by omega)
  replace o5 := o5.below B10 (by omega)
  replace o6 := o6.below B10 (by omega)
  replace o7 := o7.below B10 (by omega)
  replace o8 := o8.below B10 (by omega)
  replace BB := BB.trans (B10.mono (B' := w.heap.size) (by omega))
  go_wp2_with fail
  refine (eqv_II _ _ x0 _ o6.rd o10.rd).mono ?_
  rintro e w11 ⟨rfl, B11⟩
  have s11 := B11.size
  replace o3 := o3.below B11 (by omega)
  replace o4 := o4.below B11 (by omega)
  replace o5 := o5.below B11 (by omega)
  replace o6 := o6.below B11 (by omega)
  replace o7 := o7.below B11 (by omega)
  replace o8 := o8.below B11 (by omega)
  replace o10 := o10.below B11 (by omega)
  replace BB := BB.trans (B11.mono (B' := w.heap.size) (by omega))
  go_wp2_with fail
  refine (to_II _ x1 _ (h1.below BB (Nat.le_refl _)) z1).mono ?_
  rintro e w12 ⟨u12, rfl, o12, B12⟩
  have s12 := B12.size
  replace o3 := o3.below B12 (by omega)
  replace o4 := o4.below B12 (by omega)
  replace o5 := o5.below B12 (by omega)
  replace o6 := o6.below B12 (by omega)
  replace o7 := o7.below B12 (by omega)
  replace o8 := o8.below B12 (by omega)
  replace o10 := o10.below B12 (by omega)
  replace BB := BB.trans (B12.mono (B' := w.heap.size) (by omega))
  go_wp2_with fail
  refine (eqv_II _ _ x1 _ o7.rd o12.rd).mono ?_
  rintro e w13 ⟨rfl, B13⟩
  have s13 := B13.size
  replace o3 := o3.below B13 (by omega)
  replace o4 := o4.below B13 (by omega)
  replace o5 := o5.below B13 (by omega)
  replace o6 := o6.below B13 (by omega)
  replace o7 := o7.below B13 (by omega)
  replace o8 := o8.below B13 (by omega)
  replace o10 := o10.below B13 (by omega)
  replace o12 := o12.below B13 (by omega)
  replace BB := BB.trans (B13.mono (B' := w.heap.size) (by omega))
  go_wp2_with fail
  have p14 := cntb_II x0 z0
  refine (mark_II _ x0 _ _ 1 _ o6 (by omega) (by omega)).mono ?_
  rintro e w14 ⟨rfl, o6n, B14⟩
  have s14 := B14.size
  replace o3 := o3.apart B14 (by omega)
  replace o4 := o4.apart B14 (by omega)
  replace o5 := o5.apart B14 (by omega)
  replace o7 := o7.apart B14 (by omega)
  replace o8 := o8.apart B14 (by omega)
  replace o10 := o10.apart B14 (by omega)
  replace o12 := o12.apart B14 (by omega)
  replace o6 := o6n
  clear o6n
  replace BB := BB.trans (B14.below (B := w.heap.size) (by omega) (by omega))
  go_wp2_with fail
  have p15 := cntb_II x1 z1
  refine (mark_II _ x1 _ _ (1 + (cnt_II x0 : Nat)) _ o7 (by omega) (by omega)).mono ?_
  rintro e w15 ⟨rfl, o7n, B15⟩
  have s15 := B15.size
  replace o3 := o3.apart B15 (by omega)
  replace o4 := o4.apart B15 (by omega)
  replace o5 := o5.apart B15 (by omega)
  replace o6 := o6.apart B15 (by omega)
  replace o8 := o8.apart B15 (by omega)
  replace o10 := o10.apart B15 (by omega)
  replace o12 := o12.apart B15 (by omega)
  replace o7 := o7n
  clear o7n
  replace BB := BB.trans (B15.below (B := w.heap.size) (by omega) (by omega))
  go_wp2_with fail
  refine (eqv_II _ _ (tmfOf x0 x1).1 _ o8.rd o5.rd).mono ?_
  rintro e w16 ⟨rfl, B16⟩
  have s16 := B16.size
  replace o3 := o3.below B16 (by omega)
  replace o4 := o4.below B16 (by omega)
  replace o5 := o5.below B16 (by omega)
  replace o6 := o6.below B16 (by omega)
  replace o7 := o7.below B16 (by omega)
  replace o8 := o8.below B16 (by omega)
  replace o10 := o10.below B16 (by omega)
  replace o12 := o12.below B16 (by omega)
  replace BB := BB.trans (B16.mono (B' := w.heap.size) (by omega))
  go_wp2_with fail
  have p17 := tmfOf_cnt x0 x1
  refine (mark_II _ (tmfOf x0 x1).1 _ _ 1 _ o8 (by omega) (by omega)).mono ?_
  rintro e w17 ⟨rfl, o8n, B17⟩
  have s17 := B17.size
  replace o3 := o3.apart B17 (by omega)
  replace o4 := o4.apart B17 (by omega)
  replace o5 := o5.apart B17 (by omega)
  replace o6 := o6.apart B17 (by omega)
  replace o7 := o7.apart B17 (by omega)
  replace o10 := o10.apart B17 (by omega)
  replace o12 := o12.apart B17 (by omega)
  replace o8 := o8n
  clear o8n
  replace BB := BB.trans (B17.below (B := w.heap.size) (by omega) (by omega))
  go_wp2_with fail
  refine (held_II _ (tmfOf x0 x1).1 1 _ o8.rd (by omega) (by omega)).mono ?_
  rintro e w18 ⟨rfl, rfl⟩
  go_wp2_with fail
  refine (to_II _ x0 _ (h0.below BB (Nat.le_refl _)) z0).mono ?_
  rintro e w19 ⟨u19, rfl, o19, B19⟩
  have s19 := B19.size
  replace o3 := o3.below B19 (by omega)
  replace o4 := o4.below B19 (by omega)
  replace o5 := o5.below B19 (by omega)
  replace o6 := o6.below B19 (by omega)
  replace o7 := o7.below B19 (by omega)
  replace o8 := o8.below B19 (by omega)
  replace o10 := o10.below B19 (by omega)
  replace o12 := o12.below B19 (by omega)
  replace BB := BB.trans (B19.mono (B' := w.heap.size) (by omega))
  go_wp2_with fail
  refine (to_II _ x1 _ (h1.below BB (Nat.le_refl _)) z1).mono ?_
  rintro e w20 ⟨u20, rfl, o20, B20⟩
  have s20 := B20.size
  replace o3 := o3.below B20 (by omega)
  replace o4 := o4.below B20 (by omega)
  replace o5 := o5.below B20 (by omega)
  replace o6 := o6.below B20 (by omega)
  replace o7 := o7.below B20 (by omega)
  replace o8 := o8.below B20 (by omega)
  replace o10 := o10.below B20 (by omega)
  replace o12 := o12.below B20 (by omega)
  replace o19 := o19.below B20 (by omega)
  replace BB := BB.trans (B20.mono (B' := w.heap.size) (by omega))
  go_wp2_with fail
  refine (k_impl_TimesForests _ _ x0 x1 _ o19.rd o20.rd z0 z1).mono ?_
  rintro e w21 ⟨u21, rfl, o21, B21⟩
  have s21 := B21.size
  replace o3 := o3.below B21 (by omega)
  replace o4 := o4.below B21 (by omega)
  replace o5 := o5.below B21 (by omega)
  replace o6 := o6.below B21 (by omega)
  replace o7 := o7.below B21 (by omega)
  replace o8 := o8.below B21 (by omega)
  replace o10 := o10.below B21 (by omega)
  replace o12 := o12.below B21 (by omega)
  replace o19 := o19.below B21 (by omega)
  replace o20 := o20.below B21 (by omega)
  replace BB := BB.trans (B21.mono (B' := w.heap.size) (by omega))
  go_wp2_with fail
  refine (eqv_II _ _ (tmfOf x0 x1).1 _ o21.rd o5.rd).mono ?_
  rintro e w22 ⟨rfl, B22⟩
  have s22 := B22.size
  replace o3 := o3.below B22 (by omega)
  replace o4 := o4.below B22 (by omega)
  replace o5 := o5.below B22 (by omega)
  replace o6 := o6.below B22 (by omega)
  replace o7 := o7.below B22 (by omega)
  replace o8 := o8.below B22 (by omega)
  replace o10 := o10.below B22 (by omega)
  replace o12 := o12.below B22 (by omega)
  replace o19 := o19.below B22 (by omega)
  replace o20 := o20.below B22 (by omega)
  replace o21 := o21.below B22 (by omega)
  replace BB := BB.trans (B22.mono (B' := w.heap.size) (by omega))
  go_wp2_with fail
  refine (held_II _ (tmfOf x0 x1).1 1 _ o8.rd (by omega) (by omega)).mono ?_
  rintro e w23 ⟨rfl, rfl⟩
  go_wp2_with fail
  go_ret
  exact ⟨rfl, BB⟩

end Go.Proofs.Ytdjkmjifeekimaa
