/- Lemmas (13). -/
import Derived.Test.YtkdkikmhlhcndaaGreatZD12
set_option linter.unusedSimpArgs false
set_option linter.unusedVariables false
namespace Go.Proofs.YtkdkikmhlhcndaaGreat
open Go.RowKit
set_option maxHeartbeats 1000000 in
theorem walk_FnExactCutsOfForest (v0 : Value) (x0 : List (List Int)) (w : World) (h0 : Rd (RS (RS RI)) w [v0] x0) : Calls Tryz.prog 3 #[v0] w (RetV w (.bool true)) := by
  go_enter Tryz.func3, Tryz.ntmps3
  go_wp2_with fail
  refine (sz_II _ x0 1048576 _ h0 (by omega) (by omega)).mono ?_
  rintro e w1 ⟨r1, rfl, hr1, B1⟩
  have s1 := B1.size
  have BB := B1.mono (B' := w.heap.size) (by omega)
  rcases hr1 with ⟨n1, z0⟩ | ⟨n1, n1b, z0⟩
  · go_wp2_with fail
    go_ret
    exact ⟨rfl, BB⟩
  go_wp2_with fail
  refine (to_II _ x0 _ (h0.below BB (Nat.le_refl _)) z0).mono ?_
  rintro e w2 ⟨u2, rfl, o2, B2⟩
  have s2 := B2.size
  replace BB := BB.trans (B2.mono (B' := w.heap.size) (by omega))
  go_wp2_with fail
  refine (k_spec_CutsOfForest _ x0 _ o2.rd z0).mono ?_
  rintro e w3 ⟨u3, rfl, o3, B3⟩
  have s3 := B3.size
  replace o2 := o2.below B3 (by omega)
  replace BB := BB.trans (B3.mono (B' := w.heap.size) (by omega))
  go_wp2_with fail
  refine (to_II _ x0 _ (h0.below BB (Nat.le_refl _)) z0).mono ?_
  rintro e w4 ⟨u4, rfl, o4, B4⟩
  have s4 := B4.size
  replace o2 := o2.below B4 (by omega)
  replace o3 := o3.below B4 (by omega)
  replace BB := BB.trans (B4.mono (B' := w.heap.size) (by omega))
  go_wp2_with fail
  refine (k_impl_CutsOfForest _ x0 _ o4.rd z0).mono ?_
  rintro e w5 ⟨u5, rfl, o5, B5⟩
  have s5 := B5.size
  replace o2 := o2.below B5 (by omega)
  replace o3 := o3.below B5 (by omega)
  replace o4 := o4.below B5 (by omega)
  replace BB := BB.trans (B5.mono (B' := w.heap.size) (by omega))
  go_wp2_with fail
  refine (eqv_S _ _ (cfOf x0).1 _ o5.rd o3.rd).mono ?_
  rintro e w6 ⟨rfl, B6⟩
  have s6 := B6.size
  replace o2 := o2.below B6 (by omega)
  replace o3 := o3.below B6 (by omega)
  replace o4 := o4.below B6 (by omega)
  replace o5 := o5.below B6 (by omega)
  replace BB := BB.trans (B6.mono (B' := w.heap.size) (by omega))
  go_wp2_with fail
  refine (to_II _ x0 _ (h0.below BB (Nat.le_refl _)) z0).mono ?_
  rintro e w7 ⟨u7, rfl, o7, B7⟩
  have s7 := B7.size
  replace o2 := o2.below B7 (by omega)
  replace o3 := o3.below B7 (by omega)
  replace o4 := o4.below B7 (by omega)
  replace o5 := o5.below B7 (by omega)
  replace BB := BB.trans (B7.mono (B' := w.heap.size) (by omega))
  go_wp2_with fail
  refine (eqv_II _ _ x0 _ o4.rd o7.rd).mono ?_
  rintro e w8 ⟨rfl, B8⟩
  have s8 := B8.size
  replace o2 := o2.below B8 (by omega)
  replace o3 := o3.below B8 (by omega)
  replace o4 := o4.below B8 (by omega)
  replace o5 := o5.below B8 (by omega)
  replace o7 := o7.below B8 (by omega)
  replace BB := BB.trans (B8.mono (B' := w.heap.size) (by omega))
  go_wp2_with fail
  have p9 := cntb_II x0 z0
  refine (mark_II _ x0 _ _ 1 _ o4 (by omega) (by omega)).mono ?_
  rintro e w9 ⟨rfl, o4n, B9⟩
  have s9 := B9.size
  replace o2 := o2.apart B9 (by omega)
  replace o3 := o3.apart B9 (by omega)
  replace o5 := o5.apart B9 (by omega)
  replace o7 := o7.apart B9 (by omega)
  replace o4 := o4n
  clear o4n
  replace BB := BB.trans (B9.below (B := w.heap.size) (by omega) (by omega))
  go_wp2_with fail
  refine (eqv_S _ _ (cfOf x0).1 _ o5.rd o3.rd).mono ?_
  rintro e w10 ⟨rfl, B10⟩
  have s10 := B10.size
  replace o2 := o2.below B10 (by omega)
  replace o3 := o3.below B10 (by omega)
  replace o4 := o4.below B10 (by omega)
  replace o5 := o5.below B10 (by omega)
  replace o7 := o7.below B10 (by omega)
  replace BB := BB.trans (B10.mono (B' := w.heap.size) (by omega))
  go_wp2_with fail
  have p11 := cfOf_cnt x0
  refine (mark_S _ (cfOf x0).1 _ _ 1 _ o5 (by omega) (by omega)).mono ?_
  rintro e w11 ⟨rfl, o5n, B11⟩
  have s11 := B11.size
  replace o2 := o2.apart B11 (by omega)
  replace o3 := o3.apart B11 (by omega)
  replace o4 := o4.apart B11 (by omega)
  replace o7 := o7.apart B11 (by omega)
  replace o5 := o5n
  clear o5n
  replace BB := BB.trans (B11.below (B := w.heap.size) (by omega) (by omega))
  go_wp2_with fail
  refine (held_S _ (cfOf x0).1 1 _ o5.rd (by omega) (by omega)).mono ?_
  rintro e w12 ⟨rfl, B12⟩
  have s12 := B12.size
  replace o2 := o2.below B12 (by omega)
  replace o3 := o3.below B12 (by omega)
  replace o4 := o4.below B12 (by omega)
  replace o5 := o5.below B12 (by omega)
  replace o7 := o7.below B12 (by omega)
  replace BB := BB.trans (B12.mono (B' := w.heap.size) (by omega))
  go_wp2_with fail
  refine (to_II _ x0 _ (h0.below BB (Nat.le_refl _)) z0).mono ?_
  rintro e w13 ⟨u13, rfl, o13, B13⟩
  have s13 := B13.size
  replace o2 := o2.below B13 (by omega)
  replace o3 := o3.below B13 (by omega)
  replace o4 := o4.below B13 (by omega)
  replace o5 := o5.below B13 (by omega)
  replace o7 := o7.below B13 (by omega)
  replace BB := BB.trans (B13.mono (B' := w.heap.size) (by omega))
  go_wp2_with fail
  refine (k_impl_CutsOfForest _ x0 _ o13.rd z0).mono ?_
  rintro e w14 ⟨u14, rfl, o14, B14⟩
  have s14 := B14.size
  replace o2 := o2.below B14 (by omega)
  replace o3 := o3.below B14 (by omega)
  replace o4 := o4.below B14 (by omega)
  replace o5 := o5.below B14 (by omega)
  replace o7 := o7.below B14 (by omega)
  replace o13 := o13.below B14 (by omega)
  replace BB := BB.trans (B14.mono (B' := w.heap.size) (by omega))
  go_wp2_with fail
  refine (eqv_S _ _ (cfOf x0).1 _ o14.rd o3.rd).mono ?_
  rintro e w15 ⟨rfl, B15⟩
  have s15 := B15.size
  replace o2 := o2.below B15 (by omega)
  replace o3 := o3.below B15 (by omega)
  replace o4 := o4.below B15 (by omega)
  replace o5 := o5.below B15 (by omega)
  replace o7 := o7.below B15 (by omega)
  replace o13 := o13.below B15 (by omega)
  replace o14 := o14.below B15 (by omega)
  replace BB := BB.trans (B15.mono (B' := w.heap.size) (by omega))
  go_wp2_with fail
  refine (held_S _ (cfOf x0).1 1 _ o5.rd (by omega) (by omega)).mono ?_
  rintro e w16 ⟨rfl, B16⟩
  have s16 := B16.size
  replace o2 := o2.below B16 (by omega)
  replace o3 := o3.below B16 (by omega)
  replace o4 := o4.below B16 (by omega)
  replace o5 := o5.below B16 (by omega)
  replace o7 := o7.below B16 (by omega)
  replace o13 := o13.below B16 (by omega)
  replace o14 := o14.below B16 (by omega)
  replace BB := BB.trans (B16.mono (B' := w.heap.size) (by omega))
  go_wp2_with fail
  go_ret
  exact ⟨rfl, BB⟩
end Go.Proofs.YtkdkikmhlhcndaaGreat
