/- The walk of the law FnExactDegreeOf. -/
import Derived.Test.YtacbkjmkjpjhoaaDegK
set_option linter.unusedSimpArgs false
set_option linter.unusedVariables false
namespace Go.Proofs.Ytacbkjmkjpjhoaa
open Go.RowKit

set_option maxHeartbeats 1000000 in
theorem walk_FnExactDegreeOf (v0 : Value) (x0 : List (Int × List (List Int))) (w : World) (h0 : Rd (RS RPart) w [v0] x0) : Calls Try.prog 4 #[v0] w (RetV w (.bool true)) := by
  go_enter Try.func4, Try.ntmps4
  go_wp2_with fail
  refine (sz_P _ x0 1048576 _ h0 (by omega) (by omega)).mono ?_
  rintro e w1 ⟨r1, rfl, hr1, B1⟩
  have s1 := B1.size
  have BB := B1.mono (B' := w.heap.size) (by omega)
  rcases hr1 with ⟨n1, z0⟩ | ⟨n1, n1b, z0⟩
  · go_wp2_with fail
    go_ret
    exact ⟨rfl, BB⟩
  go_wp2_with fail
  refine (to_P _ x0 _ (h0.below BB (Nat.le_refl _)) z0).mono ?_
  rintro e w2 ⟨u2, rfl, o2, B2⟩
  have s2 := B2.size
  replace BB := BB.trans (B2.mono (B' := w.heap.size) (by omega))
  go_wp2_with fail
  refine (k_spec_DegreeOf _ x0 _ o2.rd z0).mono ?_
  rintro e w3 ⟨rfl, B3⟩
  have s3 := B3.size
  replace o2 := o2.below B3 (by omega)
  replace BB := BB.trans (B3.mono (B' := w.heap.size) (by omega))
  go_wp2_with fail
  refine (to_P _ x0 _ (h0.below BB (Nat.le_refl _)) z0).mono ?_
  rintro e w4 ⟨u4, rfl, o4, B4⟩
  have s4 := B4.size
  replace o2 := o2.below B4 (by omega)
  replace BB := BB.trans (B4.mono (B' := w.heap.size) (by omega))
  go_wp2_with fail
  refine (k_impl_DegreeOf _ x0 _ o4.rd z0).mono ?_
  rintro e w5 ⟨rfl, B5⟩
  have s5 := B5.size
  replace o2 := o2.below B5 (by omega)
  replace o4 := o4.below B5 (by omega)
  replace BB := BB.trans (B5.mono (B' := w.heap.size) (by omega))
  go_wp2_with fail
  refine (to_P _ x0 _ (h0.below BB (Nat.le_refl _)) z0).mono ?_
  rintro e w6 ⟨u6, rfl, o6, B6⟩
  have s6 := B6.size
  replace o2 := o2.below B6 (by omega)
  replace o4 := o4.below B6 (by omega)
  replace BB := BB.trans (B6.mono (B' := w.heap.size) (by omega))
  go_wp2_with fail
  refine (eqv_P _ _ x0 _ o4.rd o6.rd).mono ?_
  rintro e w7 ⟨rfl, B7⟩
  have s7 := B7.size
  replace o2 := o2.below B7 (by omega)
  replace o4 := o4.below B7 (by omega)
  replace o6 := o6.below B7 (by omega)
  replace BB := BB.trans (B7.mono (B' := w.heap.size) (by omega))
  go_wp2_with fail
  go_ret
  exact ⟨rfl, BB⟩

end Go.Proofs.Ytacbkjmkjpjhoaa
