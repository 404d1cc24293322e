/- The walk of the law FnExactFreeTreesOf. -/
import Derived.Test.YtmeijcgclllldaaFreeTr
namespace Go.Proofs.Ytmeijcgclllldaa
open Go.RowKit

set_option maxHeartbeats 1000000 in
theorem walk_FnExactFreeTreesOf (x0 : Int)  (w : World) (h0 : In64 x0) : Calls Try.prog 12 #[.int .i64 x0] w (RetV w (.bool true)) := by
  go_enter Try.func12, Try.ntmps12
  go_wp2_with fail
  refine (k_spec_FreeTreesOf x0  _ h0).mono ?_
  rintro e w1 ⟨u1, rfl, o1, B1⟩
  have s1 := B1.size
  have BB := B1.mono (B' := w.heap.size) (by omega)
  go_wp2_with fail
  refine (k_impl_FreeTreesOf x0  _ h0).mono ?_
  rintro e w2 ⟨u2, rfl, o2, B2⟩
  have s2 := B2.size
  replace o1 := o1.below B2 (by omega)
  replace BB := BB.trans (B2.mono (B' := w.heap.size) (by omega))
  go_wp2_with fail
  refine (eqv_II _ _ (freeOf x0).1 _ o2.rd o1.rd).mono ?_
  rintro e w3 ⟨rfl, B3⟩
  have s3 := B3.size
  replace o1 := o1.below B3 (by omega)
  replace o2 := o2.below B3 (by omega)
  replace BB := BB.trans (B3.mono (B' := w.heap.size) (by omega))
  go_wp2_with fail
  have p4 := freeOf_cnt x0
  refine (mark_II _ (freeOf x0).1 _ _ 1 _ o2 (by omega) (by omega)).mono ?_
  rintro e w4 ⟨rfl, o2n, B4⟩
  have s4 := B4.size
  replace o1 := o1.apart B4 (by omega)
  replace o2 := o2n
  clear o2n
  replace BB := BB.trans (B4.below (B := w.heap.size) (by omega) (by omega))
  go_wp2_with fail
  refine (held_II _ (freeOf x0).1 1 _ o2.rd (by omega) (by omega)).mono ?_
  rintro e w5 ⟨rfl, rfl⟩
  go_wp2_with fail
  refine (k_impl_FreeTreesOf x0  _ h0).mono ?_
  rintro e w6 ⟨u6, rfl, o6, B6⟩
  have s6 := B6.size
  replace o1 := o1.below B6 (by omega)
  replace o2 := o2.below B6 (by omega)
  replace BB := BB.trans (B6.mono (B' := w.heap.size) (by omega))
  go_wp2_with fail
  refine (eqv_II _ _ (freeOf x0).1 _ o6.rd o1.rd).mono ?_
  rintro e w7 ⟨rfl, B7⟩
  have s7 := B7.size
  replace o1 := o1.below B7 (by omega)
  replace o2 := o2.below B7 (by omega)
  replace o6 := o6.below B7 (by omega)
  replace BB := BB.trans (B7.mono (B' := w.heap.size) (by omega))
  go_wp2_with fail
  refine (held_II _ (freeOf x0).1 1 _ o2.rd (by omega) (by omega)).mono ?_
  rintro e w8 ⟨rfl, rfl⟩
  go_wp2_with fail
  go_ret
  exact ⟨rfl, BB⟩

end Go.Proofs.Ytmeijcgclllldaa
