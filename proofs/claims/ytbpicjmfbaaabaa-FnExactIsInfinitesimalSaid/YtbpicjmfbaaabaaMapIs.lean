/- Maps of numbers: the unit, and the tests for maps, characters and infinitesimal maps. -/
import Derived.Test.YtbpicjmfbaaabaaMarks
namespace Go.Proofs.Ytbpicjmfbaaabaa
open Go.RowKit

def unitMap : List Int := 1 :: List.replicate 37 0

set_option maxHeartbeats 400000 in
theorem k_impl_UnitMap (w : World) : Calls Try.prog 10 #[] w (RetO (RS RI) w unitMap) := by
  go_enter Try.func10, Try.ntmps10
  go_wp2_with (at_make; refine wpList_makeI rfl _ _ 22 rfl 2 tI64 _ _ _ _ 38 rfl rfl rfl rfl (by omega) ?_; intro w1 hrow hb; have hc := hrow.cells 0 (.int .i64 0) rfl; have hfz := hrow.frozen 0; have hst := (hrow.store 0 (.int .i64 1)).1; have hb' : Below w.heap.size w (w1.setCell ⟨w.heap.size, 0, none⟩ (.int .i64 1)) := hb.setCell (Nat.le_refl _) _; rw [map_set_int] at hst; clear hrow hb)
  go_ret
  exact ⟨_, rfl, Row.OwnI (xs := unitMap) hst (by decide) (fun g hg => by cases hg; exact Nat.le_refl _), hb'⟩

set_option maxHeartbeats 400000 in
theorem c_spec_l07Unit (w : World) : Calls Try.prog 25 #[] w (RetO (RS RI) w unitMap) := by
  go_enter Try.func25, Try.ntmps25
  go_wp2_with (at_make; refine wpList_makeI rfl _ _ 22 rfl 2 tI64 _ _ _ _ 38 rfl rfl rfl rfl (by omega) ?_; intro w1 hrow hb; have hc := hrow.cells 0 (.int .i64 0) rfl; have hfz := hrow.frozen 0; have hst := (hrow.store 0 (.int .i64 1)).1; have hb' : Below w.heap.size w (w1.setCell ⟨w.heap.size, 0, none⟩ (.int .i64 1)) := hb.setCell (Nat.le_refl _) _; rw [map_set_int] at hst; clear hrow hb)
  go_ret
  exact ⟨_, rfl, Row.OwnI (xs := unitMap) hst (by decide) (fun g hg => by cases hg; exact Nat.le_refl _), hb'⟩

set_option maxHeartbeats 400000 in
theorem k_spec_UnitMap (w : World) : Calls Try.prog 9 #[] w (RetO (RS RI) w unitMap) := by
  go_enter Try.func9, Try.ntmps9
  go_wp2_with fail
  refine (c_spec_l07Unit w).mono ?_
  rintro e w1 ⟨v, rfl, h1, h2⟩
  go_wp2_with fail
  go_ret
  exact ⟨v, rfl, h1, h2⟩

theorem k_impl_IsMap (v : Value) (xs : List Int) (w : World) (h : Rd (RS RI) w [v] xs) :
    Calls Try.prog 16 #[v] w (RetV w (.bool (isMap xs))) := (c_impl_IsMap v xs w h).mono fun _ _ h => h.toQ.toV
theorem k_spec_IsMap (v : Value) (xs : List Int) (w : World) (h : Rd (RS RI) w [v] xs) :
    Calls Try.prog 14 #[v] w (RetV w (.bool (isMap xs))) := (c_spec_IsMap v xs w h).mono fun _ _ h => h.toQ.toV

def isChar (xs : List Int) : Bool := isMap xs && xs.getD 0 0 == 1
def isInf (xs : List Int) : Bool := isMap xs && xs.getD 0 0 == 0

theorem isMap_pos {xs : List Int} (h : isMap xs = true) : 0 < xs.length := by
  unfold isMap at h
  simp at h
  omega

set_option maxHeartbeats 400000 in
theorem k_impl_IsCharacter (v : Value) (xs : List Int) (w : World) (h : Rd (RS RI) w [v] xs) :
    Calls Try.prog 18 #[v] w (RetV w (.bool (isChar xs))) := by
  obtain ⟨oa, c1, I1⟩ := h.ints
  obtain rfl := I1.val
  have m1 := I1.le; have m2 := I1.capLe
  unfold maxLen at m2
  unfold isChar
  cases hm : isMap xs
  · go_enter Try.func18, Try.ntmps18
    go_wp2_with (go_at_call 16; refine (c_impl_IsMap _ xs _ h).mono ?_; rintro e w' ⟨rfl, rfl⟩)
    go_ret
    exact ⟨rfl, Below.refl _ _⟩
  · have hp := isMap_pos hm
    obtain ⟨b, off, rfl, hb, hc⟩ := I1.get hp
    have g := hc 0 hp
    have e : xs.getD 0 0 = xs[0] := by simp [hp]
    rw [e]
    rw [Nat.add_zero] at g
    clear hc e
    go_enter Try.func18, Try.ntmps18
    go_wp2_with (go_at_call 16; refine (c_impl_IsMap _ xs _ h).mono ?_; rintro e w' ⟨rfl, rfl⟩)
    go_ret
    exact ⟨rfl, Below.refl _ _⟩
set_option maxHeartbeats 400000 in
theorem k_spec_IsCharacter (v : Value) (xs : List Int) (w : World) (h : Rd (RS RI) w [v] xs) :
    Calls Try.prog 17 #[v] w (RetV w (.bool (isChar xs))) := by
  obtain ⟨oa, c1, I1⟩ := h.ints
  obtain rfl := I1.val
  have m1 := I1.le; have m2 := I1.capLe
  unfold maxLen at m2
  unfold isChar
  cases hm : isMap xs
  · go_enter Try.func17, Try.ntmps17
    go_wp2_with (go_at_call 26; refine (c_spec_l07Is _ xs _ h).mono ?_; rintro e w' ⟨rfl, rfl⟩)
    go_ret
    exact ⟨rfl, Below.refl _ _⟩
  · have hp := isMap_pos hm
    obtain ⟨b, off, rfl, hb, hc⟩ := I1.get hp
    have g := hc 0 hp
    have e : xs.getD 0 0 = xs[0] := by simp [hp]
    rw [e]
    rw [Nat.add_zero] at g
    clear hc e
    go_enter Try.func17, Try.ntmps17
    go_wp2_with (go_at_call 26; refine (c_spec_l07Is _ xs _ h).mono ?_; rintro e w' ⟨rfl, rfl⟩)
    go_ret
    exact ⟨rfl, Below.refl _ _⟩
set_option maxHeartbeats 400000 in
theorem k_impl_IsInfinitesimal (v : Value) (xs : List Int) (w : World) (h : Rd (RS RI) w [v] xs) :
    Calls Try.prog 20 #[v] w (RetV w (.bool (isInf xs))) := by
  obtain ⟨oa, c1, I1⟩ := h.ints
  obtain rfl := I1.val
  have m1 := I1.le; have m2 := I1.capLe
  unfold maxLen at m2
  unfold isInf
  cases hm : isMap xs
  · go_enter Try.func20, Try.ntmps20
    go_wp2_with (go_at_call 16; refine (c_impl_IsMap _ xs _ h).mono ?_; rintro e w' ⟨rfl, rfl⟩)
    go_ret
    exact ⟨rfl, Below.refl _ _⟩
  · have hp := isMap_pos hm
    obtain ⟨b, off, rfl, hb, hc⟩ := I1.get hp
    have g := hc 0 hp
    have e : xs.getD 0 0 = xs[0] := by simp [hp]
    rw [e]
    rw [Nat.add_zero] at g
    clear hc e
    go_enter Try.func20, Try.ntmps20
    go_wp2_with (go_at_call 16; refine (c_impl_IsMap _ xs _ h).mono ?_; rintro e w' ⟨rfl, rfl⟩)
    go_ret
    exact ⟨rfl, Below.refl _ _⟩
set_option maxHeartbeats 400000 in
theorem k_spec_IsInfinitesimal (v : Value) (xs : List Int) (w : World) (h : Rd (RS RI) w [v] xs) :
    Calls Try.prog 19 #[v] w (RetV w (.bool (isInf xs))) := by
  obtain ⟨oa, c1, I1⟩ := h.ints
  obtain rfl := I1.val
  have m1 := I1.le; have m2 := I1.capLe
  unfold maxLen at m2
  unfold isInf
  cases hm : isMap xs
  · go_enter Try.func19, Try.ntmps19
    go_wp2_with (go_at_call 26; refine (c_spec_l07Is _ xs _ h).mono ?_; rintro e w' ⟨rfl, rfl⟩)
    go_ret
    exact ⟨rfl, Below.refl _ _⟩
  · have hp := isMap_pos hm
    obtain ⟨b, off, rfl, hb, hc⟩ := I1.get hp
    have g := hc 0 hp
    have e : xs.getD 0 0 = xs[0] := by simp [hp]
    rw [e]
    rw [Nat.add_zero] at g
    clear hc e
    go_enter Try.func19, Try.ntmps19
    go_wp2_with (go_at_call 26; refine (c_spec_l07Is _ xs _ h).mono ?_; rintro e w' ⟨rfl, rfl⟩)
    go_ret
    exact ⟨rfl, Below.refl _ _⟩
end Go.Proofs.Ytbpicjmfbaaabaa
