/- Labellings of trees: both programs. -/
import Derived.Test.YtmeijcgclllldaaSymS
import Derived.Test.YtmeijcgclllldaaLabPos
namespace Go.Proofs.Ytmeijcgclllldaa
open Go.RowKit

theorem symF_in (n : Nat) (t : List Int) : In64 (symF n t) := by
  cases n with
  | zero => exact ⟨by simp [symF], by simp [symF]⟩
  | succ n =>
    unfold symF
    generalize forest (brs (canon t)) = bs
    cases bs.length with
    | zero => exact ⟨by simp [symTo], by simp [symTo]⟩
    | succ k => exact in64_wrap _

def labOf (t : List Int) : Int × Int := if lev8 t = true then (wrap64 ((wrap64 ((facW t.length).tdiv (symF 9 t))).tdiv (densF 9 t)), 0) else (0, 1)

set_option maxRecDepth 100000 in
set_option maxHeartbeats 2000000 in
theorem k_impl_LabellingsOf (v : Value) (t : List Int) (w : World) (h : Rd (RS RI) w [v] t) :
    Calls Try.prog 46 #[v] w (RetV w (.tuple #[.int .i64 (labOf t).1, .int .i64 (labOf t).2])) := by
  have hlv := c_impl_IsLevels v t w h
  by_cases h8 : lev8 t = true
  · have hl := lev8_lev h8
    have hl8 := lev8_len h8
    obtain ⟨p1, p2⟩ := labPos h8
    have HF : Hid (∀ w', Below w.heap.size w w' → Calls Try.prog 57 #[v] w' fun e w'' => e = .returned (.int .i64 t.length) ∧ Below w.heap.size w w'') := Lib.hid (fun w' hb => (c_impl_length v t w' (h.below hb (Nat.le_refl _))).mono (by rintro e w'' ⟨rfl, rfl⟩; exact ⟨rfl, hb⟩))
    have HG : Hid (∀ w', Below w.heap.size w w' → Calls Try.prog 78 #[.int .i64 t.length] w' fun e w'' => e = .returned (.int .i64 (facW t.length)) ∧ Below w.heap.size w w'') := Lib.hid (fun w' hb => (c_impl_factorial t.length (by omega) w').mono (by rintro e w'' ⟨rfl, rfl⟩; exact ⟨rfl, hb⟩))
    have HS : Hid (∀ w', Below w.heap.size w w' → Calls Try.prog 79 #[v] w' fun e w'' => e = .returned (.int .i64 (symF 9 t)) ∧ Below w.heap.size w w'') := Lib.hid (fun w' hb => (c_impl_symmetry 9 v t w' (h.below hb (Nat.le_refl _)) hl (by omega) (by omega)).mono (by rintro e w'' ⟨rfl, b⟩; exact ⟨rfl, hb.trans (b.mono hb.size)⟩))
    have HD : Hid (∀ w', Below w.heap.size w w' → Calls Try.prog 80 #[v] w' fun e w'' => e = .returned (.int .i64 (densF 9 t)) ∧ Below w.heap.size w w'') := Lib.hid (fun w' hb => (c_impl_density 9 v t w' (h.below hb (Nat.le_refl _)) hl (by omega) (by omega)).mono (by rintro e w'' ⟨rfl, b⟩; exact ⟨rfl, hb.trans (b.mono hb.size)⟩))
    have hr : Hid (labOf t = (wrap64 ((wrap64 ((facW t.length).tdiv (symF 9 t))).tdiv (densF 9 t)), 0)) := Lib.hid (by unfold labOf; rw [if_pos h8])
    have hsb := symF_in 9 t
    obtain ⟨f, hf⟩ : ∃ f, f = facW t.length := ⟨_, rfl⟩
    obtain ⟨s, hs⟩ : ∃ s, s = symF 9 t := ⟨_, rfl⟩
    obtain ⟨d, hd⟩ : ∃ d, d = densF 9 t := ⟨_, rfl⟩
    rw [← hf] at HG hr
    rw [← hs] at HS hr p1
    rw [← hd] at HD hr p2
    rw [h8] at hlv
    have e1 : (s == 0) = false := by simp; omega
    have e2 : (d == 0) = false := by simp; omega
    have e3 : ¬ s = 0 := by omega
    have e4 : ¬ d = 0 := by omega
    clear h hf hs hd
    go_enter Try.func46, Try.ntmps46
    go_wp2_with (go_at_call 55; refine hlv.mono ?_; rintro e w' ⟨rfl, rfl⟩)
    go_region_with (first
      | (go_at_call 57; refine (HF.out _ (by first | assumption | exact Below.refl _ _ | exact Below.drewN _ _ 1 | exact Below.trans ‹_› (Below.drewN _ _ 1))).mono ?_; rintro e wL ⟨rfl, bL⟩)
      | (go_at_call 78; refine (HG.out _ (by first | assumption | exact Below.refl _ _ | exact Below.drewN _ _ 1 | exact Below.trans ‹_› (Below.drewN _ _ 1))).mono ?_; rintro e wF ⟨rfl, bF⟩)
      | (go_at_call 79; refine (HS.out _ (by first | assumption | exact Below.refl _ _ | exact Below.drewN _ _ 1 | exact Below.trans ‹_› (Below.drewN _ _ 1))).mono ?_; rintro e wS ⟨rfl, bS⟩)
      | (go_at_call 80; refine (HD.out _ (by first | assumption | exact Below.refl _ _ | exact Below.drewN _ _ 1 | exact Below.trans ‹_› (Below.drewN _ _ 1))).mono ?_; rintro e wD ⟨rfl, bD⟩))
    all_goals
      go_wp2_with fail
      go_ret2
      refine ⟨?_, by assumption⟩
      rw [hr.out]
      simp only [IntWalk.i64_left]
      rfl
  · have h8' : lev8 t = false := by simpa using h8
    have hr : Hid (labOf t = (0, 1)) := Lib.hid (by unfold labOf; rw [if_neg h8])
    rw [h8'] at hlv
    go_enter Try.func46, Try.ntmps46
    go_wp2_with (go_at_call 55; refine hlv.mono ?_; rintro e w' ⟨rfl, rfl⟩)
    go_ret2
    exact ⟨by rw [hr.out]; rfl, Below.refl _ _⟩
set_option maxRecDepth 100000 in
set_option maxHeartbeats 2000000 in
theorem k_spec_LabellingsOf (v : Value) (t : List Int) (w : World) (h : Rd (RS RI) w [v] t) (hsz : t.length ≤ 1048576) :
    Calls Try.prog 45 #[v] w (RetV w (.tuple #[.int .i64 (labOf t).1, .int .i64 (labOf t).2])) := by
  obtain ⟨oa, c1, rfl, m1, m2⟩ := h.val
  unfold maxLen at m2
  have hlv := c_spec_l03Is _ t w h (by omega)
  by_cases h8 : lev8 t = true
  · have hl := lev8_lev h8
    have hl8 := lev8_len h8
    obtain ⟨p1, p2⟩ := labPos h8
    have HG : Hid (∀ w', Below w.heap.size w w' → Calls Try.prog 75 #[.int .i64 t.length] w' fun e w'' => e = .returned (.int .i64 (facW t.length)) ∧ Below w.heap.size w w'') := Lib.hid (fun w' hb => (c_spec_l03Factorial t.length (by omega) w').mono (by rintro e w'' ⟨rfl, rfl⟩; exact ⟨rfl, hb⟩))
    have HS : Hid (∀ w', Below w.heap.size w w' → Calls Try.prog 76 #[.slice oa t.length c1] w' fun e w'' => e = .returned (.int .i64 (symF 9 t)) ∧ Below w.heap.size w w'') := Lib.hid (fun w' hb => (c_spec_l03Symmetry 9 _ t w' (h.below hb (Nat.le_refl _)) hl (by omega) (by omega)).mono (by rintro e w'' ⟨rfl, b⟩; exact ⟨rfl, hb.trans (b.mono hb.size)⟩))
    have HD : Hid (∀ w', Below w.heap.size w w' → Calls Try.prog 77 #[.slice oa t.length c1] w' fun e w'' => e = .returned (.int .i64 (densF 9 t)) ∧ Below w.heap.size w w'') := Lib.hid (fun w' hb => (c_spec_l03Density 9 _ t w' (h.below hb (Nat.le_refl _)) hl (by omega) (by omega)).mono (by rintro e w'' ⟨rfl, b⟩; exact ⟨rfl, hb.trans (b.mono hb.size)⟩))
    have hr : Hid (labOf t = (wrap64 ((wrap64 ((facW t.length).tdiv (symF 9 t))).tdiv (densF 9 t)), 0)) := Lib.hid (by unfold labOf; rw [if_pos h8])
    have hsb := symF_in 9 t
    obtain ⟨f, hf⟩ : ∃ f, f = facW t.length := ⟨_, rfl⟩
    obtain ⟨s, hs⟩ : ∃ s, s = symF 9 t := ⟨_, rfl⟩
    obtain ⟨d, hd⟩ : ∃ d, d = densF 9 t := ⟨_, rfl⟩
    rw [← hf] at HG hr
    rw [← hs] at HS hr p1
    rw [← hd] at HD hr p2
    rw [h8] at hlv
    have e1 : (s == 0) = false := by simp; omega
    have e2 : (d == 0) = false := by simp; omega
    have e3 : ¬ s = 0 := by omega
    have e4 : ¬ d = 0 := by omega
    clear h hf hs hd
    go_enter Try.func45, Try.ntmps45
    go_wp2_with (go_at_call 51; refine hlv.mono ?_; rintro e w' ⟨rfl, n0, rfl⟩)
    have hb0 : Below w.heap.size w (w.drewN n0) := Below.drewN _ _ _
    go_region_with (first
      | (go_at_call 75; refine (HG.out _ (by first | assumption | exact Below.refl _ _ | exact Below.drewN _ _ 1 | exact Below.trans ‹_› (Below.drewN _ _ 1))).mono ?_; rintro e wF ⟨rfl, bF⟩)
      | (go_at_call 76; refine (HS.out _ (by first | assumption | exact Below.refl _ _ | exact Below.drewN _ _ 1 | exact Below.trans ‹_› (Below.drewN _ _ 1))).mono ?_; rintro e wS ⟨rfl, bS⟩)
      | (go_at_call 77; refine (HD.out _ (by first | assumption | exact Below.refl _ _ | exact Below.drewN _ _ 1 | exact Below.trans ‹_› (Below.drewN _ _ 1))).mono ?_; rintro e wD ⟨rfl, bD⟩))
    all_goals
      go_wp2_with fail
      go_ret2
      refine ⟨?_, by assumption⟩
      rw [hr.out]
      simp only [IntWalk.i64_left]
      rfl
  · have h8' : lev8 t = false := by simpa using h8
    have hr : Hid (labOf t = (0, 1)) := Lib.hid (by unfold labOf; rw [if_neg h8])
    rw [h8'] at hlv
    go_enter Try.func45, Try.ntmps45
    go_wp2_with (go_at_call 51; refine hlv.mono ?_; rintro e w' ⟨rfl, n0, rfl⟩)
    go_ret2
    exact ⟨by rw [hr.out]; rfl, Below.drewN _ _ _⟩
end Go.Proofs.Ytmeijcgclllldaa
