/- CutAbove: both programs. -/
import Derived.Test.YtmeijcgclllldaaCut
import Derived.Test.YtmeijcgclllldaaLabOf
namespace Go.Proofs.Ytmeijcgclllldaa
open Go.RowKit

/-- What CutAbove returns: trunk, branch, code. -/
def cutOf (t : List Int) (node : Int) : (List Int × List Int) × Int :=
  if lev8 t = true then (if inR node 1 ((t.length : Int) - 1) = true then ((canon (cutT (canon t) node.toNat), canon (cutB (canon t) node.toNat)), 0) else (([], []), 2)) else (([], []), 1)

theorem cutOf_bad {t : List Int} {node : Int} (h : lev8 t = false) : cutOf t node = (([], []), 1) := by unfold cutOf; rw [if_neg (by simp [h])]
theorem cutOf_range {t : List Int} {node : Int} (h : lev8 t = true) (h2 : inR node 1 ((t.length : Int) - 1) = false) : cutOf t node = (([], []), 2) := by unfold cutOf; rw [if_pos h, if_neg (by simp [h2])]
theorem cutOf_ok {t : List Int} {m : Nat} (h : lev8 t = true) (h2 : inR (m : Int) 1 ((t.length : Int) - 1) = true) : cutOf t m = ((canon (cutT (canon t) m), canon (cutB (canon t) m)), 0) := by unfold cutOf; rw [if_pos h, if_pos h2]; rfl

theorem cutOf_cnt (t : List Int) (node : Int) : cnt_I (cutOf t node).1.1 ≤ 1048576 ∧ cnt_I (cutOf t node).1.2 ≤ 1048576 := by
  unfold cutOf cnt_I
  by_cases h : lev8 t = true
  · rw [if_pos h]
    by_cases h2 : inR node 1 ((t.length : Int) - 1) = true
    · rw [if_pos h2]
      have h3 := lev8_canon h
      have h4 := canon_len (lev8_lev h)
      unfold inR at h2
      simp only [Bool.and_eq_true, decide_eq_true_eq] at h2
      have h5 := cuts_lev h3 (n := node.toNat) (by omega) (by omega)
      have h6 := lev8_len h5.1
      have h7 := lev8_len h5.2
      rw [← canon_len (lev8_lev h5.1)] at h6
      rw [← canon_len (lev8_lev h5.2)] at h7
      exact ⟨Nat.le_trans h6 (by decide), Nat.le_trans h7 (by decide)⟩
    · rw [if_neg h2]; exact ⟨by simp, by simp⟩
  · rw [if_neg h]; exact ⟨by simp, by simp⟩

set_option maxRecDepth 100000 in
set_option maxHeartbeats 2000000 in
theorem k_impl_CutAbove (v : Value) (node : Int) (t : List Int) (w : World) (h : Rd (RS RI) w [v] t) (hnode : In64 node) :
    Calls Try.prog 17 #[v, .int .i64 node] w (RetOOC (RS RI) (RS RI) w (cutOf t node).1.1 (cutOf t node).1.2 (cutOf t node).2) := by
  have hlv := c_impl_IsLevels v t w h
  have hln := c_impl_length v t w h
  have hir := c_impl_inRange node 1 ((t.length : Int) - 1) w
  have hval := h.val
  obtain ⟨oa, c1, rfl, m1, m2⟩ := hval
  unfold maxLen at m2
  have hw1 : IntKind.i64.wrap ((t.length : Int) - 1) = (t.length : Int) - 1 := IntWalk.i64_in _ (by omega)
  cases h8 : lev8 t
  · have hr := Lib.hid (cutOf_bad (node := node) h8)
    rw [h8] at hlv
    go_enter Try.func17, Try.ntmps17
    go_wp2_with (go_at_call 55; refine hlv.mono ?_; rintro e w' ⟨rfl, rfl⟩)
    go_ret3
    exact ⟨_, _, w.heap.size, by rw [hr.out]; rfl, ⟨Nat.le_refl _, Nat.le_refl _⟩, by rw [hr.out]; exact Own.nil _ _, by rw [hr.out]; exact Own.nil _ _, Below.refl _ _⟩
  · rw [h8] at hlv
    cases hin : inR node 1 ((t.length : Int) - 1)
    · have hr := Lib.hid (cutOf_range h8 hin)
      rw [hin] at hir
      go_enter Try.func17, Try.ntmps17
      go_wp2_with (first | (go_at_call 55; refine hlv.mono ?_; rintro e w' ⟨rfl, rfl⟩) | (go_at_call 57; refine hln.mono ?_; rintro e w' ⟨rfl, rfl⟩) | (go_at_call 56; refine hir.mono ?_; rintro e w' ⟨rfl, rfl⟩))
      go_ret3
      exact ⟨_, _, w.heap.size, by rw [hr.out]; rfl, ⟨Nat.le_refl _, Nat.le_refl _⟩, by rw [hr.out]; exact Own.nil _ _, by rw [hr.out]; exact Own.nil _ _, Below.refl _ _⟩
    · rw [hin] at hir
      have hin2 := hin
      unfold inR at hin2
      simp only [Bool.and_eq_true, decide_eq_true_eq] at hin2
      obtain ⟨m, rfl⟩ : ∃ m : Nat, node = m := ⟨node.toNat, by omega⟩
      have hr := Lib.hid (cutOf_ok h8 hin)
      have hl8 := lev8_len h8
      have hcn := c_impl_canonical 13 _ t w h (lev8_lev h8) (by omega) (by omega)
      have hc8 := lev8_canon h8
      have hcl := canon_len (lev8_lev h8)
      obtain ⟨ct, hct⟩ : ∃ ct, ct = canon t := ⟨_, rfl⟩
      rw [← hct] at hcn hc8 hcl hr
      have HCU : Hid (∀ W v, Rd (RS RI) W [v] ct → Calls Try.prog 58 #[v, .int .i64 m] W (RetOO (RS RI) (RS RI) W (canon (cutT ct m)) (canon (cutB ct m)))) := Lib.hid (fun W v r => c_impl_cutAbove v ct m W r hc8 (by omega) (by omega))
      clear hct hcl hc8 h8 hin
      go_enter Try.func17, Try.ntmps17
      go_wp2_with (first | (go_at_call 55; refine hlv.mono ?_; rintro e w' ⟨rfl, rfl⟩) | (go_at_call 57; refine hln.mono ?_; rintro e w' ⟨rfl, rfl⟩) | (go_at_call 56; refine hir.mono ?_; rintro e w' ⟨rfl, rfl⟩) | (go_at_call 59; refine hcn.mono ?_; rintro e w1 ⟨u, rfl, o1, b1⟩) | (go_at_call 58; refine (HCU.out _ _ o1.rd).mono ?_; rintro e w2 ⟨u1, u2, mid, rfl, ⟨q1, q2⟩, oa1, oa2, b2⟩))
      go_ret3
      have s1 := b1.size
      exact ⟨_, _, mid, by rw [hr.out]; rfl, ⟨by omega, q2⟩, by rw [hr.out]; exact oa1.mono s1 (Nat.le_refl _), by rw [hr.out]; exact oa2, b1.trans (b2.mono s1)⟩

set_option maxRecDepth 100000 in
set_option maxHeartbeats 2000000 in
theorem k_spec_CutAbove (v : Value) (node : Int) (t : List Int) (w : World) (h : Rd (RS RI) w [v] t) (hnode : In64 node) (hsz : t.length ≤ 1048576) :
    Calls Try.prog 15 #[v, .int .i64 node] w (RetOOC (RS RI) (RS RI) w (cutOf t node).1.1 (cutOf t node).1.2 (cutOf t node).2) := by
  have hlv := c_spec_l03Is v t w h (by omega)
  have HIR : Hid (∀ W : World, Calls Try.prog 52 #[.int .i64 node, .int .i64 1, .int .i64 ((t.length : Int) - 1)] W (RetS W (.bool (inR node 1 ((t.length : Int) - 1))))) := Lib.hid (fun W => c_spec_l01In node 1 ((t.length : Int) - 1) W)
  have hval := h.val
  obtain ⟨oa, c1, rfl, m1, m2⟩ := hval
  unfold maxLen at m2
  have hw1 : IntKind.i64.wrap ((t.length : Int) - 1) = (t.length : Int) - 1 := IntWalk.i64_in _ (by omega)
  cases h8 : lev8 t
  · have hr := Lib.hid (cutOf_bad (node := node) h8)
    rw [h8] at hlv
    go_enter Try.func15, Try.ntmps15
    go_wp2_with (go_at_call 51; refine hlv.mono ?_; rintro e w' ⟨rfl, nd, rfl⟩)
    go_ret3
    exact ⟨_, _, w.heap.size, by rw [hr.out]; rfl, ⟨Nat.le_refl _, Nat.le_refl _⟩, by rw [hr.out]; exact Own.nil _ _, by rw [hr.out]; exact Own.nil _ _, Below.drewN _ _ _⟩
  · rw [h8] at hlv
    cases hin : inR node 1 ((t.length : Int) - 1)
    · have hr := Lib.hid (cutOf_range h8 hin)
      rw [hin] at HIR
      go_enter Try.func15, Try.ntmps15
      go_wp2_with (first | (go_at_call 51; refine hlv.mono ?_; rintro e w' ⟨rfl, nd, rfl⟩) | (go_at_call 52; refine (HIR.out _).mono ?_; rintro e w' ⟨rfl, rfl⟩))
      go_ret3
      exact ⟨_, _, w.heap.size, by rw [hr.out]; rfl, ⟨Nat.le_refl _, Nat.le_refl _⟩, by rw [hr.out]; exact Own.nil _ _, by rw [hr.out]; exact Own.nil _ _, Below.drewN _ _ _⟩
    · rw [hin] at HIR
      have hin2 := hin
      unfold inR at hin2
      simp only [Bool.and_eq_true, decide_eq_true_eq] at hin2
      obtain ⟨m, rfl⟩ : ∃ m : Nat, node = m := ⟨node.toNat, by omega⟩
      have hr := Lib.hid (cutOf_ok h8 hin)
      have hl8 := lev8_len h8
      have HCN : Hid (∀ nd : Nat, Calls Try.prog 54 #[.slice oa t.length c1] (w.drewN nd) (RetO (RS RI) (w.drewN nd) (canon t))) := Lib.hid (fun nd => c_spec_l03Canon 8 _ t _ (h.of_heap rfl) (lev8_lev h8) (by omega) (by omega))
      have hc8 := lev8_canon h8
      have hcl := canon_len (lev8_lev h8)
      obtain ⟨ct, hct⟩ : ∃ ct, ct = canon t := ⟨_, rfl⟩
      rw [← hct] at HCN hc8 hcl hr
      have HCU : Hid (∀ W v, Rd (RS RI) W [v] ct → Calls Try.prog 53 #[v, .int .i64 m] W (RetOO (RS RI) (RS RI) W (canon (cutT ct m)) (canon (cutB ct m)))) := Lib.hid (fun W v r => c_spec_l04Cut v ct m W r hc8 (by omega) (by omega))
      clear hct hcl hc8 h8 hin h
      go_enter Try.func15, Try.ntmps15
      go_wp2_with (first | (go_at_call 51; refine hlv.mono ?_; rintro e w' ⟨rfl, nd, rfl⟩) | (go_at_call 52; refine (HIR.out _).mono ?_; rintro e w' ⟨rfl, rfl⟩) | (go_at_call 54; refine (HCN.out _).mono ?_; rintro e w1 ⟨u, rfl, o1, b1⟩) | (go_at_call 53; refine (HCU.out _ _ o1.rd).mono ?_; rintro e w2 ⟨u1, u2, mid, rfl, ⟨q1, q2⟩, oa1, oa2, b2⟩))
      go_ret3
      have b1' := Below.of_heap_eq b1 rfl rfl rfl rfl (w := w)
      have s1 := b1'.size
      exact ⟨_, _, mid, by rw [hr.out]; rfl, ⟨by omega, q2⟩, by rw [hr.out]; exact oa1.mono s1 (Nat.le_refl _), by rw [hr.out]; exact oa2, b1'.trans (b2.mono s1)⟩
end Go.Proofs.Ytmeijcgclllldaa
