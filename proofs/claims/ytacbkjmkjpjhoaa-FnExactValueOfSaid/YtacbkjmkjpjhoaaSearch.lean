/- slices.BinarySearchFunc at lists of trees: the walk; indexIn. -/
import Derived.Test.YtacbkjmkjpjhoaaForW
import Derived.WalkArith
import Derived.Laws.Shifts
set_option linter.unusedSimpArgs false
set_option linter.unusedVariables false
namespace Go.Proofs.Ytacbkjmkjpjhoaa
open Go.RowKit

theorem run_half (lo hi m : Nat) (h : m = (lo + hi) / 2) (w : World) : (binOp .shr 70 (.int .u64 ((lo : Int) + (hi : Int))) (.int .u64 1)).run Try.prog w = .ok (.int .u64 m) w := by
  have u70 := run_underlying Try.underlying70
  have e1 : ((lo : Int) + (hi : Int)) / 2 = (m : Int) := by omega
  have e2 : Op.shift .shr .u64 ((lo : Int) + (hi : Int)) .u64 1 = (pure (.int .u64 (m : Int)) : Sem Value) := by
    rw [shift_shr_any _ _ _ _ (by decide), ← e1]; rfl
  simp [binOp, u70, e2]

set_option maxRecDepth 100000 in
set_option maxHeartbeats 4000000 in
theorem c_BinarySearch (v1 v2 : Value) (L : List (List Int)) (t : List Int) (i : Nat) (w : World) (h1 : Rd (RS (RS RI)) w [v1] L) (h2 : Rd (RS RI) w [v2] t) (hsz : L.length ≤ 1000000000) (hi : i < L.length)
    (hlo : ∀ k (h : k < L.length), k < i → cmpT L[k] t < 0) (hhi : ∀ k (h : k < L.length), i ≤ k → 0 ≤ cmpT L[k] t) (heq : cmpT L[i] t = 0) :
    Calls Try.prog 53 #[v1, v2, .func (.func 42) #[] #[]] w (RetS w (.tuple #[.int .i64 i, .bool true])) := by
  obtain ⟨oa, ca, L1⟩ := h1.lists
  obtain rfl := L1.val
  have m1 := L1.le; have m2 := L1.capLe
  unfold maxLen at m2
  obtain ⟨ob, cb, rfl, m3, m4⟩ := h2.val
  have HL1 := Lib.hid L1
  have HLO := Lib.hid hlo
  have HHI := Lib.hid hhi
  have H2 := Lib.hid h2
  have HEQ := Lib.hid heq
  clear L1 h1 hlo hhi h2 heq
  go_enter Try.func53, Try.ntmps53
  go_wp2_with fail
  go_loop [9, 10] (fun s9 s10 => ∃ lo hi : Nat, lo ≤ i ∧ i ≤ hi ∧ hi ≤ L.length ∧ s9 = .int .i64 lo ∧ s10 = .int .i64 hi) (fun s9 s10 => (intOf s10).toNat - (intOf s9).toNat)
  case atStart => exact ⟨0, L.length, Nat.zero_le _, Nat.le_of_lt hi, Nat.le_refl _, rfl, rfl⟩
  case round =>
    obtain ⟨lo, hi', h1, h2, h3, rfl, rfl⟩ := hrel
    by_cases hlt : lo < hi'
    · have hmn : (lo + hi') / 2 < L.length := by omega
      obtain ⟨b1, o1, rfl, hb1, hc1⟩ := HL1.out.get hmn
      obtain ⟨oi, ci, g1, hrd1, q1, q2⟩ := hc1 _ hmn
      have hcall := c_impl_compareTrees _ _ _ _ w hrd1 H2.out
      obtain ⟨z, hz⟩ : ∃ z, z = cmpT L[(lo + hi') / 2] t := ⟨_, rfl⟩
      obtain ⟨x1, hx1⟩ : ∃ x, x = L[(lo + hi') / 2].length := ⟨_, rfl⟩
      rw [← hz] at hcall
      rw [← hx1] at g1 q1 hcall
      have HC := Lib.hid hcall
      have i1 : (0 : Int) ≤ ((lo : Int) + (hi' : Int)) / 2 := by omega
      have i2 : ((lo : Int) + (hi' : Int)) / 2 < (L.length : Int) := by omega
      by_cases hc : z < 0
      · have hmi : (lo + hi') / 2 < i := Nat.lt_of_not_le (fun h => by have := HHI.out _ hmn h; omega)
        clear hc1 hrd1 hcall hx1 hz
        go_wp2_with (go_at_call 42; refine HC.out.mono ?_; rintro e w' ⟨rfl, rfl⟩)
        go_round
        case rel => exact ⟨(lo + hi') / 2 + 1, hi', by omega, by omega, by omega, by congr 1, rfl⟩
        case measure => simp [intOf]; omega
      · have hmi : i ≤ (lo + hi') / 2 := Nat.le_of_not_lt (fun h => by have := HLO.out _ hmn h; omega)
        clear hc1 hrd1 hcall hx1 hz
        go_wp2_with (go_at_call 42; refine HC.out.mono ?_; rintro e w' ⟨rfl, rfl⟩)
        go_round
        case rel => exact ⟨lo, (lo + hi') / 2, by omega, by omega, by omega, rfl, by congr 1⟩
        case measure => simp [intOf]; omega
    · obtain rfl : lo = i := by omega
      obtain ⟨b1, o1, rfl, hb1, hc1⟩ := HL1.out.get hi
      obtain ⟨oi, ci, g1, hrd1, q1, q2⟩ := hc1 _ hi
      have hcall := c_impl_compareTrees _ _ _ _ w hrd1 H2.out
      rw [HEQ.out] at hcall
      obtain ⟨x1, hx1⟩ : ∃ x, x = L[lo].length := ⟨_, rfl⟩
      rw [← hx1] at g1 q1 hcall
      have HC := Lib.hid hcall
      clear hc1 hrd1 hcall hx1
      go_wp2_with (go_at_call 42; refine HC.out.mono ?_; rintro e w' ⟨rfl, rfl⟩)
      go_ret2
      exact ⟨rfl, rfl⟩
end Go.Proofs.Ytacbkjmkjpjhoaa
