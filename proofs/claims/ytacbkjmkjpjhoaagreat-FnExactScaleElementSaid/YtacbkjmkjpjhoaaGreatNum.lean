/- The small functions on numbers and lists of numbers. -/
import Derived.Test.YtacbkjmkjpjhoaaGreatBase
set_option linter.unusedSimpArgs false
set_option linter.unusedVariables false
namespace Go.Proofs.YtacbkjmkjpjhoaaGreat
open Go.RowKit

def inR (n lo hi : Int) : Bool := decide (lo ≤ n) && decide (n ≤ hi)

set_option maxRecDepth 100000 in
set_option maxHeartbeats 400000 in
theorem c_impl_inRange (n lo hi : Int) (w : World) :
    Calls Tryz.prog 100 #[.int .i64 n, .int .i64 lo, .int .i64 hi] w (RetS w (.bool (inR n lo hi))) := by
  unfold inR
  by_cases h1 : lo ≤ n <;> by_cases h2 : n ≤ hi
  all_goals
    go_enter Tryz.func100, Tryz.ntmps100
    go_wp2
    go_ret
    exact ⟨by simp [*], rfl⟩

set_option maxRecDepth 100000 in
set_option maxHeartbeats 400000 in
theorem c_spec_l01In (n lo hi : Int) (w : World) :
    Calls Tryz.prog 49 #[.int .i64 n, .int .i64 lo, .int .i64 hi] w (RetS w (.bool (inR n lo hi))) := by
  unfold inR
  by_cases h1 : lo ≤ n <;> by_cases h2 : n ≤ hi
  all_goals
    go_enter Tryz.func49, Tryz.ntmps49
    go_wp2
    go_ret
    exact ⟨by simp [*], rfl⟩

theorem take_succ_eq {xs ys : List Int} {k : Nat} (h1 : k < xs.length) (h2 : k < ys.length) (h : xs.take k = ys.take k) (he : xs[k] = ys[k]) : xs.take (k + 1) = ys.take (k + 1) := by
  rw [List.take_succ_eq_append_getElem h1, List.take_succ_eq_append_getElem h2, h, he]

set_option maxRecDepth 100000 in
set_option maxHeartbeats 400000 in
theorem c_laws_eqInt64S (v1 v2 : Value) (xs ys : List Int) (w : World) (h1 : Rd (RS RI) w [v1] xs) (h2 : Rd (RS RI) w [v2] ys) :
    Calls Tryz.prog 153 #[v1, v2] w (RetQ w (.bool (decide (xs = ys)))) := by
  obtain ⟨oa, c1, I1⟩ := h1.ints
  obtain ⟨ob, c2, I2⟩ := h2.ints
  obtain rfl := I1.val
  obtain rfl := I2.val
  have m1 := I1.le; have m2 := I1.capLe; have m3 := I2.le; have m4 := I2.capLe
  unfold maxLen at m2 m4
  by_cases hl : xs.length = ys.length
  · have Hl := Lib.hid hl
    have hlb : ((xs.length : Int) != (ys.length : Int)) = false := by simp [hl]
    clear hl
    go_enter Tryz.func153, Tryz.ntmps153
    go_wp2
    go_loopw [5] (fun i wr => ∃ k : Nat, k ≤ xs.length ∧ i = .int .i64 k ∧ xs.take k = ys.take k ∧ ∃ n, wr = w.drewN n) (fun i _ => xs.length - (intOf i).toNat)
    case atStart => exact ⟨0, Nat.zero_le _, rfl, by simp, 0, rfl⟩
    case round =>
      obtain ⟨k, hk, rfl, heq, n, rfl⟩ := hrel
      have Heq := Lib.hid heq
      clear heq
      by_cases hlt : k < xs.length
      · have hlt2 : k < ys.length := by rw [← Hl.out]; exact hlt
        obtain ⟨b1, o1, rfl, hb1, hc1⟩ := I1.get hlt
        obtain ⟨b2, o2, rfl, hb2, hc2⟩ := I2.get hlt2
        have g1 := hc1 k hlt
        have g2 := hc2 k hlt2
        clear hc1 hc2
        by_cases he : xs[k] = ys[k]
        · have hne : (xs[k] != ys[k]) = false := by simp [he]
          have He := Lib.hid he
          clear he
          go_wp2
          go_quiet (fail)
          go_wp2
          go_roundw
          case rel => exact ⟨k + 1, by omega, by go_num, take_succ_eq hlt hlt2 Heq.out He.out, _, rfl⟩
          case measure => simp [intOf]; omega
        · have hne : (xs[k] != ys[k]) = true := by simp [he]
          go_wp2
          go_quiet (fail)
          go_wp2
          go_ret
          exact ⟨by rw [decide_eq_false (fun e => he (by subst e; rfl))]; rfl, drewN2 _ _ _⟩
      · go_wp2
        go_ret
        refine ⟨?_, _, rfl⟩
        have h := Heq.out
        rw [List.take_of_length_le (by omega), List.take_of_length_le (by rw [← Hl.out]; omega)] at h
        rw [decide_eq_true h]; rfl
  · have hlb : ((xs.length : Int) != (ys.length : Int)) = true := by simp; omega
    go_enter Tryz.func153, Tryz.ntmps153
    go_wp2
    go_ret
    exact ⟨by rw [decide_eq_false (fun e => hl (by subst e; rfl))]; rfl, 0, rfl⟩

end Go.Proofs.YtacbkjmkjpjhoaaGreat
