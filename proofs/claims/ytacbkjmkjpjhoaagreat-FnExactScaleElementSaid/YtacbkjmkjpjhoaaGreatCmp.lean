/- Comparisons and copies of lists of numbers. -/
import Derived.Test.YtacbkjmkjpjhoaaGreatNum
import Derived.Test.YtacbkjmkjpjhoaaGreatSort
import Derived.Test.YtacbkjmkjpjhoaaGreatBase
import Derived.Test.YtacbkjmkjpjhoaaGreatMarks
set_option linter.unusedSimpArgs false
set_option linter.unusedVariables false
namespace Go.Proofs.YtacbkjmkjpjhoaaGreat
open Go.RowKit

theorem cmpL_step {xs ys : List Int} {k : Nat} (h1 : k < xs.length) (h2 : k < ys.length) :
    cmpL (xs.drop k) (ys.drop k) = if xs[k] < ys[k] then -1 else if ys[k] < xs[k] then 1 else cmpL (xs.drop (k + 1)) (ys.drop (k + 1)) := by
  rw [List.drop_eq_getElem_cons h1, List.drop_eq_getElem_cons h2]; rfl

theorem cmpL_endR {xs ys : List Int} {k : Nat} (h1 : k < xs.length) (h2 : ys.length ≤ k) : cmpL (xs.drop k) (ys.drop k) = 1 := by
  rw [List.drop_eq_getElem_cons h1, List.drop_of_length_le h2]; rfl

theorem cmpL_endL {xs ys : List Int} {k : Nat} (h1 : xs.length ≤ k) (h2 : k < ys.length) : cmpL (xs.drop k) (ys.drop k) = -1 := by
  rw [List.drop_eq_getElem_cons h2, List.drop_of_length_le h1]; rfl

theorem cmpL_end0 {xs ys : List Int} {k : Nat} (h1 : xs.length ≤ k) (h2 : ys.length ≤ k) : cmpL (xs.drop k) (ys.drop k) = 0 := by
  rw [List.drop_of_length_le h1, List.drop_of_length_le h2]; rfl

theorem drewN3 (w : World) (n m k : Nat) : ∃ j, ((w.drewN n).drewN m).drewN k = w.drewN j := ⟨_, by rw [World.drewN_drewN, World.drewN_drewN]⟩

/-- A quiet callee, from whatever draws. -/
theorem Calls.retQany {P : Program} {f : FuncId} {args : Array Value} {w : World} {v : Value} (n : Nat) (h : Calls P f args (w.drewN n) (RetQ (w.drewN n) v)) : Calls P f args (w.drewN n) fun e w'' => e = .returned v ∧ ∃ m, w'' = w.drewN m := Calls.retQ h

def cmpI (x y : Int) : Int := if x < y then -1 else if y < x then 1 else 0

set_option maxRecDepth 100000 in
set_option maxHeartbeats 400000 in
theorem c_isNaN (x : Int) (w : World) : Calls Tryz.prog 204 #[.int .i64 x] w (RetS w (.bool false)) := by
  have h : (x != x) = false := by simp
  go_enter Tryz.func204, Tryz.ntmps204
  go_wp2_with fail
  go_ret
  exact ⟨by simp, rfl⟩

set_option maxRecDepth 100000 in
set_option maxHeartbeats 400000 in
theorem c_cmpCompare (x y : Int) (w : World) : Calls Tryz.prog 157 #[.int .i64 x, .int .i64 y] w (RetS w (.int .i64 (cmpI x y))) := by
  unfold cmpI
  by_cases h1 : x < y
  · go_enter Tryz.func157, Tryz.ntmps157
    go_wp2_with (go_at_call 204; refine (c_isNaN _ _).mono ?_; rintro e w' ⟨rfl, rfl⟩)
    go_ret
    exact ⟨by simp, rfl⟩
  · by_cases h2 : y < x
    · go_enter Tryz.func157, Tryz.ntmps157
      go_wp2_with (go_at_call 204; refine (c_isNaN _ _).mono ?_; rintro e w' ⟨rfl, rfl⟩)
      go_ret
      exact ⟨by simp, rfl⟩
    · go_enter Tryz.func157, Tryz.ntmps157
      go_wp2_with (go_at_call 204; refine (c_isNaN _ _).mono ?_; rintro e w' ⟨rfl, rfl⟩)
      go_ret
      exact ⟨by simp, rfl⟩

set_option maxRecDepth 100000 in
set_option maxHeartbeats 1000000 in
theorem c_slicesCompare (v1 v2 : Value) (xs ys : List Int) (w : World) (h1 : Rd (RS RI) w [v1] xs) (h2 : Rd (RS RI) w [v2] ys) :
    Calls Tryz.prog 114 #[v1, v2] w (RetS w (.int .i64 (cmpL xs ys))) := by
  obtain ⟨oa, c1, I1⟩ := h1.ints
  obtain ⟨ob, c2, I2⟩ := h2.ints
  obtain rfl := I1.val
  obtain rfl := I2.val
  have m1 := I1.le; have m2 := I1.capLe; have m3 := I2.le; have m4 := I2.capLe
  unfold maxLen at m2 m4
  go_enter Tryz.func114, Tryz.ntmps114
  go_wp2_with fail
  go_loop [11] (fun i => ∃ k : Nat, k ≤ xs.length ∧ k ≤ ys.length ∧ i = .int .i64 k ∧ cmpL xs ys = cmpL (xs.drop k) (ys.drop k)) (fun i => xs.length - (intOf i).toNat)
  case atStart => exact ⟨0, Nat.zero_le _, Nat.zero_le _, rfl, by simp⟩
  case round =>
    obtain ⟨k, hk, hk2, rfl, he⟩ := hrel
    have He := Lib.hid he
    clear he
    by_cases hlt : k < xs.length
    · obtain ⟨b1, o1, rfl, hb1, hc1⟩ := I1.get hlt
      have g1 := hc1 k hlt
      clear hc1
      by_cases hlt2 : k < ys.length
      · obtain ⟨b2, o2, rfl, hb2, hc2⟩ := I2.get hlt2
        have g2 := hc2 k hlt2
        clear hc2
        have hs := cmpL_step hlt hlt2
        by_cases l1 : xs[k] < ys[k]
        · have hcI : cmpI xs[k] ys[k] = -1 := by simp [cmpI, l1]
          have Hs := Lib.hid hs
          have L1 := Lib.hid l1
          clear hs l1
          go_wp2_with (go_at_call 157; refine (c_cmpCompare _ _ _).mono ?_; rintro e w' ⟨rfl, rfl⟩)
          go_ret
          exact ⟨by (rw [He.out, Hs.out, if_pos L1.out] <;> rfl), rfl⟩
        · by_cases l2 : ys[k] < xs[k]
          · have hcI : cmpI xs[k] ys[k] = 1 := by simp [cmpI, l1, l2]
            have Hs := Lib.hid hs
            have L1 := Lib.hid l1
            have L2 := Lib.hid l2
            clear hs l1 l2
            go_wp2_with (go_at_call 157; refine (c_cmpCompare _ _ _).mono ?_; rintro e w' ⟨rfl, rfl⟩)
            go_ret
            exact ⟨by (rw [He.out, Hs.out, if_neg (show ¬ xs[k] < ys[k] by have := L1.out; omega), if_pos L2.out] <;> rfl), rfl⟩
          · have hcI : cmpI xs[k] ys[k] = 0 := by simp [cmpI, l1, l2]
            have Hs := Lib.hid hs
            have L1 := Lib.hid l1
            have L2 := Lib.hid l2
            clear hs l1 l2
            go_wp2_with (go_at_call 157; refine (c_cmpCompare _ _ _).mono ?_; rintro e w' ⟨rfl, rfl⟩)
            go_round
            case rel => exact ⟨k + 1, by omega, by omega, by go_num, by rw [He.out, Hs.out, if_neg (show ¬ xs[k] < ys[k] by have := L1.out; omega), if_neg (show ¬ ys[k] < xs[k] by have := L2.out; omega)]⟩
            case measure => simp [intOf]; omega
      · go_wp2_with fail
        go_ret
        exact ⟨by (rw [He.out, cmpL_endR hlt (by omega)] <;> rfl), rfl⟩
    · by_cases hlt2 : k < ys.length
      · go_wp2_with fail
        go_ret
        exact ⟨by (rw [He.out, cmpL_endL (by omega) hlt2] <;> rfl), rfl⟩
      · go_wp2_with fail
        go_ret
        exact ⟨by (rw [He.out, cmpL_end0 (by omega) (by omega)] <;> rfl), rfl⟩

set_option maxRecDepth 100000 in
set_option maxHeartbeats 400000 in
theorem c_impl_compareTrees (v1 v2 : Value) (xs ys : List Int) (w : World) (h1 : Rd (RS RI) w [v1] xs) (h2 : Rd (RS RI) w [v2] ys) :
    Calls Tryz.prog 136 #[v1, v2] w (RetS w (.int .i64 (cmpT xs ys))) := by
  obtain ⟨oa, c1, e1, m1, m2⟩ := h1.val
  obtain ⟨ob, c2, e2, m3, m4⟩ := h2.val
  subst e1; subst e2
  unfold maxLen at m2 m4
  by_cases hl : xs.length = ys.length
  · have hlb : ((xs.length : Int) != (ys.length : Int)) = false := by simp [hl]
    have Hl := Lib.hid hl
    clear hl
    go_enter Tryz.func136, Tryz.ntmps136
    go_wp2_with (go_at_call 114; refine (c_slicesCompare _ _ _ _ _ h2 h1).mono ?_; rintro e w' ⟨rfl, rfl⟩)
    go_ret
    exact ⟨by (unfold cmpT; rw [if_pos Hl.out] <;> rfl), rfl⟩
  · have hlb : ((xs.length : Int) != (ys.length : Int)) = true := by simp; omega
    have hw : IntKind.i64.wrap ((xs.length : Int) - (ys.length : Int)) = (xs.length : Int) - (ys.length : Int) := IntWalk.i64_in _ (by omega)
    go_enter Tryz.func136, Tryz.ntmps136
    go_wp2_with fail
    go_ret
    exact ⟨by unfold cmpT; rw [if_neg hl]; rfl, rfl⟩

set_option maxRecDepth 100000 in
set_option maxHeartbeats 400000 in
theorem c_impl_canonical1 (v1 v2 : Value) (xs ys : List Int) (w : World) (h1 : Rd (RS RI) w [v1] xs) (h2 : Rd (RS RI) w [v2] ys) :
    Calls Tryz.prog 113 #[v1, v2] w (RetS w (.int .i64 (cmpD xs ys))) := by
  obtain ⟨oa, c1, e1, m1, m2⟩ := h1.val
  obtain ⟨ob, c2, e2, m3, m4⟩ := h2.val
  subst e1; subst e2
  go_enter Tryz.func113, Tryz.ntmps113
  go_wp2_with (go_at_call 114; refine (c_slicesCompare _ _ _ _ _ h2 h1).mono ?_; rintro e w' ⟨rfl, rfl⟩)
  go_ret
  exact ⟨rfl, rfl⟩

set_option maxRecDepth 100000 in
set_option maxHeartbeats 400000 in
theorem c_slicesEqual (v1 v2 : Value) (xs ys : List Int) (w : World) (h1 : Rd (RS RI) w [v1] xs) (h2 : Rd (RS RI) w [v2] ys) :
    Calls Tryz.prog 180 #[v1, v2] w (RetQ w (.bool (decide (xs = ys)))) := by
  obtain ⟨oa, c1, I1⟩ := h1.ints
  obtain ⟨ob, c2, I2⟩ := h2.ints
  obtain rfl := I1.val
  obtain rfl := I2.val
  have m1 := I1.le; have m2 := I1.capLe; have m3 := I2.le; have m4 := I2.capLe
  unfold maxLen at m2 m4
  by_cases hl : xs.length = ys.length
  · have Hl := Lib.hid hl
    have hlb : ((xs.length : Int) != (ys.length : Int)) = false := by simp [hl]
    clear hl
    go_enter Tryz.func180, Tryz.ntmps180
    go_wp2_with fail
    go_loopw [13] (fun i wr => ∃ k : Nat, k ≤ xs.length ∧ i = .int .i64 k ∧ xs.take k = ys.take k ∧ ∃ n, wr = w.drewN n) (fun i _ => xs.length - (intOf i).toNat)
    case atStart => exact ⟨0, Nat.zero_le _, rfl, by simp, 0, rfl⟩
    case round =>
      obtain ⟨k, hk, rfl, heq, n, rfl⟩ := hrel
      have Heq := Lib.hid heq
      clear heq
      by_cases hlt : k < xs.length
      · have hlt2 : k < ys.length := by rw [← Hl.out]; exact hlt
        obtain ⟨b1, o1, rfl, hb1, hc1⟩ := I1.get hlt
        obtain ⟨b2, o2, rfl, hb2, hc2⟩ := I2.get hlt2
        have g1 := hc1 k hlt
        have g2 := hc2 k hlt2
        clear hc1 hc2
        by_cases he : xs[k] = ys[k]
        · have hne : (xs[k] != ys[k]) = false := by simp [he]
          have He := Lib.hid he
          clear he
          go_wp2_with fail
          go_quiet (fail)
          go_wp2_with fail
          go_roundw
          case rel => exact ⟨k + 1, by omega, by go_num, take_succ_eq hlt hlt2 Heq.out He.out, _, rfl⟩
          case measure => simp [intOf]; omega
        · have hne : (xs[k] != ys[k]) = true := by simp [he]
          go_wp2_with fail
          go_quiet (fail)
          go_wp2_with fail
          go_ret
          exact ⟨by (rw [decide_eq_false (fun e => he (by subst e; rfl))] <;> rfl), (by first | exact drewN1 _ _ | exact drewN2 _ _ _)⟩
      · go_wp2_with fail
        go_ret
        refine ⟨?_, _, rfl⟩
        have h := Heq.out
        rw [List.take_of_length_le (by omega), List.take_of_length_le (by rw [← Hl.out]; omega)] at h
        rw [decide_eq_true h] <;> rfl
  · have hlb : ((xs.length : Int) != (ys.length : Int)) = true := by simp; omega
    go_enter Tryz.func180, Tryz.ntmps180
    go_wp2_with fail
    go_ret
    exact ⟨by (rw [decide_eq_false (fun e => hl (by subst e; rfl))] <;> rfl), 0, rfl⟩

set_option maxRecDepth 100000 in
set_option maxHeartbeats 400000 in
theorem c_spec_l01Same (v1 v2 : Value) (xs ys : List Int) (w : World) (h1 : Rd (RS RI) w [v1] xs) (h2 : Rd (RS RI) w [v2] ys) :
    Calls Tryz.prog 187 #[v1, v2] w (RetQ w (.bool (decide (xs = ys)))) := by
  obtain ⟨oa, c1, I1⟩ := h1.ints
  obtain ⟨ob, c2, I2⟩ := h2.ints
  obtain rfl := I1.val
  obtain rfl := I2.val
  have m1 := I1.le; have m2 := I1.capLe; have m3 := I2.le; have m4 := I2.capLe
  unfold maxLen at m2 m4
  by_cases hl : xs.length = ys.length
  · have Hl := Lib.hid hl
    have hlb : ((xs.length : Int) != (ys.length : Int)) = false := by simp [hl]
    clear hl
    go_enter Tryz.func187, Tryz.ntmps187
    go_wp2_with fail
    go_loopw [5] (fun i wr => ∃ k : Nat, k ≤ xs.length ∧ i = .int .i64 k ∧ xs.take k = ys.take k ∧ ∃ n, wr = w.drewN n) (fun i _ => xs.length - (intOf i).toNat)
    case atStart => exact ⟨0, Nat.zero_le _, rfl, by simp, 0, rfl⟩
    case round =>
      obtain ⟨k, hk, rfl, heq, n, rfl⟩ := hrel
      have Heq := Lib.hid heq
      clear heq
      by_cases hlt : k < xs.length
      · have hlt2 : k < ys.length := by rw [← Hl.out]; exact hlt
        obtain ⟨b1, o1, rfl, hb1, hc1⟩ := I1.get hlt
        obtain ⟨b2, o2, rfl, hb2, hc2⟩ := I2.get hlt2
        have g1 := hc1 k hlt
        have g2 := hc2 k hlt2
        clear hc1 hc2
        by_cases he : xs[k] = ys[k]
        · have hne : (xs[k] != ys[k]) = false := by simp [he]
          have He := Lib.hid he
          clear he
          go_wp2_with fail
          go_quiet (fail)
          go_wp2_with fail
          go_roundw
          case rel => exact ⟨k + 1, by omega, by go_num, take_succ_eq hlt hlt2 Heq.out He.out, _, rfl⟩
          case measure => simp [intOf]; omega
        · have hne : (xs[k] != ys[k]) = true := by simp [he]
          go_wp2_with fail
          go_quiet (fail)
          go_wp2_with fail
          go_ret
          exact ⟨by (rw [decide_eq_false (fun e => he (by subst e; rfl))] <;> rfl), (by first | exact drewN1 _ _ | exact drewN2 _ _ _)⟩
      · go_wp2_with fail
        go_ret
        refine ⟨?_, _, rfl⟩
        have h := Heq.out
        rw [List.take_of_length_le (by omega), List.take_of_length_le (by rw [← Hl.out]; omega)] at h
        rw [decide_eq_true h] <;> rfl
  · have hlb : ((xs.length : Int) != (ys.length : Int)) = true := by simp; omega
    go_enter Tryz.func187, Tryz.ntmps187
    go_wp2_with fail
    go_ret
    exact ⟨by (rw [decide_eq_false (fun e => hl (by subst e; rfl))] <;> rfl), 0, rfl⟩

set_option maxRecDepth 100000 in
set_option maxHeartbeats 1000000 in
theorem c_spec_l01Less (v1 v2 : Value) (xs ys : List Int) (w : World) (h1 : Rd (RS RI) w [v1] xs) (h2 : Rd (RS RI) w [v2] ys) :
    Calls Tryz.prog 155 #[v1, v2] w (RetQ w (.bool (decide (cmpL xs ys < 0)))) := by
  obtain ⟨oa, c1, I1⟩ := h1.ints
  obtain ⟨ob, c2, I2⟩ := h2.ints
  obtain rfl := I1.val
  obtain rfl := I2.val
  have m1 := I1.le; have m2 := I1.capLe; have m3 := I2.le; have m4 := I2.capLe
  unfold maxLen at m2 m4
  go_enter Tryz.func155, Tryz.ntmps155
  go_wp2_with fail
  go_loopw [5] (fun i wr => ∃ k : Nat, k ≤ xs.length ∧ k ≤ ys.length ∧ i = .int .i64 k ∧ cmpL xs ys = cmpL (xs.drop k) (ys.drop k) ∧ ∃ n, wr = w.drewN n) (fun i _ => xs.length - (intOf i).toNat)
  case atStart => exact ⟨0, Nat.zero_le _, Nat.zero_le _, rfl, by simp, 0, rfl⟩
  case round =>
    obtain ⟨k, hk, hk2, rfl, he, n, rfl⟩ := hrel
    have He := Lib.hid he
    clear he
    by_cases hlt : k < xs.length
    · obtain ⟨b1, o1, rfl, hb1, hc1⟩ := I1.get hlt
      have g1 := hc1 k hlt
      clear hc1
      by_cases hlt2 : k < ys.length
      · obtain ⟨b2, o2, rfl, hb2, hc2⟩ := I2.get hlt2
        have g2 := hc2 k hlt2
        clear hc2
        have hs := cmpL_step hlt hlt2
        by_cases e1 : xs[k] = ys[k]
        · have hne : (xs[k] != ys[k]) = false := by simp [e1]
          rw [if_neg (by omega), if_neg (by omega)] at hs
          have Hs := Lib.hid hs
          clear hs e1
          go_wp2_with fail
          go_quiet (fail)
          go_wp2_with fail
          go_roundw
          case rel => exact ⟨k + 1, by omega, by omega, by go_num, by rw [He.out, Hs.out], (by first | exact drewN1 _ _ | exact drewN2 _ _ _)⟩
          case measure => simp [intOf]; omega
        · have hne : (xs[k] != ys[k]) = true := by simp [e1]
          have hr : decide (cmpL xs ys < 0) = decide (xs[k] < ys[k]) := by
            rw [He.out, hs]
            by_cases l1 : xs[k] < ys[k]
            · rw [if_pos l1, decide_eq_true l1]; rfl
            · rw [if_neg l1, if_pos (by omega), decide_eq_false l1]; rfl
          have Hr := Lib.hid hr
          clear hs hr e1
          go_wp2_with fail
          go_quiet (fail)
          go_wp2_with fail
          go_quiet (fail)
          go_wp2_with fail
          go_ret
          exact ⟨by (rw [Hr.out] <;> rfl), (by first | exact drewN1 _ _ | exact drewN2 _ _ _ | exact drewN3 _ _ _ _)⟩
      · have hr : decide (cmpL xs ys < 0) = false := by rw [He.out, cmpL_endR hlt (by omega)]; rfl
        have hf : ((xs.length : Int) < (ys.length : Int)) = False := by simp; omega
        go_wp2_with fail
        go_ret
        exact ⟨by rw [hr]; simp <;> omega, (by first | exact drewN1 _ _ | exact drewN2 _ _ _)⟩
    · by_cases hlt2 : k < ys.length
      · have hr : decide (cmpL xs ys < 0) = true := by rw [He.out, cmpL_endL (by omega) hlt2]; rfl
        go_wp2_with fail
        go_ret
        exact ⟨by rw [hr]; simp <;> omega, (by first | exact drewN1 _ _ | exact drewN2 _ _ _)⟩
      · have hr : decide (cmpL xs ys < 0) = false := by rw [He.out, cmpL_end0 (by omega) (by omega)]; rfl
        go_wp2_with fail
        go_ret
        exact ⟨by rw [hr]; simp <;> omega, (by first | exact drewN1 _ _ | exact drewN2 _ _ _)⟩

set_option maxRecDepth 100000 in
set_option maxHeartbeats 400000 in
theorem c_spec_l03Before (v1 v2 : Value) (xs ys : List Int) (w : World) (h1 : Rd (RS RI) w [v1] xs) (h2 : Rd (RS RI) w [v2] ys) :
    Calls Tryz.prog 147 #[v1, v2] w (RetQ w (.bool (decide (cmpT xs ys < 0)))) := by
  obtain ⟨oa, c1, e1, m1, m2⟩ := h1.val
  obtain ⟨ob, c2, e2, m3, m4⟩ := h2.val
  subst e1; subst e2
  unfold maxLen at m2 m4
  by_cases hl : xs.length = ys.length
  · have hlb : ((xs.length : Int) != (ys.length : Int)) = false := by simp [hl]
    have Hl := Lib.hid hl
    clear hl
    go_enter Tryz.func147, Tryz.ntmps147
    go_wp2_with (go_at_call 155; refine (c_spec_l01Less _ _ _ _ _ h2 h1).mono ?_; rintro e w' ⟨rfl, n, rfl⟩)
    go_ret
    exact ⟨by (unfold cmpT; rw [if_pos Hl.out] <;> rfl), (by first | exact drewN1 _ _ | exact drewN2 _ _ _)⟩
  · have hlb : ((xs.length : Int) != (ys.length : Int)) = true := by simp; omega
    go_enter Tryz.func147, Tryz.ntmps147
    go_wp2_with fail
    go_ret
    refine ⟨?_, 0, rfl⟩
    unfold cmpT; rw [if_neg hl]
    have e : decide ((xs.length : Int) - ys.length < 0) = decide (xs.length < ys.length) := by rw [decide_eq_decide]; omega
    rw [e] <;> rfl

theorem Row.cells_ints {w : World} {xs : List Int} {oa : Option Addr} {cap : Nat} {v : Value} (I : Ints w v xs oa cap) : ∀ a, oa = some a → ∀ j u, (xs.map (Value.int .i64))[j]? = some u → w.cell? (a.add j) = some u := by
  intro a ha j u hj
  rcases I.row with h | ⟨b, off, e, hb, hc⟩
  · subst h; simp at hj
  · rw [ha] at e; cases e
    rw [List.getElem?_map] at hj
    obtain ⟨hlt, hv⟩ : ∃ h : j < xs.length, Value.int .i64 xs[j] = u := by
      by_cases h : j < xs.length
      · rw [List.getElem?_eq_getElem h] at hj; simp at hj; exact ⟨h, hj⟩
      · rw [List.getElem?_eq_none (by omega)] at hj; simp at hj
    rw [Addr.add_lit, hc j hlt, hv]

set_option maxRecDepth 100000 in
set_option maxHeartbeats 400000 in
theorem c_spec_l01Own (v : Value) (xs : List Int) (w : World) (h : Rd (RS RI) w [v] xs) (hsz : xs.length ≤ 1000000000) :
    Calls Tryz.prog 122 #[v] w (RetO (RS RI) w xs) := by
  obtain ⟨oa, c1, I1⟩ := h.ints
  obtain rfl := I1.val
  have m1 := I1.le; have m2 := I1.capLe
  unfold maxLen at m2
  have hnone : oa = none → xs.length = 0 := fun e => by have := I1.noneCap e; omega
  have I2 : Ints (w.alloc (.cells #[] 2)) (.slice oa xs.length c1) xs oa c1 := by
    refine ⟨rfl, m1, I1.capLe, I1.noneCap, I1.bd, ?_⟩
    rcases I1.row with h | ⟨b, off, e, hb, hc⟩
    · exact .inl h
    · refine .inr ⟨b, off, e, by simp; omega, fun j hj => ?_⟩
      rw [World.cell?_alloc_lt _ _ _ hb]; exact hc j hj
  have hrow := Row.lit w #[] 2 1 0 (by decide) (by simp)
  have HI := Lib.hid I2
  have HR := Lib.hid hrow
  clear I2 hrow
  go_enter Tryz.func122, Tryz.ntmps122
  go_wp2_with (at_builtin; refine wpList_appendS rfl _ _ 48 rfl 2 (.int .i64 0) 1 8 tI64 (.slice (some ⟨w.heap.size, 0, none⟩) 0 0) 0 [] (some w.heap.size) rfl (by simpa using HR.out) oa xs.length c1 (xs.map (Value.int .i64)) rfl (by simp) hnone (Row.cells_ints HI.out) (by intro u hu; obtain ⟨x, _, rfl⟩ := List.mem_map.1 hu; rfl) (by omega) (by unfold maxLen; omega) ?_; intro v' w' og' happ; refine Stop.out ?_)
  rw [Nat.zero_add, List.nil_append] at happ
  obtain ⟨a1, a2, a3⟩ := happ
  have hbel : Below w.heap.size w w' := ((Below.refl w.heap.size w).alloc (Nat.le_refl _) (.cells #[] 2)).trans (Below.of_grown a2 (by simp) (fun g hg => by cases hg; exact Nat.le_refl _))
  have hown : Own (RS RI) w.heap.size w'.heap.size w' [v'] xs := by
    refine Row.OwnI (by simpa using a1) I1.bd (fun g hg => ?_)
    rcases a3 with a3 | ⟨b, a3, hb⟩
    · rw [hg] at a3; cases a3; exact Nat.le_refl _
    · rw [hg] at a3; cases a3; simp at hb; omega
  have HO := Lib.hid hown
  obtain ⟨oa', cap', rfl, _⟩ := hown.val
  clear hown a1 a2 a3
  refine Stop.go ?_
  go_wp2_with fail
  go_ret
  exact ⟨_, rfl, HO.out, hbel⟩

end Go.Proofs.YtacbkjmkjpjhoaaGreat
