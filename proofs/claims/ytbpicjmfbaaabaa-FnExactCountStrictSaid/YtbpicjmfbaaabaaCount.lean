/- CountRising and CountStrict: what both programs return. -/
import Derived.Test.YtbpicjmfbaaabaaNumb
namespace Go.Proofs.Ytbpicjmfbaaabaa
open Go.RowKit

theorem lev8_lev {t : List Int} (h : lev8 t = true) : LevP t ∧ t.length ≤ 8 := by
  unfold lev8 levB at h
  simp at h
  exact ⟨h.2, h.1⟩

theorem sumW_take_succ (l : List Int) (i : Nat) (h : i < l.length) : sumW (l.take (i + 1)) = wrap64 (sumW (l.take i) + l[i]) := by
  rw [List.take_succ_eq_append_getElem h, sumW_snoc]

set_option maxHeartbeats 1000000 in
theorem c_impl_countNumberings (gap : Nat) (hg : gap ≤ 1) (v : Value) (k : Int) (t : List Int) (w : World) (h : Rd (RS RI) w [v] t) (hk : In64 k) :
    Calls Try.prog 29 #[v, .int .i64 k, .int .i64 gap] w (RetV w (.tuple #[.int .i64 (countNum t k gap).1, .int .i64 (countNum t k gap).2])) := by
  cases h8 : lev8 t
  · have e : countNum t k gap = (0, 1) := by unfold countNum; rw [h8]; rfl
    rw [e]
    go_enter Try.func29, Try.ntmps29
    go_wp2_with (go_at_call 37; refine (c_impl_IsLevels _ t _ h).mono ?_; rintro e w' ⟨rfl, rfl⟩)
    go_ret2
    exact ⟨rfl, Below.refl _ _⟩
  · cases hr : inR k 0 10
    · have e : countNum t k gap = (0, 2) := by unfold countNum; rw [h8, hr]; rfl
      rw [e]
      go_enter Try.func29, Try.ntmps29
      go_wp2_with (first | (go_at_call 37; refine (c_impl_IsLevels _ t _ h).mono ?_; rintro e w' ⟨rfl, rfl⟩) | (go_at_call 38; refine (c_impl_inRange _ _ _ _).mono ?_; rintro e w' ⟨rfl, rfl⟩))
      go_ret2
      exact ⟨rfl, Below.refl _ _⟩
    · obtain ⟨n, rfl, hn⟩ : ∃ n : Nat, k = n ∧ n ≤ 10 := by
        simp [inR] at hr
        exact ⟨k.toNat, by omega, by omega⟩
      have e : countNum t n gap = (sumW (numI 9 t n gap), 0) := by unfold countNum; rw [h8, hr]; simp
      rw [e]
      obtain ⟨hl, hl8⟩ := lev8_lev h8
      have E := Lib.hid e
      clear e
      go_enter Try.func29, Try.ntmps29
      go_wp2_with (first | (go_at_call 37; refine (c_impl_IsLevels _ t _ h).mono ?_; rintro e w' ⟨rfl, rfl⟩) | (go_at_call 38; refine (c_impl_inRange _ _ _ _).mono ?_; rintro e w' ⟨rfl, rfl⟩))
      refine (c_impl_numberings n gap hn hg 9 t v w h hl (by omega) (by omega)).mono ?_
      rintro e w1 ⟨vl, rfl, ol, B1⟩
      obtain ⟨oai, ci, I⟩ := ol.rd.ints
      have hvi := I.val
      rw [numI_len] at hvi
      subst hvi
      have hll := numI_len 9 t n gap
      have hcl := I.le
      have hcc := I.capLe
      unfold maxLen at hcc
      go_wp2_with fail
      go_loop [8, 24] (fun s i => ∃ j : Nat, j ≤ n ∧ i = .int .i64 j ∧ s = .int .i64 (sumW ((numI 9 t n gap).take j))) (fun _ i => n - (intOf i).toNat)
      case atStart => exact ⟨0, Nat.zero_le _, rfl, rfl⟩
      case round =>
        obtain ⟨j, hj, rfl, rfl⟩ := hrel
        by_cases hlt : j < n
        · have hjl : j < (numI 9 t n gap).length := by rw [hll]; exact hlt
          obtain ⟨bl, ofl, rfl, hbl1, hc⟩ := I.get hjl
          have g := hc j hjl
          have hs := Lib.hid (sumW_take_succ (numI 9 t n gap) j hjl)
          clear hc hll
          go_wp2_with fail
          go_round
          case rel => exact ⟨j + 1, by omega, by go_num, by rw [hs.out]⟩
          case measure => simp [intOf]; omega
        · have hf : sumW ((numI 9 t n gap).take j) = sumW (numI 9 t n gap) := by rw [List.take_of_length_le (by rw [hll]; omega)]
          have HF := Lib.hid hf
          clear hf hll
          go_wp2_with fail
          go_ret2
          exact ⟨by rw [← HF.out]; rfl, B1⟩

set_option maxHeartbeats 1000000 in
theorem c_spec_l05Numbered (gap : Nat) (hg : gap ≤ 1) (v : Value) (k : Int) (t : List Int) (w : World) (h : Rd (RS RI) w [v] t) (hk : In64 k) (hsz : t.length < 1000000000000000) :
    Calls Try.prog 28 #[v, .int .i64 k, .int .i64 gap] w (RetV w (.tuple #[.int .i64 (countNum t k gap).1, .int .i64 (countNum t k gap).2])) := by
  cases h8 : lev8 t
  · have e : countNum t k gap = (0, 1) := by unfold countNum; rw [h8]; rfl
    rw [e]
    go_enter Try.func28, Try.ntmps28
    go_wp2_with (go_at_call 34; refine (c_spec_l03Is _ t _ h hsz).mono ?_; rintro e w' ⟨rfl, nd, rfl⟩)
    go_ret2
    exact ⟨rfl, Below.drewN _ _ _⟩
  · cases hr : inR k 0 10
    · have e : countNum t k gap = (0, 2) := by unfold countNum; rw [h8, hr]; rfl
      rw [e]
      go_enter Try.func28, Try.ntmps28
      go_wp2_with (first | (go_at_call 34; refine (c_spec_l03Is _ t _ h hsz).mono ?_; rintro e w' ⟨rfl, nd, rfl⟩) | (go_at_call 35; refine (c_spec_l01In _ _ _ _).mono ?_; rintro e w' ⟨rfl, rfl⟩))
      go_ret2
      exact ⟨rfl, Below.drewN _ _ _⟩
    · obtain ⟨n, rfl, hn⟩ : ∃ n : Nat, k = n ∧ n ≤ 10 := by
        simp [inR] at hr
        exact ⟨k.toNat, by omega, by omega⟩
      have e : countNum t n gap = (sumW ((List.range n).map fun i => numS 9 t (i + 1) n gap), 0) := by unfold countNum; rw [h8, hr, numI_eq]; simp
      rw [e]
      obtain ⟨hl, hl8⟩ := lev8_lev h8
      have E := Lib.hid e
      clear e
      obtain ⟨oa, c1, hv, _, _⟩ := h.val
      subst hv
      go_enter Try.func28, Try.ntmps28
      go_wp2_with (first | (go_at_call 34; refine (c_spec_l03Is _ t _ h hsz).mono ?_; rintro e w' ⟨rfl, nd, rfl⟩) | (go_at_call 35; refine (c_spec_l01In _ _ _ _).mono ?_; rintro e w' ⟨rfl, rfl⟩))
      have hb0 := Below.drewN w.heap.size w nd
      go_loopw [8, 9] (fun s i wr => ∃ j : Nat, j ≤ n ∧ i = .int .i64 (j + 1) ∧ s = .int .i64 (sumW ((List.range j).map fun i => numS 9 t (i + 1) n gap)) ∧ Below w.heap.size w wr) (fun _ i _ => 100 - (intOf i).toNat)
      case atStart => exact ⟨0, Nat.zero_le _, by simp, rfl, hb0⟩
      case round =>
        obtain ⟨j, hj, rfl, rfl, hbel⟩ := hrel
        by_cases hlt : j < n
        · have hle : (j : Int) + 1 ≤ (n : Int) := by omega
          go_wp2_with fail
          rw [show ((j : Int) + 1) = ((j + 1 : Nat) : Int) by omega]
          refine (c_spec_l05Numberings n gap hn hg 9 t _ (j + 1) _ (h.below hbel (Nat.le_refl _)) hl (by omega) (by omega) (by omega)).mono ?_
          rintro e w3 ⟨rfl, B3⟩
          have s3 := hbel.size
          rw [show ((j + 1 : Nat) : Int) = ((j : Int) + 1) by omega]
          go_wp2_with fail
          go_roundw
          case rel =>
            refine ⟨j + 1, by omega, by go_num, ?_, hbel.trans (B3.mono s3)⟩
            rw [List.range_succ, List.map_append, List.map_singleton, sumW_snoc]
          case measure => simp [intOf]; omega
        · have hje : j = n := by omega
          have hle : ¬ ((j : Int) + 1 ≤ (n : Int)) := by omega
          have Hj := Lib.hid hje
          clear hje
          go_wp2_with fail
          go_ret2
          exact ⟨by rw [Hj.out]; rfl, hbel⟩

set_option maxHeartbeats 400000 in
theorem k_impl_CountRising (v : Value) (k : Int) (t : List Int) (w : World) (h : Rd (RS RI) w [v] t) (hk : In64 k) :
    Calls Try.prog 22 #[v, .int .i64 k] w (RetV w (.tuple #[.int .i64 (countNum t k 0).1, .int .i64 (countNum t k 0).2])) := by
  go_enter Try.func22, Try.ntmps22
  go_wp2_with fail
  refine (c_impl_countNumberings 0 (by omega) v k t w h hk).mono ?_
  rintro e w1 ⟨rfl, B1⟩
  go_wp2_with fail
  go_ret2
  exact ⟨rfl, B1⟩
set_option maxHeartbeats 400000 in
theorem k_impl_CountStrict (v : Value) (k : Int) (t : List Int) (w : World) (h : Rd (RS RI) w [v] t) (hk : In64 k) :
    Calls Try.prog 24 #[v, .int .i64 k] w (RetV w (.tuple #[.int .i64 (countNum t k 1).1, .int .i64 (countNum t k 1).2])) := by
  go_enter Try.func24, Try.ntmps24
  go_wp2_with fail
  refine (c_impl_countNumberings 1 (by omega) v k t w h hk).mono ?_
  rintro e w1 ⟨rfl, B1⟩
  go_wp2_with fail
  go_ret2
  exact ⟨rfl, B1⟩
set_option maxHeartbeats 400000 in
theorem k_spec_CountRising (v : Value) (k : Int) (t : List Int) (w : World) (h : Rd (RS RI) w [v] t) (hk : In64 k) (hsz : t.length ≤ 1048576) :
    Calls Try.prog 21 #[v, .int .i64 k] w (RetV w (.tuple #[.int .i64 (countNum t k 0).1, .int .i64 (countNum t k 0).2])) := by
  go_enter Try.func21, Try.ntmps21
  go_wp2_with fail
  refine (c_spec_l05Numbered 0 (by omega) v k t w h hk (by omega)).mono ?_
  rintro e w1 ⟨rfl, B1⟩
  go_wp2_with fail
  go_ret2
  exact ⟨rfl, B1⟩
set_option maxHeartbeats 400000 in
theorem k_spec_CountStrict (v : Value) (k : Int) (t : List Int) (w : World) (h : Rd (RS RI) w [v] t) (hk : In64 k) (hsz : t.length ≤ 1048576) :
    Calls Try.prog 23 #[v, .int .i64 k] w (RetV w (.tuple #[.int .i64 (countNum t k 1).1, .int .i64 (countNum t k 1).2])) := by
  go_enter Try.func23, Try.ntmps23
  go_wp2_with fail
  refine (c_spec_l05Numbered 1 (by omega) v k t w h hk (by omega)).mono ?_
  rintro e w1 ⟨rfl, B1⟩
  go_wp2_with fail
  go_ret2
  exact ⟨rfl, B1⟩
end Go.Proofs.Ytbpicjmfbaaabaa
