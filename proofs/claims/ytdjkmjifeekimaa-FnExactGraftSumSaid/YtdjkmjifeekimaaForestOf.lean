/- ForestOf: both programs. -/
import Derived.Test.YtdjkmjifeekimaaForestS
import Derived.Test.YtdjkmjifeekimaaNum2
import Derived.Test.YtdjkmjifeekimaaII
import Derived.Test.YtdjkmjifeekimaaRetOC
set_option linter.unusedSimpArgs false
set_option linter.unusedVariables false
namespace Go.Proofs.Ytdjkmjifeekimaa
open Go.RowKit

set_option maxRecDepth 100000 in
set_option maxHeartbeats 400000 in
theorem c_impl_areLevels1 (v : Value) (t : List Int) (w : World) (h : Rd (RS RI) w [v] t) : Calls Try.prog 91 #[v] w (RetS w (.bool (!lev8 t))) := by
  have hc := c_impl_IsLevels v t w h
  go_enter Try.func91, Try.ntmps91
  go_wp2_with (go_at_call 45; refine hc.mono ?_; rintro e w' ⟨rfl, rfl⟩)
  go_ret
  exact ⟨rfl, rfl⟩

set_option maxRecDepth 100000 in
set_option maxHeartbeats 1000000 in
theorem c_IndexFunc_notLev (v : Value) (xs : List (List Int)) (w : World) (h : Rd (RS (RS RI)) w [v] xs) :
    Calls Try.prog 102 #[v, .func (.func 91) #[] #[]] w fun e w' => (∃ n, e = .returned (.int .i64 n) ∧ decide (0 ≤ n) = !(xs.all lev8)) ∧ w = w' := by
  obtain ⟨oa, cap, L⟩ := h.lists
  obtain rfl := L.val
  have m1 := L.le; have m2 := L.capLe
  have HL := Lib.hid L
  clear L h
  go_enter Try.func102, Try.ntmps102
  go_wp2_with fail
  go_loop [8] (fun i => ∃ k : Nat, k ≤ xs.length ∧ i = .int .i64 k ∧ (xs.take k).all lev8 = true) (fun i => xs.length - (intOf i).toNat)
  case atStart => exact ⟨0, Nat.zero_le _, rfl, by simp⟩
  case round =>
    obtain ⟨k, hk, rfl, hall⟩ := hrel
    have Hall := Lib.hid hall
    clear hall
    by_cases hlt : k < xs.length
    · obtain ⟨b, off, rfl, hb, hc⟩ := HL.out.get hlt
      obtain ⟨oi, ci, g1, hrd, q1, q2⟩ := hc k hlt
      obtain ⟨pb, hpb⟩ : ∃ pb, pb = lev8 xs[k] := ⟨_, rfl⟩
      have hcc := c_impl_areLevels1 _ _ w hrd
      rw [← hpb] at hcc
      have hlt' := Lib.hid hlt
      cases pb
      · have HP := Lib.hid hpb.symm
        clear hc hrd hpb
        go_wp2_with (go_at_call 91; refine hcc.mono ?_; rintro e w' ⟨rfl, rfl⟩)
        go_ret
        exact ⟨⟨k, rfl, by rw [all_false_at _ _ k hlt'.out HP.out]; simp⟩, rfl⟩
      · have HP := Lib.hid hpb.symm
        clear hc hrd hpb
        go_wp2_with (go_at_call 91; refine hcc.mono ?_; rintro e w' ⟨rfl, rfl⟩)
        go_round
        case rel => exact ⟨k + 1, by omega, by go_num, all_take_succ _ _ k hlt'.out Hall.out HP.out⟩
        case measure => simp [intOf]; omega
    · go_wp2_with fail
      go_ret
      exact ⟨⟨-1, rfl, by rw [all_of_take _ _ k (by omega) Hall.out]; simp⟩, rfl⟩

set_option maxRecDepth 100000 in
set_option maxHeartbeats 400000 in
theorem c_ContainsFunc_notLev (v : Value) (xs : List (List Int)) (w : World) (h : Rd (RS (RS RI)) w [v] xs) :
    Calls Try.prog 90 #[v, .func (.func 91) #[] #[]] w (RetS w (.bool (!(xs.all lev8)))) := by
  go_enter Try.func90, Try.ntmps90
  go_wp2_with fail
  refine (c_IndexFunc_notLev v xs w h).mono ?_
  rintro e w' ⟨⟨n, rfl, hn⟩, rfl⟩
  have Hn := Lib.hid hn
  clear hn
  go_wp2_with fail
  go_ret
  exact ⟨by rw [← Hn.out]; rfl, rfl⟩

set_option maxRecDepth 100000 in
set_option maxHeartbeats 400000 in
theorem c_impl_areLevels (v : Value) (xs : List (List Int)) (w : World) (h : Rd (RS (RS RI)) w [v] xs) :
    Calls Try.prog 65 #[v] w (RetS w (.bool (xs.all lev8))) := by
  have hc := c_ContainsFunc_notLev v xs w h
  go_enter Try.func65, Try.ntmps65
  go_wp2_with fail
  refine hc.mono ?_
  rintro e w' ⟨rfl, rfl⟩
  go_wp2_with fail
  go_ret
  exact ⟨by simp, rfl⟩

/-- What ForestOf returns, with the code. -/
def forOf (xs : List (List Int)) : List (List Int) × Int := if xs.all lev8 = true then (if sumLen xs ≤ 8 then (forest (xs.map canon), 0) else ([], 3)) else ([], 1)

theorem sumLen_canon {xs : List (List Int)} (h : xs.all lev8 = true) : sumLen (xs.map canon) = sumLen xs := by
  unfold sumLen
  rw [List.map_map]
  congr 1
  apply List.map_congr_left
  intro x hx
  exact canon_len (lev8_lev (List.all_eq_true.1 h x hx))

theorem len_le_sum {xs : List (List Int)} (h : xs.all lev8 = true) : xs.length ≤ sumLen xs := by
  have : ∀ bs : List (List Int), (∀ b ∈ bs, LevP b) → bs.length ≤ sumLen bs := by
    intro bs
    induction bs with
    | nil => intro _; simp [sumLen]
    | cons b bs ih =>
      intro hb
      have := ih (fun c hc => hb c (by simp [hc]))
      have := (hb b (by simp)).pos
      simp only [sumLen, List.map_cons, List.sum_cons, List.length_cons] at *
      omega
  exact this xs (fun b hb => lev8_lev (List.all_eq_true.1 h b hb))

theorem forOf_ok {xs : List (List Int)} (h : xs.all lev8 = true) (h8 : sumLen xs ≤ 8) : forOf xs = (forest (xs.map canon), 0) := by unfold forOf; rw [if_pos h, if_pos h8]
theorem forOf_many {xs : List (List Int)} (h : xs.all lev8 = true) (h8 : ¬ sumLen xs ≤ 8) : forOf xs = ([], 3) := by unfold forOf; rw [if_pos h, if_neg h8]
theorem forOf_bad {xs : List (List Int)} (h : xs.all lev8 = false) : forOf xs = ([], 1) := by unfold forOf; rw [if_neg (by simp [h])]

theorem forest_sumLen (bs : List (List Int)) : sumLen (forest bs) = sumLen bs := sumLen_perm (sortC_perm bs)

theorem forOf_cnt (xs : List (List Int)) : cnt_II (forOf xs).1 ≤ 1048576 := by
  unfold forOf cnt_II
  by_cases h : xs.all lev8 = true
  · rw [if_pos h]
    by_cases h8 : sumLen xs ≤ 8
    · rw [if_pos h8]
      show sumLen (forest (xs.map canon)) ≤ 1048576
      rw [forest_sumLen, sumLen_canon h]; omega
    · rw [if_neg h8]; simp [sumLen]
  · rw [if_neg h]; simp [sumLen]

theorem map_take_succ {xs : List (List Int)} (f : List Int → List Int) (k : Nat) (h : k < xs.length) : (xs.take (k + 1)).map f = (xs.take k).map f ++ [f xs[k]] := by
  rw [List.take_succ_eq_append_getElem h, List.map_append]; rfl


end Go.Proofs.Ytdjkmjifeekimaa
