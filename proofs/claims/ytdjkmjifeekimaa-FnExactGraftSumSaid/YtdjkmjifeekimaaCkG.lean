/- The code of lists that are put together. -/
import Derived.Test.YtdjkmjifeekimaaForestOf
set_option linter.unusedSimpArgs false
set_option linter.unusedVariables false
namespace Go.Proofs.Ytdjkmjifeekimaa
open Go.RowKit

/-- The code of lists that are put together. -/
def ckOf (xs : List (List Int)) : Int := if xs.all lev8 = true then (if sumLen xs ≤ 8 then 0 else 3) else 1

theorem sumLen_le8 : ∀ xs : List (List Int), xs.all lev8 = true → sumLen xs ≤ 8 * xs.length
  | [], _ => by simp [sumLen]
  | x :: xs, h => by
    rw [List.all_cons, Bool.and_eq_true] at h
    have := sumLen_le8 xs h.2
    have := lev8_len h.1
    simp only [sumLen, List.map_cons, List.sum_cons, List.length_cons] at *
    omega

set_option maxRecDepth 100000 in
set_option maxHeartbeats 400000 in
theorem c_impl_checkGraft (v : Value) (xs : List (List Int)) (w : World) (h : Rd (RS (RS RI)) w [v] xs) (hl : xs.length ≤ 1000000) : Calls Try.prog 50 #[v] w (RetS w (.int .i64 (ckOf xs))) := by
  have hal := c_impl_areLevels v xs w h
  have hnd := c_impl_nodesIn v xs w h
  unfold ckOf
  cases hall : xs.all lev8
  · rw [hall] at hal
    clear hall
    go_enter Try.func50, Try.ntmps50
    go_wp2_with fail
    refine hal.mono ?_
    rintro e w' ⟨rfl, rfl⟩
    go_wp2_with fail
    go_ret
    exact ⟨rfl, rfl⟩
  · rw [hall] at hal
    have h8 := sumLen_le8 xs hall
    rw [nodesB_eq xs (by omega)] at hnd
    by_cases hs : sumLen xs ≤ 8
    · have h1 : ¬ ((sumLen xs : Nat) : Int) > 8 := by omega
      have h2 : ¬ (8 : Int) < ((sumLen xs : Nat) : Int) := by omega
      clear hall
      go_enter Try.func50, Try.ntmps50
      go_wp2_with fail
      refine hal.mono ?_
      rintro e w' ⟨rfl, rfl⟩
      go_wp2_with fail
      refine hnd.mono ?_
      rintro e w' ⟨rfl, rfl⟩
      go_wp2_with fail
      go_ret
      exact ⟨by simp, rfl⟩
    · have h1 : ((sumLen xs : Nat) : Int) > 8 := by omega
      have h2 : (8 : Int) < ((sumLen xs : Nat) : Int) := by omega
      clear hall
      go_enter Try.func50, Try.ntmps50
      go_wp2_with fail
      refine hal.mono ?_
      rintro e w' ⟨rfl, rfl⟩
      go_wp2_with fail
      refine hnd.mono ?_
      rintro e w' ⟨rfl, rfl⟩
      go_wp2_with fail
      go_ret
      exact ⟨by simp, rfl⟩
end Go.Proofs.Ytdjkmjifeekimaa
