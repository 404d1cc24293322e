/- slices.SortFunc and slices.SortStableFunc at lists of lists of numbers, few elements. -/
import Derived.Test.YtacbkjmkjpjhoaaGreatIns
set_option linter.unusedSimpArgs false
set_option linter.unusedVariables false
namespace Go.Proofs.YtacbkjmkjpjhoaaGreat
open Go.RowKit

/-- What a sort leaves. -/
def Sorts (c : List Int → List Int → Int) (v : Value) (xs : List (List Int)) (lo hi : Nat) (w : World) : Ending → World → Prop :=
  fun e w' => e = .returned (.tuple #[]) ∧ Own (RS (RS RI)) lo hi w' [v] (sortC c xs) ∧ Chg lo hi w w'

set_option maxRecDepth 100000 in
set_option maxHeartbeats 1000000 in
theorem c_bitsLen64 (n : Nat) (hn : n ≤ 12) (w : World) : Calls Tryz.prog 173 #[.int .u64 n] w fun e w' => (∃ k : Int, e = .returned (.int .i64 k)) ∧ w = w' := by
  have h : n = 0 ∨ n = 1 ∨ n = 2 ∨ n = 3 ∨ n = 4 ∨ n = 5 ∨ n = 6 ∨ n = 7 ∨ n = 8 ∨ n = 9 ∨ n = 10 ∨ n = 11 ∨ n = 12 := by omega
  rcases h with rfl | rfl | rfl | rfl | rfl | rfl | rfl | rfl | rfl | rfl | rfl | rfl | rfl
  all_goals
    go_enter Tryz.func173, Tryz.ntmps173
    go_wp2_with fail
    go_ret
    exact ⟨⟨_, rfl⟩, rfl⟩

set_option maxRecDepth 100000 in
set_option maxHeartbeats 1000000 in
theorem c_bitsLen (n : Nat) (hn : n ≤ 12) (w : World) : Calls Tryz.prog 128 #[.int .u64 n] w fun e w' => (∃ k : Int, e = .returned (.int .i64 k)) ∧ w = w' := by
  have hb := c_bitsLen64 n hn
  go_enter Tryz.func128, Tryz.ntmps128
  go_wp2_with (go_at_call 173; refine (hb _).mono ?_; rintro e w' ⟨⟨k, rfl⟩, rfl⟩)
  go_ret
  exact ⟨⟨_, rfl⟩, rfl⟩

set_option maxRecDepth 100000 in
set_option maxHeartbeats 4000000 in
theorem c_pdqsort (g : Nat) (c : List Int → List Int → Int) (hc : Cmp c) (ok : List Int → Prop) (eg : ∀ args w, (callFunc g args).run Tryz.prog w = .ok (.enter g args) w) (hcmp : CmpAsk Tryz.prog g c ok)
    (v : Value) (xs : List (List Int)) (k : Int) (lo hi : Nat) (w : World) (ho : Own (RS (RS RI)) lo hi w [v] xs) (hok : ∀ x ∈ xs, ok x) (hsz : xs.length ≤ 12) :
    Calls Tryz.prog 156 #[v, .int .i64 0, .int .i64 xs.length, .int .i64 k, .func (.func g) #[] #[]] w (Sorts c v xs lo hi w) := by
  have hi := c_insertionSort g c hc ok eg hcmp 0 xs.length v xs lo hi w ho hok (Nat.zero_le _) (Nat.le_refl _) (by omega)
  have HC := Lib.hid hc
  clear hcmp hok ho eg hc
  go_enter Tryz.func156, Tryz.ntmps156
  go_wp2_with fail
  go_loopw [1, 2] (fun a b wr => a = .int .i64 0 ∧ b = .int .i64 xs.length ∧ wr = w) (fun _ _ _ => 0)
  case atStart => exact ⟨rfl, rfl, rfl⟩
  case round =>
    obtain ⟨rfl, rfl, rfl⟩ := hrel
    go_wp2_with (go_at_call 196; refine hi.mono ?_; rintro e w' ⟨rfl, ys, h1, h2, h3, h4⟩)
    go_end0
    refine ⟨rfl, ?_, h4⟩
    rw [← sortC_unique HC.out h1.perm (h2.pairwise (by rw [h1.len]; exact Nat.le_refl _))]
    exact h3

set_option maxRecDepth 100000 in
set_option maxHeartbeats 1000000 in
theorem c_SortFunc (g : Nat) (c : List Int → List Int → Int) (hc : Cmp c) (ok : List Int → Prop) (eg : ∀ args w, (callFunc g args).run Tryz.prog w = .ok (.enter g args) w) (hcmp : CmpAsk Tryz.prog g c ok)
    (v : Value) (xs : List (List Int)) (lo hi : Nat) (w : World) (ho : Own (RS (RS RI)) lo hi w [v] xs) (hok : ∀ x ∈ xs, ok x) (hsz : xs.length ≤ 12) :
    Calls Tryz.prog 112 #[v, .func (.func g) #[] #[]] w (Sorts c v xs lo hi w) := by
  obtain ⟨oa, cap, rfl, hv1, hv2⟩ := ho.val
  have hb := c_bitsLen xs.length hsz
  have hp := fun k => c_pdqsort g c hc ok eg hcmp _ xs k lo hi w ho hok hsz
  have hw : IntKind.u64.wrap (xs.length : Int) = xs.length := by simp [IntKind.wrap, IntKind.bits, IntKind.signed]; omega
  clear hcmp hok ho eg hc
  go_enter Tryz.func112, Tryz.ntmps112
  go_wp2_with (first | (go_at_call 128; refine (hb _).mono ?_; rintro e w' ⟨⟨k, rfl⟩, rfl⟩) | (go_at_call 156; refine (hp _).mono ?_; rintro e w' ⟨rfl, h1, h2⟩))
  go_end0
  exact ⟨rfl, h1, h2⟩

set_option maxRecDepth 100000 in
set_option maxHeartbeats 4000000 in
theorem c_stableCmp (g : Nat) (c : List Int → List Int → Int) (hc : Cmp c) (ok : List Int → Prop) (eg : ∀ args w, (callFunc g args).run Tryz.prog w = .ok (.enter g args) w) (hcmp : CmpAsk Tryz.prog g c ok)
    (v : Value) (xs : List (List Int)) (lo hi : Nat) (w : World) (ho : Own (RS (RS RI)) lo hi w [v] xs) (hok : ∀ x ∈ xs, ok x) (hsz : xs.length ≤ 19) :
    Calls Tryz.prog 181 #[v, .int .i64 xs.length, .func (.func g) #[] #[]] w (Sorts c v xs lo hi w) := by
  have hi := c_insertionSort g c hc ok eg hcmp 0 xs.length v xs lo hi w ho hok (Nat.zero_le _) (Nat.le_refl _) (by omega)
  have HC := Lib.hid hc
  clear hcmp hok ho eg hc
  go_enter Tryz.func181, Tryz.ntmps181
  go_wp2_with fail
  go_loopw [7, 8] (fun a b wr => a = .int .i64 0 ∧ b = .int .i64 20 ∧ wr = w) (fun _ _ _ => 0)
  case atStart => exact ⟨rfl, rfl, rfl⟩
  case round =>
    obtain ⟨rfl, rfl, rfl⟩ := hrel
    go_wp2_with (go_at_call 196; refine hi.mono ?_; rintro e w' ⟨rfl, ys, h1, h2, h3, h4⟩)
    go_loopw [6] (fun a wr => a = .int .i64 20 ∧ wr = w') (fun _ _ => 0)
    case atStart => exact ⟨rfl, rfl⟩
    case round =>
      obtain ⟨rfl, rfl⟩ := hrel
      go_wp2_with fail
      go_end0
      refine ⟨rfl, ?_, h4⟩
      rw [← sortC_unique HC.out h1.perm (h2.pairwise (by rw [h1.len]; exact Nat.le_refl _))]
      exact h3

set_option maxRecDepth 100000 in
set_option maxHeartbeats 1000000 in
theorem c_SortStable (g : Nat) (c : List Int → List Int → Int) (hc : Cmp c) (ok : List Int → Prop) (eg : ∀ args w, (callFunc g args).run Tryz.prog w = .ok (.enter g args) w) (hcmp : CmpAsk Tryz.prog g c ok)
    (v : Value) (xs : List (List Int)) (lo hi : Nat) (w : World) (ho : Own (RS (RS RI)) lo hi w [v] xs) (hok : ∀ x ∈ xs, ok x) (hsz : xs.length ≤ 19) :
    Calls Tryz.prog 138 #[v, .func (.func g) #[] #[]] w (Sorts c v xs lo hi w) := by
  obtain ⟨oa, cap, rfl, hv1, hv2⟩ := ho.val
  have hp := c_stableCmp g c hc ok eg hcmp _ xs lo hi w ho hok hsz
  clear hcmp hok ho eg hc
  go_enter Tryz.func138, Tryz.ntmps138
  go_wp2_with (go_at_call 181; refine hp.mono ?_; rintro e w' ⟨rfl, h1, h2⟩)
  go_end0
  exact ⟨rfl, h1, h2⟩
end Go.Proofs.YtacbkjmkjpjhoaaGreat
