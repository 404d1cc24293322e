/- Numbers, lists of numbers and maps: what the small functions on them return. -/
import Derived.Test.YtacbkjmkjpjhoaaGreatNum
set_option linter.unusedSimpArgs false
set_option linter.unusedVariables false
namespace Go.Proofs.YtacbkjmkjpjhoaaGreat
open Go.RowKit

def isNum (n : Int) : Bool := inR n 0 10006

set_option maxRecDepth 100000 in
set_option maxHeartbeats 400000 in
theorem c_impl_IsNumber (n : Int) (w : World) : Calls Tryz.prog 53 #[.int .i64 n] w (RetS w (.bool (isNum n))) := by
  go_enter Tryz.func53, Tryz.ntmps53
  go_wp2_with (go_at_call 100; refine (c_impl_inRange _ _ _ _).mono ?_; rintro e w' ⟨rfl, rfl⟩)
  go_ret
  exact ⟨rfl, rfl⟩


theorem all_take_succ {α : Type} (p : α → Bool) (xs : List α) (k : Nat) (h : k < xs.length) (h1 : (xs.take k).all p = true) (h2 : p xs[k] = true) : (xs.take (k + 1)).all p = true := by
  rw [List.take_succ_eq_append_getElem h, List.all_append, h1]; simp [h2]

theorem all_false_at {α : Type} (p : α → Bool) (xs : List α) (k : Nat) (h : k < xs.length) (h2 : p xs[k] = false) : xs.all p = false := by
  rw [List.all_eq_false]; exact ⟨xs[k], List.getElem_mem h, by simp [h2]⟩

theorem all_of_take {α : Type} (p : α → Bool) (xs : List α) (k : Nat) (h : xs.length ≤ k) (h1 : (xs.take k).all p = true) : xs.all p = true := by
  rwa [List.take_of_length_le h] at h1


set_option maxRecDepth 100000 in
set_option maxHeartbeats 400000 in
theorem c_impl_areNumbers1 (n : Int) (w : World) : Calls Tryz.prog 224 #[.int .i64 n] w (RetS w (.bool (!isNum n))) := by
  go_enter Tryz.func224, Tryz.ntmps224
  go_wp2_with (go_at_call 53; refine (c_impl_IsNumber _ _).mono ?_; rintro e w' ⟨rfl, rfl⟩)
  go_ret
  exact ⟨rfl, rfl⟩

/-- The first index of which p holds, or -1. -/
def idxP {α : Type} (p : α → Bool) (xs : List α) : Int := match xs.findIdx? p with | some i => i | none => -1

set_option maxRecDepth 100000 in
set_option maxHeartbeats 400000 in
theorem c_IndexFunc_notNum (v : Value) (xs : List Int) (w : World) (h : Rd (RS RI) w [v] xs) :
    Calls Tryz.prog 240 #[v, .func (.func 224) #[] #[]] w fun e w' => (∃ n, e = .returned (.int .i64 n) ∧ decide (0 ≤ n) = !(xs.all isNum)) ∧ w = w' := by
  obtain ⟨oa, c1, I1⟩ := h.ints
  obtain rfl := I1.val
  have m1 := I1.le; have m2 := I1.capLe
  unfold maxLen at m2
  go_enter Tryz.func240, Tryz.ntmps240
  go_wp2
  go_loop [8] (fun i => ∃ k : Nat, k ≤ xs.length ∧ i = .int .i64 k ∧ (xs.take k).all isNum = true) (fun i => xs.length - (intOf i).toNat)
  case atStart => exact ⟨0, Nat.zero_le _, rfl, by simp⟩
  case round =>
    obtain ⟨k, hk, rfl, hall⟩ := hrel
    have Hall := Lib.hid hall
    clear hall
    by_cases hlt : k < xs.length
    · obtain ⟨b1, o1, rfl, hb1, hc1⟩ := I1.get hlt
      have g1 := hc1 k hlt
      clear hc1
      cases hp : isNum xs[k]
      · go_wp2_with (go_at_call 224; refine (c_impl_areNumbers1 _ _).mono ?_; rintro e w' ⟨rfl, rfl⟩)
        go_ret
        exact ⟨⟨k, rfl, by rw [all_false_at _ _ k hlt hp]; simp⟩, rfl⟩
      · go_wp2_with (go_at_call 224; refine (c_impl_areNumbers1 _ _).mono ?_; rintro e w' ⟨rfl, rfl⟩)
        go_round
        case rel => exact ⟨k + 1, by omega, by go_num, all_take_succ _ _ k hlt Hall.out hp⟩
        case measure => simp [intOf]; omega
    · go_wp2
      go_ret
      exact ⟨⟨-1, rfl, by rw [all_of_take _ _ k (by omega) Hall.out]; simp⟩, rfl⟩

set_option maxRecDepth 100000 in
set_option maxHeartbeats 400000 in
theorem c_ContainsFunc_notNum (v : Value) (xs : List Int) (w : World) (h : Rd (RS RI) w [v] xs) :
    Calls Tryz.prog 223 #[v, .func (.func 224) #[] #[]] w (RetS w (.bool (!(xs.all isNum)))) := by
  go_enter Tryz.func223, Tryz.ntmps223
  go_wp2_with fail
  refine (c_IndexFunc_notNum v xs w h).mono ?_
  rintro e w' ⟨⟨n, rfl, hn⟩, rfl⟩
  have Hn := Lib.hid hn
  clear hn
  go_wp2_with fail
  go_ret
  exact ⟨by rw [← Hn.out]; rfl, rfl⟩

set_option maxRecDepth 100000 in
set_option maxHeartbeats 400000 in
theorem c_impl_areNumbers (v : Value) (xs : List Int) (w : World) (h : Rd (RS RI) w [v] xs) :
    Calls Tryz.prog 182 #[v] w (RetS w (.bool (xs.all isNum))) := by
  go_enter Tryz.func182, Tryz.ntmps182
  go_wp2_with fail
  refine (c_ContainsFunc_notNum v xs w h).mono ?_
  rintro e w' ⟨rfl, rfl⟩
  go_wp2_with fail
  go_ret
  exact ⟨by simp, rfl⟩

def isMap (xs : List Int) : Bool := decide (xs.length = 38) && xs.all isNum
def at0 (xs : List Int) (n : Int) : Bool := decide (xs[0]? = some n)

set_option maxRecDepth 100000 in
set_option maxHeartbeats 400000 in
theorem c_impl_IsMap (v : Value) (xs : List Int) (w : World) (h : Rd (RS RI) w [v] xs) :
    Calls Tryz.prog 139 #[v] w (RetS w (.bool (isMap xs))) := by
  obtain ⟨oa, c1, I1⟩ := h.ints
  obtain rfl := I1.val
  have m1 := I1.le; have m2 := I1.capLe
  unfold maxLen at m2
  unfold isMap
  by_cases hl : xs.length = 38
  · have hlb : ((xs.length : Int) == 38) = true := by simp [hl]
    have Hl := Lib.hid hl
    clear hl
    go_enter Tryz.func139, Tryz.ntmps139
    go_wp2_with (go_at_call 182; refine (c_impl_areNumbers _ xs _ h).mono ?_; rintro e w' ⟨rfl, rfl⟩)
    go_ret
    exact ⟨by rw [decide_eq_true Hl.out]; rfl, rfl⟩
  · have hlb : ((xs.length : Int) == 38) = false := by simp; omega
    go_enter Tryz.func139, Tryz.ntmps139
    go_wp2_with fail
    go_ret
    exact ⟨by rw [decide_eq_false hl]; rfl, rfl⟩



end Go.Proofs.YtacbkjmkjpjhoaaGreat
