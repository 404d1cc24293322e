/- Forests: copies, sums of nodes, sorting. -/
import Derived.Test.YtacbkjmkjpjhoaaCanonS
import Derived.Test.YtacbkjmkjpjhoaaReg
import Derived.Lib.SliceRun
set_option linter.unusedSimpArgs false
set_option linter.unusedVariables false
namespace Go.Proofs.Ytacbkjmkjpjhoaa
open Go.RowKit

def forest (list : List (List Int)) : List (List Int) := sortC cmpT list

set_option maxRecDepth 100000 in
set_option maxHeartbeats 400000 in
theorem c_slicesClone (v : Value) (xs : List Int) (w : World) (h : Rd (RS RI) w [v] xs) (hsz : xs.length ≤ 1000000000) :
    Calls Try.prog 65 #[v] w (RetO (RS RI) w xs) := by
  obtain ⟨oa, c1, I1⟩ := h.ints
  obtain rfl := I1.val
  have m1 := I1.le; have m2 := I1.capLe
  unfold maxLen at m2
  have q22 : ∀ (w : World) (a : Option Addr) (n c n' c' : Nat), (binOp .eql 31 (.slice a n c) (.slice none n' c')).run Try.prog w = .ok (.bool a.isNone) w := fun w a n c n' c' => Lib.run_eql_slice_nil w _ _ a n c n' c' tI64.ht
  cases oa with
  | none =>
    have hc := I1.noneCap rfl
    have hx : xs = [] := List.eq_nil_of_length_eq_zero (by omega)
    subst hx; subst hc
    clear h I1
    go_enter Try.func65, Try.ntmps65
    go_wp2_with fail
    go_ret
    exact ⟨_, rfl, Own.nil _ _, Below.refl _ _⟩
  | some ad =>
  have I2 : Ints (w.alloc (.cells #[] 2)) (.slice (some ad) xs.length c1) xs (some ad) c1 := by
    refine ⟨rfl, m1, I1.capLe, I1.noneCap, I1.bd, ?_⟩
    rcases I1.row with h | ⟨b, off, e, hb, hc⟩
    · exact .inl h
    · refine .inr ⟨b, off, e, by simp; omega, fun j hj => ?_⟩
      rw [World.cell?_alloc_lt _ _ _ hb]; exact hc j hj
  have hrow := Row.lit w #[] 2 1 0 (by decide) (by simp)
  have HI := Lib.hid I2
  have HR := Lib.hid hrow
  clear I2 hrow
  go_enter Try.func65, Try.ntmps65
  go_wp2_with (at_builtin; refine StopAt (o := ⟨some 7, _, _, _, _, _⟩) ?_)
  refine Stop.go ?_
  refine wpList_appendS rfl _ _ 31 rfl 2 (.int .i64 0) 1 8 tI64 (.slice (some ⟨w.heap.size, 0, none⟩) 0 0) 0 [] (some w.heap.size) rfl (by simpa using HR.out) (some ad) xs.length c1 (xs.map (Value.int .i64)) rfl (by simp) (fun h => by cases h) (Row.cells_ints HI.out) (by intro u hu; obtain ⟨x, _, rfl⟩ := List.mem_map.1 hu; rfl) (by omega) (by unfold maxLen; omega) ?_
  intro v' w' og' happ
  rw [Nat.zero_add, List.nil_append] at happ
  have hlow := happ.low (B := w.heap.size) (by simp) (fun g hg => by cases hg; exact Nat.le_refl _)
  have hbel : Below w.heap.size w w' := ((Below.refl w.heap.size w).alloc (Nat.le_refl _) (.cells #[] 2)).trans hlow.2
  have hown : Own (RS RI) w.heap.size w'.heap.size w' [v'] xs := Row.OwnI (by simpa using happ.1) I1.bd hlow.1
  have HO := Lib.hid hown
  obtain ⟨oa', cap', rfl, _⟩ := hown.val
  clear hown happ hlow
  go_wp2_with fail
  go_ret
  exact ⟨_, rfl, HO.out, hbel⟩

/-- Both own parts in one region. -/
theorem take_snoc (xs : List (List Int)) (k : Nat) (h : k < xs.length) : xs.take (k + 1) = xs.take k ++ [xs[k]] := List.take_succ_eq_append_getElem h



/-- The number of nodes, as the machine adds. -/
def nodesB (bs : List (List Int)) : Int := bs.foldl (fun a b => wrap64 (a + b.length)) 0

theorem nodesB_take_succ (bs : List (List Int)) (k : Nat) (h : k < bs.length) : nodesB (bs.take (k + 1)) = wrap64 (nodesB (bs.take k) + bs[k].length) := by
  unfold nodesB
  rw [List.take_succ_eq_append_getElem h, List.foldl_append]; rfl

theorem nodesB_eq (bs : List (List Int)) (h : sumLen bs ≤ 1000000000000000000) : nodesB bs = sumLen bs := by
  have : ∀ (bs : List (List Int)) (n : Nat), n + sumLen bs ≤ 1000000000000000000 → bs.foldl (fun a b => wrap64 (a + (b.length : Int))) (n : Int) = (n + sumLen bs : Nat) := by
    intro bs
    induction bs with
    | nil => intro n _; simp [sumLen]
    | cons b bs ih =>
      intro n hn
      simp only [sumLen, List.map_cons, List.sum_cons] at hn
      rw [List.foldl_cons]
      have e : wrap64 ((n : Int) + b.length) = ((n + b.length : Nat) : Int) := by unfold wrap64; omega
      rw [e, ih (n + b.length) (by unfold sumLen; omega)]
      simp only [sumLen, List.map_cons, List.sum_cons]
      omega
  unfold nodesB; simpa using this bs 0 (by omega)

set_option maxRecDepth 100000 in
set_option maxHeartbeats 1000000 in
theorem c_impl_nodesIn (v : Value) (bs : List (List Int)) (w : World) (h : Rd (RS (RS RI)) w [v] bs) :
    Calls Try.prog 25 #[v] w (RetS w (.int .i64 (nodesB bs))) := by
  obtain ⟨oa, cap, L⟩ := h.lists
  obtain rfl := L.val
  have m1 := L.le; have m2 := L.capLe
  have HL := Lib.hid L
  clear L h
  go_enter Try.func25, Try.ntmps25
  go_wp2_with fail
  go_loop [3, 8] (fun s i => ∃ (k : Nat), k ≤ bs.length ∧ i = .int .i64 k ∧ s = .int .i64 (nodesB (bs.take k))) (fun _ i => bs.length - (intOf i).toNat)
  case atStart => exact ⟨0, Nat.zero_le _, rfl, rfl⟩
  case round =>
    obtain ⟨k, hk, rfl, rfl⟩ := hrel
    by_cases hlt : k < bs.length
    · obtain ⟨b, off, rfl, hb, hc⟩ := HL.out.get hlt
      obtain ⟨oi, ci, g1, hrd, q1, q2⟩ := hc k hlt
      have hnx := nodesB_take_succ bs k hlt
      obtain ⟨x, hx⟩ : ∃ x, x = bs[k].length := ⟨_, rfl⟩
      obtain ⟨s, hs⟩ : ∃ s, s = nodesB (bs.take k) := ⟨_, rfl⟩
      rw [← hx] at g1 q1 hnx
      rw [← hs] at hnx
      rw [← hs]
      have hw : IntKind.i64.wrap (s + (x : Int)) = wrap64 (s + x) := IntWalk.i64_left _
      obtain ⟨g, hg⟩ : ∃ g, g = wrap64 (s + x) := ⟨_, rfl⟩
      rw [← hg] at hw hnx
      have HN := Lib.hid hnx
      clear hc hrd hx hs hg hnx
      go_wp2_with fail
      go_round
      case rel => exact ⟨k + 1, by omega, by go_num, by rw [HN.out]⟩
      case measure => simp [intOf]; omega
    · have hfin : bs.take k = bs := List.take_of_length_le (by omega)
      have HF := Lib.hid hfin
      clear hfin
      go_wp2_with fail
      go_ret
      exact ⟨by simp [HF.out], rfl⟩

set_option maxRecDepth 100000 in
set_option maxHeartbeats 1000000 in
theorem c_spec_l03Nodes (v : Value) (bs : List (List Int)) (w : World) (h : Rd (RS (RS RI)) w [v] bs) :
    Calls Try.prog 45 #[v] w (RetS w (.int .i64 (nodesB bs))) := by
  obtain ⟨oa, cap, L⟩ := h.lists
  obtain rfl := L.val
  have m1 := L.le; have m2 := L.capLe
  have HL := Lib.hid L
  clear L h
  go_enter Try.func45, Try.ntmps45
  go_wp2_with fail
  go_loop [3, 4] (fun s i => ∃ (k : Nat), k ≤ bs.length ∧ i = .int .i64 k ∧ s = .int .i64 (nodesB (bs.take k))) (fun _ i => bs.length - (intOf i).toNat)
  case atStart => exact ⟨0, Nat.zero_le _, rfl, rfl⟩
  case round =>
    obtain ⟨k, hk, rfl, rfl⟩ := hrel
    by_cases hlt : k < bs.length
    · obtain ⟨b, off, rfl, hb, hc⟩ := HL.out.get hlt
      obtain ⟨oi, ci, g1, hrd, q1, q2⟩ := hc k hlt
      have hnx := nodesB_take_succ bs k hlt
      obtain ⟨x, hx⟩ : ∃ x, x = bs[k].length := ⟨_, rfl⟩
      obtain ⟨s, hs⟩ : ∃ s, s = nodesB (bs.take k) := ⟨_, rfl⟩
      rw [← hx] at g1 q1 hnx
      rw [← hs] at hnx
      rw [← hs]
      have hw : IntKind.i64.wrap (s + (x : Int)) = wrap64 (s + x) := IntWalk.i64_left _
      obtain ⟨g, hg⟩ : ∃ g, g = wrap64 (s + x) := ⟨_, rfl⟩
      rw [← hg] at hw hnx
      have HN := Lib.hid hnx
      clear hc hrd hx hs hg hnx
      go_wp2_with fail
      go_round
      case rel => exact ⟨k + 1, by omega, by go_num, by rw [HN.out]⟩
      case measure => simp [intOf]; omega
    · have hfin : bs.take k = bs := List.take_of_length_le (by omega)
      have HF := Lib.hid hfin
      clear hfin
      go_wp2_with fail
      go_ret
      exact ⟨by simp [HF.out], rfl⟩
end Go.Proofs.Ytacbkjmkjpjhoaa
