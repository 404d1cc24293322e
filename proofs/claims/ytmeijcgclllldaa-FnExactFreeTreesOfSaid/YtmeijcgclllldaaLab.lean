/- Factorials, densities and symmetries of trees. -/
import Derived.Test.YtmeijcgclllldaaForestS
namespace Go.Proofs.Ytmeijcgclllldaa
open Go.RowKit

theorem wrap64_add_mul (x k : Int) : wrap64 (x + 18446744073709551616 * k) = wrap64 x := by
  unfold wrap64
  rw [show x + 18446744073709551616 * k + 9223372036854775808 = x + 9223372036854775808 + 18446744073709551616 * k by omega, Int.add_mul_emod_self_left]

theorem wrap64_ex (x : Int) : ∃ k, wrap64 x = x + 18446744073709551616 * k := by
  refine ⟨-((x + 9223372036854775808) / 18446744073709551616), ?_⟩
  unfold wrap64
  have := Int.emod_add_mul_ediv (x + 9223372036854775808) 18446744073709551616
  have e : (18446744073709551616 : Int) * -((x + 9223372036854775808) / 18446744073709551616) = -(18446744073709551616 * ((x + 9223372036854775808) / 18446744073709551616)) := by rw [Int.mul_neg]
  omega

theorem wrap64_mul_r (a b : Int) : wrap64 (a * wrap64 b) = wrap64 (a * b) := by
  obtain ⟨k, e⟩ := wrap64_ex b
  rw [e, Int.mul_add, Int.mul_left_comm, wrap64_add_mul]

theorem wrap64_mul_l (a b : Int) : wrap64 (wrap64 a * b) = wrap64 (a * b) := by
  rw [Int.mul_comm, wrap64_mul_r, Int.mul_comm]

def facW : Nat → Int
  | 0 => 1
  | 1 => 1
  | n + 2 => wrap64 (facW (n + 1) * ((n : Int) + 2))

theorem facW_one (n : Nat) (h : n ≤ 1) : facW n = 1 := by
  match n, h with
  | 0, _ => rfl
  | 1, _ => rfl

def densF : Nat → List Int → Int
  | 0, _ => 0
  | f + 1, t => (brs t).foldl (fun o b => wrap64 (o * densF f b)) t.length

def densTo (f : Nat) (t : List Int) (k : Nat) : Int := ((brs t).take k).foldl (fun o b => wrap64 (o * densF f b)) t.length

theorem densTo_succ (f : Nat) (t : List Int) (k : Nat) (h : k < (brs t).length) : densTo f t (k + 1) = wrap64 (densTo f t k * densF f (brs t)[k]) := by
  unfold densTo
  rw [List.take_succ_eq_append_getElem h, List.foldl_append]; rfl

/-- The run of equal branches that ends at k. -/
def runTo (bs : List (List Int)) : Nat → Int
  | 0 => 0
  | k + 1 => if k = 0 ∨ bs.getD (k - 1) [] = bs.getD k [] then runTo bs k + 1 else 1

theorem runTo_bd (bs : List (List Int)) : ∀ k, 0 ≤ runTo bs k ∧ runTo bs k ≤ k
  | 0 => by simp [runTo]
  | k + 1 => by
    have := runTo_bd bs k
    unfold runTo
    split <;> omega

def symTo (s : List Int → Int) (bs : List (List Int)) : Nat → Int
  | 0 => 1
  | k + 1 => wrap64 (symTo s bs k * (runTo bs (k + 1) * s (bs.getD k [])))

def symF : Nat → List Int → Int
  | 0, _ => 0
  | f + 1, t => symTo (symF f) (forest (brs (canon t))) (forest (brs (canon t))).length

set_option maxRecDepth 100000 in
set_option maxHeartbeats 1000000 in
theorem c_impl_factorial (n : Nat) (hn : n ≤ 1000000) (w : World) : Calls Try.prog 78 #[.int .i64 n] w (RetS w (.int .i64 (facW n))) := by
  go_enter Try.func78, Try.ntmps78
  go_wp2_with fail
  go_loop [3, 4] (fun o i => ∃ k : Nat, (k + 1 ≤ n ∨ k = 1 ∨ k = 0 ∨ k = n) ∧ k ≤ n + 1 ∧ 1 ≤ k ∧ i = .int .i64 (k + 1) ∧ o = .int .i64 (facW k)) (fun _ i => n + 1 - (intOf i).toNat)
  case atStart => exact ⟨1, by omega, by omega, by omega, rfl, rfl⟩
  case round =>
    obtain ⟨k, hk, hk2, hk3, rfl, rfl⟩ := hrel
    obtain ⟨m, rfl⟩ : ∃ m, k = m + 1 := ⟨k - 1, by omega⟩
    by_cases hlt : m + 2 ≤ n
    · obtain ⟨q, hq⟩ : ∃ q, q = facW (m + 1) := ⟨_, rfl⟩
      have hnx : facW (m + 2) = wrap64 (q * ((m : Int) + 2)) := by rw [hq]; rfl
      rw [← hq]
      have HN := Lib.hid hnx
      obtain ⟨g, hg⟩ : ∃ g, g = wrap64 (q * ((m : Int) + 2)) := ⟨_, rfl⟩
      have e1 : ((m + 1 : Nat) : Int) + 1 = (m : Int) + 2 := by omega
      rw [e1]
      have hw : IntKind.i64.wrap (q * ((m : Int) + 2)) = g := by rw [hg]; exact IntWalk.i64_left _
      rw [← hg] at HN
      have hle : (m : Int) + 2 ≤ (n : Int) := by omega
      have hw2 : IntKind.i64.wrap ((m : Int) + 2 + 1) = (m : Int) + 2 + 1 := IntWalk.i64_in _ (by omega)
      clear hnx hq e1
      have hg' : wrap64 (q * ((m : Int) + 2)) = g := hg.symm
      clear hg
      go_wp2_with fail
      go_round
      case rel => exact ⟨m + 2, by omega, by omega, by omega, by go_num, by rw [HN.out]⟩
      case measure => simp [intOf]; omega
    · have hfin : facW (m + 1) = facW n := by
        by_cases h1 : n ≤ 1
        · rw [facW_one n h1, facW_one (m + 1) (by omega)]
        · rw [show m + 1 = n by omega]
      have hle : ¬ ((m + 1 : Nat) : Int) + 1 ≤ (n : Int) := by omega
      rw [hfin]
      go_wp2_with fail
      go_ret
      exact ⟨rfl, rfl⟩

set_option maxRecDepth 100000 in
set_option maxHeartbeats 1000000 in
theorem c_spec_l03Factorial (n : Nat) (hn : n ≤ 1000000) (w : World) : Calls Try.prog 75 #[.int .i64 n] w (RetS w (.int .i64 (facW n))) := by
  go_enter Try.func75, Try.ntmps75
  go_wp2_with fail
  go_loop [3, 4] (fun o i => ∃ k : Nat, (k + 1 ≤ n ∨ k = 1 ∨ k = 0 ∨ k = n) ∧ k ≤ n + 1 ∧ 1 ≤ k ∧ i = .int .i64 (k + 1) ∧ o = .int .i64 (facW k)) (fun _ i => n + 1 - (intOf i).toNat)
  case atStart => exact ⟨1, by omega, by omega, by omega, rfl, rfl⟩
  case round =>
    obtain ⟨k, hk, hk2, hk3, rfl, rfl⟩ := hrel
    obtain ⟨m, rfl⟩ : ∃ m, k = m + 1 := ⟨k - 1, by omega⟩
    by_cases hlt : m + 2 ≤ n
    · obtain ⟨q, hq⟩ : ∃ q, q = facW (m + 1) := ⟨_, rfl⟩
      have hnx : facW (m + 2) = wrap64 (q * ((m : Int) + 2)) := by rw [hq]; rfl
      rw [← hq]
      have HN := Lib.hid hnx
      obtain ⟨g, hg⟩ : ∃ g, g = wrap64 (q * ((m : Int) + 2)) := ⟨_, rfl⟩
      have e1 : ((m + 1 : Nat) : Int) + 1 = (m : Int) + 2 := by omega
      rw [e1]
      have hw : IntKind.i64.wrap (q * ((m : Int) + 2)) = g := by rw [hg]; exact IntWalk.i64_left _
      rw [← hg] at HN
      have hle : (m : Int) + 2 ≤ (n : Int) := by omega
      have hw2 : IntKind.i64.wrap ((m : Int) + 2 + 1) = (m : Int) + 2 + 1 := IntWalk.i64_in _ (by omega)
      clear hnx hq e1
      have hg' : wrap64 (q * ((m : Int) + 2)) = g := hg.symm
      clear hg
      go_wp2_with fail
      go_round
      case rel => exact ⟨m + 2, by omega, by omega, by omega, by go_num, by rw [HN.out]⟩
      case measure => simp [intOf]; omega
    · have hfin : facW (m + 1) = facW n := by
        by_cases h1 : n ≤ 1
        · rw [facW_one n h1, facW_one (m + 1) (by omega)]
        · rw [show m + 1 = n by omega]
      have hle : ¬ ((m + 1 : Nat) : Int) + 1 ≤ (n : Int) := by omega
      rw [hfin]
      go_wp2_with fail
      go_ret
      exact ⟨rfl, rfl⟩

set_option maxRecDepth 100000 in
set_option maxHeartbeats 400000 in
theorem c_impl_length (v : Value) (t : List Int) (w : World) (h : Rd (RS RI) w [v] t) : Calls Try.prog 57 #[v] w (RetS w (.int .i64 t.length)) := by
  obtain ⟨oa, c1, rfl, m1, m2⟩ := h.val
  unfold maxLen at m2
  go_enter Try.func57, Try.ntmps57
  go_wp2_with fail
  go_ret
  exact ⟨rfl, rfl⟩

set_option maxRecDepth 100000 in
set_option maxHeartbeats 1000000 in
theorem c_impl_density : ∀ (n : Nat) (v : Value) (t : List Int) (w : World), Rd (RS RI) w [v] t → LevP t → t.length ≤ n → t.length ≤ 1000000 →
    Calls Try.prog 80 #[v] w (RetV w (.int .i64 (densF n t))) := by
  intro n
  induction n with
  | zero => intro v t w h hl hn h13; have := hl.pos; omega
  | succ n ih =>
    intro v t w h hl hn h13
    have hb := c_impl_branchesOf v t w h hl (by omega)
    have hln := c_impl_length v t w h
    have HL := Lib.hid hl
    have IH := Lib.hid ih
    have hfew := brs_few hl
    clear h hl ih
    go_enter Try.func80, Try.ntmps80
    go_wp2_with (first | (go_at_call 57; refine hln.mono ?_; rintro e w1 ⟨rfl, rfl⟩) | (go_at_call 92; refine hb.mono ?_; rintro e w1 ⟨u, rfl, o1, b1⟩; obtain ⟨oa, cap, rfl, l1, l2⟩ := o1.val))
    have hsz1 := b1.size
    obtain ⟨oa1, cap1, L⟩ := o1.rd.lists
    have hval := L.val
    simp only [Value.slice.injEq, true_and] at hval
    obtain ⟨rfl, rfl⟩ := hval
    have HLs := Lib.hid L
    clear L o1 hb hln
    go_loopw [3, 11] (fun o i wr => ∃ k : Nat, k ≤ (brs t).length ∧ i = .int .i64 k ∧ o = .int .i64 (densTo n t k) ∧ Below w1.heap.size w1 wr) (fun _ i _ => (brs t).length - (intOf i).toNat)
    case atStart => exact ⟨0, Nat.zero_le _, rfl, by simp [densTo], Below.refl _ _⟩
    case round =>
      obtain ⟨k, hk, rfl, rfl, hbel⟩ := hrel
      by_cases hlt : k < (brs t).length
      · obtain ⟨b, off, rfl, hb, hc⟩ := HLs.out.get hlt
        obtain ⟨oi, ci, g1, hrd, q1, q2⟩ := hc k hlt
        have g2 : wr.cell? ⟨b, off + k, none⟩ = some (.slice oi (brs t)[k].length ci) := (hbel.cell (p := ⟨b, off + k, none⟩) hb).trans g1
        have hmem := List.getElem_mem hlt
        have hshort := brs_short HL.out _ hmem
        have hc2 := IH.out (.slice oi (brs t)[k].length ci) (brs t)[k] wr (hrd.below hbel (Nat.le_refl _)) (brs_lev HL.out _ hmem) (by omega) (by omega)
        have hnx := densTo_succ n t k hlt
        obtain ⟨q, hq⟩ : ∃ q, q = densTo n t k := ⟨_, rfl⟩
        obtain ⟨y, hy⟩ : ∃ y, y = densF n (brs t)[k] := ⟨_, rfl⟩
        obtain ⟨xl, hxl⟩ : ∃ xl, xl = (brs t)[k].length := ⟨_, rfl⟩
        rw [← hq, ← hy] at hnx
        rw [← hy, ← hxl] at hc2
        rw [← hxl] at g2 q1
        rw [← hq]
        obtain ⟨g, hg⟩ : ∃ g, wrap64 (q * y) = g := ⟨_, rfl⟩
        have hw : IntKind.i64.wrap (q * y) = g := (IntWalk.i64_left _).trans hg
        rw [hg] at hnx
        have HN := Lib.hid hnx
        clear hc g1 hrd hnx hq hy hxl hmem
        go_wp2_with (go_at_call 80; refine hc2.mono ?_; rintro e w2 ⟨rfl, b2⟩)
        have hb2 : Below w1.heap.size w1 w2 := hbel.trans (b2.mono hbel.size)
        clear hc2
        go_wp2_with fail
        go_roundw
        case rel => exact ⟨k + 1, by omega, by go_num, by simp only [HN.out], hb2⟩
        case measure => simp [intOf]; omega
      · have hfin : densTo n t k = densF (n + 1) t := by
          show densTo n t k = (brs t).foldl (fun o b => wrap64 (o * densF n b)) t.length
          unfold densTo
          rw [List.take_of_length_le (by omega)]
        rw [hfin]
        go_wp2_with fail
        go_ret
        exact ⟨rfl, b1.trans (hbel.mono hsz1)⟩

set_option maxRecDepth 100000 in
set_option maxHeartbeats 1000000 in
theorem c_spec_l03Density : ∀ (n : Nat) (v : Value) (t : List Int) (w : World), Rd (RS RI) w [v] t → LevP t → t.length ≤ n → t.length ≤ 1000000 →
    Calls Try.prog 77 #[v] w (RetV w (.int .i64 (densF n t))) := by
  intro n
  induction n with
  | zero => intro v t w h hl hn h13; have := hl.pos; omega
  | succ n ih =>
    intro v t w h hl hn h13
    obtain ⟨oa0, c0, rfl, m1, m2⟩ := h.val
    unfold maxLen at m2
    have hb := c_spec_l03Parts _ t w h hl (by omega)
    have HL := Lib.hid hl
    have IH := Lib.hid ih
    have hfew := brs_few hl
    clear h hl ih
    go_enter Try.func77, Try.ntmps77
    go_wp2_with (go_at_call 88; refine hb.mono ?_; rintro e w1 ⟨u, rfl, o1, b1⟩; obtain ⟨oa, cap, rfl, l1, l2⟩ := o1.val)
    have hsz1 := b1.size
    obtain ⟨oa1, cap1, L⟩ := o1.rd.lists
    have hval := L.val
    simp only [Value.slice.injEq, true_and] at hval
    obtain ⟨rfl, rfl⟩ := hval
    have HLs := Lib.hid L
    clear L o1 hb
    go_loopw [3, 5] (fun o i wr => ∃ k : Nat, k ≤ (brs t).length ∧ i = .int .i64 k ∧ o = .int .i64 (densTo n t k) ∧ Below w1.heap.size w1 wr) (fun _ i _ => (brs t).length - (intOf i).toNat)
    case atStart => exact ⟨0, Nat.zero_le _, rfl, by simp [densTo], Below.refl _ _⟩
    case round =>
      obtain ⟨k, hk, rfl, rfl, hbel⟩ := hrel
      by_cases hlt : k < (brs t).length
      · obtain ⟨b, off, rfl, hb, hc⟩ := HLs.out.get hlt
        obtain ⟨oi, ci, g1, hrd, q1, q2⟩ := hc k hlt
        have g2 : wr.cell? ⟨b, off + k, none⟩ = some (.slice oi (brs t)[k].length ci) := (hbel.cell (p := ⟨b, off + k, none⟩) hb).trans g1
        have hmem := List.getElem_mem hlt
        have hshort := brs_short HL.out _ hmem
        have hc2 := IH.out (.slice oi (brs t)[k].length ci) (brs t)[k] wr (hrd.below hbel (Nat.le_refl _)) (brs_lev HL.out _ hmem) (by omega) (by omega)
        have hnx := densTo_succ n t k hlt
        obtain ⟨q, hq⟩ : ∃ q, q = densTo n t k := ⟨_, rfl⟩
        obtain ⟨y, hy⟩ : ∃ y, y = densF n (brs t)[k] := ⟨_, rfl⟩
        obtain ⟨xl, hxl⟩ : ∃ xl, xl = (brs t)[k].length := ⟨_, rfl⟩
        rw [← hq, ← hy] at hnx
        rw [← hy, ← hxl] at hc2
        rw [← hxl] at g2 q1
        rw [← hq]
        obtain ⟨g, hg⟩ : ∃ g, wrap64 (q * y) = g := ⟨_, rfl⟩
        have hw : IntKind.i64.wrap (q * y) = g := (IntWalk.i64_left _).trans hg
        rw [hg] at hnx
        have HN := Lib.hid hnx
        clear hc g1 hrd hnx hq hy hxl hmem
        go_wp2_with (go_at_call 77; refine hc2.mono ?_; rintro e w2 ⟨rfl, b2⟩)
        have hb2 : Below w1.heap.size w1 w2 := hbel.trans (b2.mono hbel.size)
        clear hc2
        go_wp2_with fail
        go_roundw
        case rel => exact ⟨k + 1, by omega, by go_num, by simp only [HN.out], hb2⟩
        case measure => simp [intOf]; omega
      · have hfin : densTo n t k = densF (n + 1) t := by
          show densTo n t k = (brs t).foldl (fun o b => wrap64 (o * densF n b)) t.length
          unfold densTo
          rw [List.take_of_length_le (by omega)]
        rw [hfin]
        go_wp2_with fail
        go_ret
        exact ⟨rfl, b1.trans (hbel.mono hsz1)⟩
end Go.Proofs.Ytmeijcgclllldaa
