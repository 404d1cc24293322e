/- Copies, comparisons and marks of lists of numbers, as the laws make them. -/
import Derived.Test.YtacbkjmkjpjhoaaGreatNum2
set_option linter.unusedSimpArgs false
set_option linter.unusedVariables false
namespace Go.Proofs.YtacbkjmkjpjhoaaGreat
open Go.RowKit

/-- The numbers that a mark lays from k on. -/
def marks (n : Nat) (k : Int) : List Int := (List.range n).map fun (i : Nat) => k + (i : Int)

theorem marks_length (n : Nat) (k : Int) : (marks n k).length = n := by simp [marks]
theorem marks_get (n : Nat) (k : Int) (i : Nat) (h : i < n) : (marks n k)[i]'(by rw [marks_length]; exact h) = k + (i : Int) := by simp [marks]

/-- A row of numbers is a list of numbers that is owned. -/
theorem Row.ownI {w : World} {v : Value} {xs : List Int} {og : Option Nat} (h : Row w v 1 xs.length (xs.map (Value.int .i64)) og) (hb : ∀ x ∈ xs, In64 x) : (RS RI).own w [v] xs og.toList :=
  ⟨v, og, xs.map (Value.int .i64), [], rfl, h, ownL_ints_mk hb, by simp⟩

theorem Row.OwnIh {w : World} {v : Value} {xs : List Int} {og : Option Nat} {lo hi : Nat} (h : Row w v 1 xs.length (xs.map (Value.int .i64)) og) (hb : ∀ x ∈ xs, In64 x) (hlo : ∀ g, og = some g → lo ≤ g ∧ g < hi) : Own (RS RI) lo hi w [v] xs :=
  ⟨og.toList, h.ownI hb, by cases og <;> simp, fun b hb' => by have e : og = some b := by simpa using hb'
                                                               exact hlo b e⟩

theorem Row.OwnI {w : World} {v : Value} {xs : List Int} {og : Option Nat} {lo : Nat} (h : Row w v 1 xs.length (xs.map (Value.int .i64)) og) (hb : ∀ x ∈ xs, In64 x) (hlo : ∀ g, og = some g → lo ≤ g) : Own (RS RI) lo w.heap.size w [v] xs :=
  ⟨og.toList, h.ownI hb, by cases og <;> simp, fun b hb' => by have e : og = some b := by simpa using hb'
                                                               exact ⟨hlo b e, h.lt b e⟩⟩

theorem Own.rowI {w : World} {v : Value} {xs : List Int} {lo hi : Nat} (h : Own (RS RI) lo hi w [v] xs) : ∃ og, Row w v 1 xs.length (xs.map (Value.int .i64)) og ∧ (∀ x ∈ xs, In64 x) ∧ ∀ g, og = some g → lo ≤ g ∧ g < hi := by
  obtain ⟨F, ⟨v', og, ds, G, h1, h2, h3, rfl⟩, hn, hb⟩ := h
  obtain ⟨k1, k2, k3⟩ := ownL_ints h3
  simp only [List.cons.injEq, and_true] at h1
  subst h1; subst k1; subst k2
  exact ⟨og, h2, k3, fun g hg => hb g (by simp [hg])⟩

theorem map_set_int (xs : List Int) (i : Nat) (x : Int) : (xs.map (Value.int .i64)).set i (.int .i64 x) = (xs.set i x).map (Value.int .i64) := by
  rw [List.map_set]

theorem set_take (xs ys : List Int) (k : Nat) (hk : k < xs.length) (h2 : k < ys.length) : (xs.take k ++ ys.drop k).set k xs[k] = xs.take (k + 1) ++ ys.drop (k + 1) := by
  apply List.ext_getElem
  · simp; omega
  · intro i h3 h4
    rw [List.getElem_set]
    by_cases hik : k = i
    · subst hik
      rw [if_pos rfl, List.getElem_append_left (by simp; omega)]
      simp
    · rw [if_neg hik]
      by_cases hlt : i < k
      · rw [List.getElem_append_left (by simp; omega), List.getElem_append_left (by simp; omega)]
        simp
      · rw [List.getElem_append_right (by simp; omega), List.getElem_append_right (by simp; omega)]
        simp
        congr 1
        omega

set_option maxRecDepth 100000 in
set_option maxHeartbeats 400000 in
theorem c_laws_toInt64S (v : Value) (xs : List Int) (w : World) (h : Rd (RS RI) w [v] xs) (hsz : xs.length ≤ 1048576) :
    Calls Tryz.prog 149 #[v] w (RetO (RS RI) w xs) := by
  obtain ⟨oa, c1, I1⟩ := h.ints
  obtain rfl := I1.val
  have m1 := I1.le; have m2 := I1.capLe
  unfold maxLen at m2
  go_enter Tryz.func149, Tryz.ntmps149
  go_wp2_with (at_make; refine wpList_makeI rfl _ _ 48 rfl 2 tI64 _ _ _ _ xs.length rfl rfl rfl rfl (by omega) ?_; intro w1 hrow0 hb)
  go_wp2_with fail
  go_loopw [4] (fun i wr => ∃ k : Nat, k ≤ xs.length ∧ i = .int .i64 k ∧ Row wr (.slice (some ⟨w.heap.size, 0, none⟩) xs.length xs.length) 1 xs.length ((xs.take k ++ (List.replicate xs.length 0).drop k).map (Value.int .i64)) (some w.heap.size) ∧ Below w.heap.size w wr) (fun i _ => xs.length - (intOf i).toNat)
  case atStart => exact ⟨0, Nat.zero_le _, rfl, by simpa using hrow0, hb⟩
  case round =>
    obtain ⟨k, hk, rfl, hrow, hbr⟩ := hrel
    by_cases hlt : k < xs.length
    · obtain ⟨b1, o1, rfl, hb1, hc1⟩ := I1.get hlt
      have g1 := (hbr.cell (p := ⟨b1, o1 + k, none⟩) hb1).trans (hc1 k hlt)
      obtain ⟨hst, hgr⟩ := hrow.store k (.int .i64 xs[k])
      have hfz := hrow.frozen k
      have hcell := hrow.cells k ((xs.take k ++ (List.replicate xs.length 0).drop k)[k]'(by simp; omega) |> Value.int .i64) (by rw [List.getElem?_map, List.getElem?_eq_getElem (by simp; omega)]; rfl)
      have hbr' : Below w.heap.size w (wr.setCell ⟨w.heap.size, k, none⟩ (.int .i64 xs[k])) := hbr.setCell (Nat.le_refl _) _
      rw [map_set_int, set_take _ _ _ hlt (by simp; omega)] at hst
      clear hc1 hgr
      generalize ((xs.take k ++ (List.replicate xs.length 0).drop k)[k]'(by simp; omega) |> Value.int .i64) = old at hcell
      go_wp2_with fail
      go_roundw
      case rel => exact ⟨k + 1, by omega, by go_num, hst, hbr'⟩
      case measure => simp [intOf]; omega
    · have hke : k = xs.length := by omega
      have hfin : Row wr (.slice (some ⟨w.heap.size, 0, none⟩) xs.length xs.length) 1 xs.length (xs.map (Value.int .i64)) (some w.heap.size) := by
        have e : xs.take k ++ (List.replicate xs.length (0 : Int)).drop k = xs := by rw [hke]; simp
        rw [e] at hrow; exact hrow
      have Hke := Lib.hid hke
      clear hke
      go_wp2_with fail
      go_ret
      exact ⟨_, rfl, Row.OwnI hfin I1.bd (fun g hg => by cases hg; exact Nat.le_refl _), hbr⟩

theorem marks_set (xs : List Int) (k : Int) (i : Nat) (h : i < xs.length) : (marks i k ++ xs.drop i).set i (k + (i : Int)) = marks (i + 1) k ++ xs.drop (i + 1) := by
  have e : marks (i + 1) k = marks i k ++ [k + (i : Int)] := by simp [marks, List.range_succ]
  rw [e, List.set_append_right _ _ (by rw [marks_length]; exact Nat.le_refl _), marks_length, Nat.sub_self]
  have e2 : (xs.drop i).set 0 (k + (i : Int)) = (k + (i : Int)) :: xs.drop (i + 1) := by rw [List.drop_eq_getElem_cons h]; rfl
  rw [e2]; simp

set_option maxRecDepth 100000 in
set_option maxHeartbeats 400000 in
theorem c_laws_markInt64S (v : Value) (n : Nat) (xs : List Int) (og : Option Nat) (k : Int) (w : World) (h : Row w v 1 n (xs.map (Value.int .i64)) og) (hk0 : 0 ≤ k) (hk : k + n ≤ 4611686018427387904) :
    Calls Tryz.prog 108 #[v, .int .i64 k] w fun e w' => e = .returned (.int .i64 (k + n)) ∧ Row w' v 1 n ((marks n k).map (Value.int .i64)) og ∧ w.grownBy w' og := by
  have hlen : xs.length = n := by have := h.1; simpa using this
  obtain ⟨oa, cap, rfl, hle, hcap, _, hoa⟩ := h.value
  have Hoa := Lib.hid hoa
  have Hlen := Lib.hid hlen
  clear hoa hlen
  unfold maxLen at hcap
  go_enter Tryz.func108, Tryz.ntmps108
  go_wp2_with fail
  go_loopw [1, 5] (fun kk i wr => ∃ j : Nat, j ≤ n ∧ i = .int .i64 j ∧ kk = .int .i64 (k + j) ∧ Row wr (.slice oa n cap) 1 n ((marks j k ++ xs.drop j).map (Value.int .i64)) og ∧ w.grownBy wr og) (fun _ i _ => n - (intOf i).toNat)
  case atStart => exact ⟨0, Nat.zero_le _, rfl, by simp, by simpa [marks] using h, World.grownBy.refl _ _⟩
  case round =>
    obtain ⟨j, hj, rfl, rfl, hrow, hgr⟩ := hrel
    by_cases hlt : j < n
    · obtain ⟨g, hg⟩ := hrow.some_of hlt
      subst hg
      have ho := Hoa.out
      simp only [Option.map_some] at ho
      obtain rfl := ho
      obtain ⟨hst, hgr2⟩ := hrow.store j (.int .i64 (k + j))
      have hfz := hrow.frozen j
      have hx : j < (marks j k ++ xs.drop j).length := by rw [List.length_append, marks_length, List.length_drop, Hlen.out]; omega
      have hcell := hrow.cells j ((marks j k ++ xs.drop j)[j] |> Value.int .i64) (by rw [List.getElem?_map, List.getElem?_eq_getElem hx]; rfl)
      have hgr' : w.grownBy (wr.setCell ⟨g, j, none⟩ (.int .i64 (k + j))) (some g) :=
        ⟨hgr2.os.trans hgr.os, hgr2.tape.trans hgr.tape, hgr2.output.trans hgr.output, Nat.le_trans hgr.size hgr2.size, fun b hb hne => (hgr2.block b (Nat.lt_of_lt_of_le hb hgr.size) hne).trans (hgr.block b hb hne)⟩
      rw [map_set_int, marks_set _ _ _ (by rw [Hlen.out]; exact hlt)] at hst
      clear hgr2 hgr
      generalize ((marks j k ++ xs.drop j)[j] |> Value.int .i64) = old at hcell
      go_wp2_with fail
      go_roundw
      case rel => exact ⟨j + 1, by omega, by go_num, by go_num, hst, hgr'⟩
      case measure => simp [intOf]; omega
    · have hje : j = n := by omega
      have hfin : Row wr (.slice oa n cap) 1 n ((marks n k).map (Value.int .i64)) og := by
        have e : marks j k ++ xs.drop j = marks n k := by rw [hje, ← Hlen.out]; simp
        rw [e] at hrow; exact hrow
      have Hje := Lib.hid hje
      clear hje
      go_wp2_with fail
      go_ret
      exact ⟨by rw [Hje.out]; rfl, hfin, hgr⟩

set_option maxRecDepth 100000 in
set_option maxHeartbeats 400000 in
theorem c_laws_heldInt64S (v : Value) (n : Nat) (k : Int) (w : World) (h : Rd (RS RI) w [v] (marks n k)) (hk0 : 0 ≤ k) (hk : k + n ≤ 4611686018427387904) :
    Calls Tryz.prog 109 #[v, .int .i64 k] w (RetS w (.int .i64 (k + n))) := by
  obtain ⟨oa, c1, I1⟩ := h.ints
  obtain rfl := I1.val
  have m1 := I1.le; have m2 := I1.capLe
  unfold maxLen at m2
  have hlen := marks_length n k
  rw [hlen] at m1 ⊢
  go_enter Tryz.func109, Tryz.ntmps109
  go_wp2_with fail
  go_loop [1, 5] (fun kk i => ∃ j : Nat, j ≤ n ∧ i = .int .i64 j ∧ kk = .int .i64 (k + j)) (fun _ i => n - (intOf i).toNat)
  case atStart => exact ⟨0, Nat.zero_le _, rfl, by simp⟩
  case round =>
    obtain ⟨j, hj, rfl, rfl⟩ := hrel
    by_cases hlt : j < n
    · obtain ⟨b1, o1, rfl, hb1, hc1⟩ := I1.get (k := j) (by rw [hlen]; exact hlt)
      have g1 := hc1 j (by rw [hlen]; exact hlt)
      rw [marks_get n k j hlt] at g1
      have hne : ((k + (j : Int)) != (k + (j : Int))) = false := by simp
      clear hc1 hlen
      go_wp2_with fail
      go_round
      case rel => exact ⟨j + 1, by omega, by go_num, by go_num⟩
      case measure => simp [intOf]; omega
    · have hje : j = n := by omega
      have Hje := Lib.hid hje
      clear hje hlen
      go_wp2_with fail
      go_ret
      exact ⟨by rw [Hje.out]; rfl, rfl⟩

theorem marks_in64 (n : Nat) (k : Int) (h0 : 0 ≤ k) (h1 : k + n ≤ 4611686018427387904) : ∀ x ∈ marks n k, In64 x := by
  intro x hx
  simp [marks] at hx
  obtain ⟨i, hi, rfl⟩ := hx
  exact ⟨by omega, by omega⟩

/-- What a mark makes of a list of numbers, and how many it lays. -/
def mkd_I (xs : List Int) (k : Int) : List Int := marks xs.length k
def cnt_I (xs : List Int) : Nat := xs.length
theorem cntb_I (xs : List Int) (h : xs.length ≤ 1048576) : cnt_I xs ≤ 1048576 := h

theorem to_I (v : Value) (xs : List Int) (w : World) (h : Rd (RS RI) w [v] xs) (hsz : xs.length ≤ 1048576) :
    Calls Tryz.prog 149 #[v] w (RetO (RS RI) w xs) := c_laws_toInt64S v xs w h hsz

/-- Two lists that are equal. -/
theorem eqv_I (v1 v2 : Value) (xs : List Int) (w : World) (h1 : Rd (RS RI) w [v1] xs) (h2 : Rd (RS RI) w [v2] xs) :
    Calls Tryz.prog 153 #[v1, v2] w (RetV w (.bool true)) :=
  (c_laws_eqInt64S v1 v2 xs xs w h1 h2).mono fun e w' h => by simpa using h.toV

/-- A mark on an owned list. -/
theorem mark_I (v : Value) (xs : List Int) (lo hi : Nat) (k : Int) (w : World) (h : Own (RS RI) lo hi w [v] xs) (hk0 : 0 ≤ k) (hk : k + cnt_I xs ≤ 4611686018427387904) :
    Calls Tryz.prog 108 #[v, .int .i64 k] w fun e w' => e = .returned (.int .i64 (k + (cnt_I xs : Nat))) ∧ Own (RS RI) lo hi w' [v] (mkd_I xs k) ∧ Chg lo hi w w' := by
  obtain ⟨og, hrow, hb, hg⟩ := h.rowI
  refine (c_laws_markInt64S v xs.length xs og k w hrow hk0 hk).mono ?_
  rintro e w' ⟨h1, h2, h3⟩
  refine ⟨h1, ?_, Chg.of_grown h3 hg⟩
  have h2' : Row w' v 1 (marks xs.length k).length ((marks xs.length k).map (Value.int .i64)) og := by rw [marks_length]; exact h2
  exact h2'.OwnIh (marks_in64 _ _ hk0 hk) hg

theorem held_I (v : Value) (xs : List Int) (k : Int) (w : World) (h : Rd (RS RI) w [v] (mkd_I xs k)) (hk0 : 0 ≤ k) (hk : k + cnt_I xs ≤ 4611686018427387904) :
    Calls Tryz.prog 109 #[v, .int .i64 k] w (RetS w (.int .i64 (k + (cnt_I xs : Nat)))) := c_laws_heldInt64S v xs.length k w h hk0 hk

end Go.Proofs.YtacbkjmkjpjhoaaGreat
