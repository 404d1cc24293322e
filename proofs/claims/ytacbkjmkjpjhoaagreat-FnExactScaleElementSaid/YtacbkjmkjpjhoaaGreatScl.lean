/- ScaleElement: both programs. -/
import Derived.Test.YtacbkjmkjpjhoaaGreatSumT
import Derived.Test.YtacbkjmkjpjhoaaGreatAddT
import Derived.Test.YtacbkjmkjpjhoaaGreatElK
import Derived.Test.YtacbkjmkjpjhoaaGreatElPL
import Derived.Test.YtacbkjmkjpjhoaaGreatRetOC
import Derived.Test.YtacbkjmkjpjhoaaGreatPartC
import Derived.Test.YtacbkjmkjpjhoaaGreatGs
set_option linter.unusedSimpArgs false
set_option linter.unusedVariables false
namespace Go.Proofs.YtacbkjmkjpjhoaaGreat
open Go.RowKit

theorem elB_okE {e : Elt} (h : elB e = true) : OkE e ∧ e.length ≤ 300 ∧ ∀ p ∈ e, p.2.length ≤ 8 ∧ sumLen p.2 ≤ 8 := by
  obtain ⟨h1, h2, _, h4⟩ := elB_spec h
  have h5 : ∀ p ∈ e, p.2.length ≤ 8 ∧ sumLen p.2 ≤ 8 := fun p hp => ⟨forB_short (h4 p hp), (forB_spec (h4 p hp)).1⟩
  exact ⟨fun q hq => ⟨h2.2 q hq, by have := h5 q hq; exact ⟨by omega, by omega⟩⟩, h1, h5⟩
/-- The forests of a sum are those of its summands. -/
theorem addS_mem : ∀ {M d : Elt} {z : Int × List (List Int)}, z ∈ addS cmpF d M → ∃ q ∈ d ++ M, q.2 = z.2
  | [], d, z, h => ⟨z, by simpa [addS] using h, rfl⟩
  | q :: M, d, z, h => by
    obtain ⟨p, hp, e⟩ := addS_mem (M := M) (d := putS cmpF d q.1 q.2) h
    rcases List.mem_append.1 hp with hp | hp
    · rcases putS_mem d q.1 q.2 hp with h1 | ⟨r, hr, h1⟩
      · exact ⟨q, by simp, by rw [← h1, e]⟩
      · exact ⟨r, by simp [hr], by rw [h1, e]⟩
    · exact ⟨p, by simp [hp], e⟩

theorem mulE_comm (k : Int) (e : Elt) : mulE k e = e.map fun p => (mP (p.1 * k), p.2) := by
  unfold mulE; exact List.map_congr_left fun p _ => by rw [Int.mul_comm]

theorem cnt_P_le {a : Nat} : ∀ (e : Elt), (∀ p ∈ e, cnt_II p.2 ≤ a) → cnt_P e ≤ (1 + a) * e.length
  | [], _ => by simp [cnt_P]
  | p :: e, h => by
    have h1 := h p (by simp)
    have ih := cnt_P_le e (fun q hq => h q (by simp [hq]))
    simp only [cnt_P, List.length_cons]
    rw [Nat.mul_succ]; omega
theorem cnt_SmF {f : List (List Int)} (h : SmF f) : cnt_II f ≤ 200 := by
  obtain ⟨h1, h2⟩ := h
  unfold cnt_II
  omega
theorem addS_cnt {M : Elt} (hM : ∀ q ∈ M, (0 ≤ q.1 ∧ q.1 < 10007) ∧ SmF q.2) (hl : (sumS cmpF M).length ≤ 300) : cnt_P (sumS cmpF M) ≤ 1048576 := by
  have h1 := addS_okE OkE.nil hM
  have h2 := cnt_P_le (a := 200) (sumS cmpF M) (fun p hp => cnt_SmF (h1 p hp).2)
  omega
theorem limS_cnt {M : Elt} (hM : ∀ q ∈ M, (0 ≤ q.1 ∧ q.1 < 10007) ∧ SmF q.2) : cnt_P (limS (sumS cmpF M)).1 ≤ 1048576 := by
  unfold limS
  split
  · rename_i h
    exact addS_cnt hM h.1
  · simp [cnt_P]
theorem sclOf_cnt (e : Elt) (k : Int) : cnt_P (sclOf e k).1 ≤ 1048576 := by
  unfold sclOf
  split
  · rename_i h
    obtain ⟨ho, hl, _⟩ := elB_okE h
    split
    · have h2 := addS_len (e.map fun p => (mP (p.1 * k), p.2)) []
      simp only [List.length_map, List.length_nil] at h2
      have hq : ∀ q ∈ e.map (fun p => (mP (p.1 * k), p.2)), (0 ≤ q.1 ∧ q.1 < 10007) ∧ SmF q.2 := fun q hq => by
        obtain ⟨p, hp, rfl⟩ := List.mem_map.1 hq
        exact ⟨mP_range _, (ho p hp).2⟩
      exact addS_cnt hq (by show (addS cmpF [] _).length ≤ 300; omega)
    · simp [cnt_P]
  · simp [cnt_P]

set_option maxHeartbeats 2000000 in
theorem a_multiples (e : Elt) (k : Int) (he : ∀ q ∈ e, 0 ≤ q.1 ∧ q.1 < 10007) (hk : 0 ≤ k ∧ k < 10007) (hl : e.length ≤ 1000000) : AFn Tryz.prog 55 [[.sl 2 (e.map ePt)], eI k] (· = [.own 2 ((e.map fun p => (mP (p.1 * k), p.2)).map ePt) false]) := by
  have hmk := mP_small hk.1 hk.2
  refine AFn.of_runs (cfg_ok 29) Tryz.func55 rfl rfl rfl (by simp only [List.length_cons, List.length_nil]; decide) ?_
  have hres : Tryz.f55.results.toList = [.tmp 4] := rfl
  have hrts : Tryz.f55.resultTypes.toList = [24] := rfl
  simp only [argRegs, argAV1, eL, eI, eLL, eB, Nat.zero_add, Nat.reduceAdd]
  intro M
  refine RunK.of ?_
  repeat' (first | with_reducible (first | refine Q1 ?_ | refine Q2 ?_ | refine Q3 ?_ | refine Q4 ?_ | refine Q5 ?_ | refine Q6 ?_ | refine Q7 ?_ | refine Q8 ?_ | refine Q9 ?_ | refine Qa ?_ | refine Qb ?_ | refine Qc ?_ | refine Qd ?_ | refine Qe ?_ | refine Qf ?_) | ((with_reducible refine Qo ?_ ?_); focus rfl) | ((with_reducible first | refine QT 12 (l := ?_) ?_ ?_ | refine QF 12 (l := ?_) ?_ ?_); rotate_left 1; focus (simp only [Zu, Nat.reduceSub, Nat.reduceBEq]; with_reducible rfl)) | ((with_reducible first | refine QS (cfg_ok 29) Tab.none (s' := ?_) ?_ ?_ | refine QC (b := ?_) ?_ ?_); rotate_left 1; focus ((with_reducible refine QW ?_); simp only [Zg, Nat.reduceEqDiff, Nat.reduceLT, Nat.reduceLeDiff, reduceIte, if_true, if_false, reduceCtorEq, Nat.reduceAdd, Nat.reduceMul, Nat.reduceSub, Nat.reduceBEq, Nat.reduceBNe, Int.reduceLE, Int.reduceLT, Int.reduceNeg, Int.reduceAdd, Int.reduceSub, Int.reduceMul, Int.reduceToNat, Int.reduceEq, ite_true, ite_false]; with_reducible rfl)) | ((with_reducible refine QD (cfg_ok 29) Tab.none mixed_ok (tr := ?_) (s' := ?_) ?_ ?_ ?_); rotate_left 2; (focus ((with_reducible refine QW ?_); simp only [Zg, Zd, Nat.reduceEqDiff, Nat.reduceLT, Nat.reduceLeDiff, reduceIte, if_true, if_false, reduceCtorEq, Nat.reduceAdd, Nat.reduceMul, Nat.reduceSub, Nat.reduceBEq, Nat.reduceBNe, Int.reduceLE, Int.reduceLT, Int.reduceNeg, Int.reduceAdd, Int.reduceSub, Int.reduceMul, Int.reduceToNat, Int.reduceEq, ite_true, ite_false]; with_reducible rfl)); focus ((with_reducible refine QK ?_); simp only [Zk]; kernel_rfl)))
  refine RunK.loop (β := Nat) (γ := Unit) (fun i => ⟨[(1, .c (.val (.int k))), (5, .c (.own 5 i)), (9, .c (.val (.sl 2 (e.map ePt)))), (10, .c (.val (.int e.length))), (11, .c (.val (.int i)))], [(5, .row 2 (((e.take i).map fun p => (mP (p.1 * k), p.2)).map ePt) false)]⟩) (fun i => i ≤ e.length) (fun i => e.length - i)
    (fun _ => ⟨[(5, .c (.own 5 e.length))], [(5, .row 2 ((e.map fun p => (mP (p.1 * k), p.2)).map ePt) false)]⟩) (fun _ => True) 0 (Nat.zero_le _) ?_ ?_ ?_
  · (repeat' (first | with_reducible refine Qn | ((with_reducible refine Qr ?_ ?_); focus (first | with_reducible rfl | (simp only [Zz, Nat.reduceBEq, List.take_zero, List.map_nil, List.length_map]; done) | rfl)) | ((with_reducible refine Qj (o' := ?_) ?_ ?_ ?_); rotate_left 1; focus rfl) | ((with_reducible refine Qw ?_ ?_); (focus (first | with_reducible rfl | (simp only [Zv, List.take_zero, List.map_nil, List.length_map]; done))); focus (first | exact id | exact (fun h => nomatch h) | exact (fun _ => rfl)))))
  · intro i hi
    have hi : i ≤ e.length := hi
    have hw := w64_succ (n := i) (by omega)
    by_cases h : i < e.length
    · have i1 : ((i : Int) < (e.length : Int)) = True := eq_true (by omega)
      have i2 : ((0 : Int) ≤ (i : Int)) = True := eq_true (by omega)
      obtain ⟨z, hz⟩ : ∃ z, z = e[i] := ⟨_, rfl⟩
      have hz1 := he e[i] (List.getElem_mem _)
      have hg : (e.map ePt)[i]? = some [.int z.1, .sl 1 (z.2.map eL)] := by rw [map_get h, hz]; rfl
      rw [← hz] at hz1
      have hlt : (((e.take i).map fun p => (mP (p.1 * k), p.2)).map ePt).length = i := by rw [List.length_map, List.length_map, List.length_take]; omega
      have hle : (e.map ePt).length = e.length := List.length_map _
      have hb := small_mul hz1 hk
      have hwm := w64_eq (n := z.1 * k) (by omega)
      have q1 := big_le (n := i + 1) (by omega)
      have q2 := big_mul (n := i + 1) (c := 32) (by omega) (by omega)
      have htk : (e.take (i + 1)).map (fun p => (mP (p.1 * k), p.2)) = (e.take i).map (fun p => (mP (p.1 * k), p.2)) ++ [(mP (z.1 * k), z.2)] := by rw [hz, List.take_succ_eq_append_getElem h, List.map_append]; rfl
      repeat' (first | with_reducible (first | refine Q1 ?_ | refine Q2 ?_ | refine Q3 ?_ | refine Q4 ?_ | refine Q5 ?_ | refine Q6 ?_ | refine Q7 ?_ | refine Q8 ?_ | refine Q9 ?_ | refine Qa ?_ | refine Qb ?_ | refine Qc ?_ | refine Qd ?_ | refine Qe ?_ | refine Qf ?_) | ((with_reducible refine Qo ?_ ?_); focus rfl) | ((with_reducible first | refine QT 12 (l := ?_) ?_ ?_ | refine QF 12 (l := ?_) ?_ ?_); rotate_left 1; focus (simp only [Zu, Nat.reduceSub, Nat.reduceBEq]; with_reducible rfl)) | ((with_reducible first | refine QS (cfg_ok 29) TSm (s' := ?_) ?_ ?_ | refine QC (b := ?_) ?_ ?_); rotate_left 1; focus ((with_reducible refine QW ?_); simp only [Zg, Nat.reduceEqDiff, Nat.reduceLT, Nat.reduceLeDiff, reduceIte, if_true, if_false, reduceCtorEq, Nat.reduceAdd, Nat.reduceMul, Nat.reduceSub, Nat.reduceBEq, Nat.reduceBNe, Int.reduceLE, Int.reduceLT, Int.reduceNeg, Int.reduceAdd, Int.reduceSub, Int.reduceMul, Int.reduceToNat, Int.reduceEq, ite_true, ite_false, TSm, TSm, hmk, i1, i2, hg, hw, hwm, q1, q2, hlt, hle, Int.toNat_natCast]; with_reducible rfl)) | ((with_reducible refine QD (cfg_ok 29) TSm mixed_ok (tr := ?_) (s' := ?_) ?_ ?_ ?_); rotate_left 2; (focus ((with_reducible refine QW ?_); simp only [Zg, Zd, Nat.reduceEqDiff, Nat.reduceLT, Nat.reduceLeDiff, reduceIte, if_true, if_false, reduceCtorEq, Nat.reduceAdd, Nat.reduceMul, Nat.reduceSub, Nat.reduceBEq, Nat.reduceBNe, Int.reduceLE, Int.reduceLT, Int.reduceNeg, Int.reduceAdd, Int.reduceSub, Int.reduceMul, Int.reduceToNat, Int.reduceEq, ite_true, ite_false, TSm, TSm, hmk, i1, i2, hg, hw, hwm, q1, q2, hlt, hle, Int.toNat_natCast]; with_reducible rfl)); focus ((with_reducible refine QK ?_); simp only [Zk]; kernel_rfl)))
      refine roundK.on (i + 1) ⟨h, by omega⟩ ?_
      rw [htk]
      (repeat' (first | with_reducible refine Qn | ((with_reducible refine Qr ?_ ?_); focus (first | with_reducible rfl | (simp only [Zz, Nat.reduceBEq, ePt]; done) | rfl)) | ((with_reducible refine Qj (o' := ?_) ?_ ?_ ?_); rotate_left 1; focus rfl) | ((with_reducible refine Qw ?_ ?_); (focus (first | with_reducible rfl | (simp only [Zv, ePt]; done))); focus (first | exact id | exact (fun h => nomatch h) | exact (fun _ => rfl)))))
    · have i1 : ((i : Int) < (e.length : Int)) = False := eq_false (by omega)
      obtain rfl : i = e.length := by omega
      rw [List.take_length]
      repeat' (first | with_reducible (first | refine Q1 ?_ | refine Q2 ?_ | refine Q3 ?_ | refine Q4 ?_ | refine Q5 ?_ | refine Q6 ?_ | refine Q7 ?_ | refine Q8 ?_ | refine Q9 ?_ | refine Qa ?_ | refine Qb ?_ | refine Qc ?_ | refine Qd ?_ | refine Qe ?_ | refine Qf ?_) | ((with_reducible refine Qo ?_ ?_); focus rfl) | ((with_reducible first | refine QT 12 (l := ?_) ?_ ?_ | refine QF 12 (l := ?_) ?_ ?_); rotate_left 1; focus (simp only [Zu, Nat.reduceSub, Nat.reduceBEq]; with_reducible rfl)) | ((with_reducible first | refine QS (cfg_ok 29) Tab.none (s' := ?_) ?_ ?_ | refine QC (b := ?_) ?_ ?_); rotate_left 1; focus ((with_reducible refine QW ?_); simp only [Zg, Nat.reduceEqDiff, Nat.reduceLT, Nat.reduceLeDiff, reduceIte, if_true, if_false, reduceCtorEq, Nat.reduceAdd, Nat.reduceMul, Nat.reduceSub, Nat.reduceBEq, Nat.reduceBNe, Int.reduceLE, Int.reduceLT, Int.reduceNeg, Int.reduceAdd, Int.reduceSub, Int.reduceMul, Int.reduceToNat, Int.reduceEq, ite_true, ite_false, i1, List.length_map]; with_reducible rfl)) | ((with_reducible refine QD (cfg_ok 29) Tab.none mixed_ok (tr := ?_) (s' := ?_) ?_ ?_ ?_); rotate_left 2; (focus ((with_reducible refine QW ?_); simp only [Zg, Zd, Nat.reduceEqDiff, Nat.reduceLT, Nat.reduceLeDiff, reduceIte, if_true, if_false, reduceCtorEq, Nat.reduceAdd, Nat.reduceMul, Nat.reduceSub, Nat.reduceBEq, Nat.reduceBNe, Int.reduceLE, Int.reduceLT, Int.reduceNeg, Int.reduceAdd, Int.reduceSub, Int.reduceMul, Int.reduceToNat, Int.reduceEq, ite_true, ite_false, i1, List.length_map]; with_reducible rfl)); focus ((with_reducible refine QK ?_); simp only [Zk]; kernel_rfl)))
      refine roundK.out () trivial ?_
      (repeat' (first | with_reducible refine Qn | ((with_reducible refine Qr ?_ ?_); focus (first | with_reducible rfl | (simp only [Zz, Nat.reduceBEq]; done) | rfl)) | ((with_reducible refine Qj (o' := ?_) ?_ ?_ ?_); rotate_left 1; focus rfl) | ((with_reducible refine Qw ?_ ?_); (focus (first | with_reducible rfl | (simp only [Zv]; done))); focus (first | exact id | exact (fun h => nomatch h) | exact (fun _ => rfl)))))
  · rintro _ _
    repeat' (first | with_reducible (first | refine Q1 ?_ | refine Q2 ?_ | refine Q3 ?_ | refine Q4 ?_ | refine Q5 ?_ | refine Q6 ?_ | refine Q7 ?_ | refine Q8 ?_ | refine Q9 ?_ | refine Qa ?_ | refine Qb ?_ | refine Qc ?_ | refine Qd ?_ | refine Qe ?_ | refine Qf ?_) | ((with_reducible refine Qo ?_ ?_); focus rfl) | ((with_reducible first | refine QT 12 (l := ?_) ?_ ?_ | refine QF 12 (l := ?_) ?_ ?_); rotate_left 1; focus (simp only [Zu, Nat.reduceSub, Nat.reduceBEq]; with_reducible rfl)) | ((with_reducible first | refine QS (cfg_ok 29) Tab.none (s' := ?_) ?_ ?_ | refine QC (b := ?_) ?_ ?_); rotate_left 1; focus ((with_reducible refine QW ?_); simp only [Zg, Nat.reduceEqDiff, Nat.reduceLT, Nat.reduceLeDiff, reduceIte, if_true, if_false, reduceCtorEq, Nat.reduceAdd, Nat.reduceMul, Nat.reduceSub, Nat.reduceBEq, Nat.reduceBNe, Int.reduceLE, Int.reduceLT, Int.reduceNeg, Int.reduceAdd, Int.reduceSub, Int.reduceMul, Int.reduceToNat, Int.reduceEq, ite_true, ite_false]; with_reducible rfl)) | ((with_reducible refine QD (cfg_ok 29) Tab.none mixed_ok (tr := ?_) (s' := ?_) ?_ ?_ ?_); rotate_left 2; (focus ((with_reducible refine QW ?_); simp only [Zg, Zd, Nat.reduceEqDiff, Nat.reduceLT, Nat.reduceLeDiff, reduceIte, if_true, if_false, reduceCtorEq, Nat.reduceAdd, Nat.reduceMul, Nat.reduceSub, Nat.reduceBEq, Nat.reduceBNe, Int.reduceLE, Int.reduceLT, Int.reduceNeg, Int.reduceAdd, Int.reduceSub, Int.reduceMul, Int.reduceToNat, Int.reduceEq, ite_true, ite_false]; with_reducible rfl)); focus ((with_reducible refine QK ?_); simp only [Zk]; kernel_rfl)))
    (refine Ends.mk (by simp) (rs := ?_) (ks := ?_) hres hrts ?_ ?_ ?_; rotate_left 2; (focus (simp only [Ze, Zg, Nat.reduceEqDiff, Nat.reduceLT, Nat.reduceLeDiff, reduceIte, if_true, if_false, reduceCtorEq, Nat.reduceAdd, Nat.reduceMul, Nat.reduceSub, Nat.reduceBEq, Nat.reduceBNe, Int.reduceLE, Int.reduceLT, Int.reduceNeg, Int.reduceAdd, Int.reduceSub, Int.reduceMul, Int.reduceToNat, Int.reduceEq, ite_true, ite_false]; with_reducible rfl)); (focus simp); focus (first | with_reducible rfl | (simp only [Zv]; done)))

theorem a_impl_ScaleElement (e : Elt) (k : Int) (hz : szP e) : AFn Tryz.prog 15 [[.sl 2 (e.map ePt)], eI k] (· = [.own 2 ((sclOf e k).1.map ePt) true, .val (.int (sclOf e k).2)]) := by
  have h1 := a_impl_IsElement e hz
  have h2 := a_impl_IsNumber k
  unfold sclOf
  refine AFn.of_runs (cfg_ok 18) Tryz.func15 rfl rfl rfl (by simp only [List.length_cons, List.length_nil]; decide) ?_
  have hres : Tryz.f15.results.toList = [.tmp 4, .tmp 5] := rfl
  have hrts : Tryz.f15.resultTypes.toList = [24, 2] := rfl
  simp only [argRegs, argAV1, eL, eI, eLL, eB, Nat.zero_add, Nat.reduceAdd]
  intro M
  refine RunK.of ?_
  by_cases hE : elB e = true
  rotate_left
  · have hE' : elB e = false := by simpa using hE
    rw [if_neg hE]
    rw [hE'] at h1
    repeat' (first | with_reducible (first | refine Q1 ?_ | refine Q2 ?_ | refine Q3 ?_ | refine Q4 ?_ | refine Q5 ?_ | refine Q6 ?_ | refine Q7 ?_ | refine Q8 ?_ | refine Q9 ?_ | refine Qa ?_ | refine Qb ?_ | refine Qc ?_ | refine Qd ?_ | refine Qe ?_ | refine Qf ?_) | ((with_reducible refine Qo ?_ ?_); focus rfl) | ((with_reducible first | refine QT 6 (l := ?_) ?_ ?_ | refine QF 6 (l := ?_) ?_ ?_); rotate_left 1; focus (simp only [Zu, Nat.reduceSub, Nat.reduceBEq]; with_reducible rfl)) | ((with_reducible first | refine QS (cfg_ok 18) (Tab.none.at' 34 h1) (s' := ?_) ?_ ?_ | refine QC (b := ?_) ?_ ?_); rotate_left 1; focus ((with_reducible refine QW ?_); simp only [Zg, Nat.reduceEqDiff, Nat.reduceLT, Nat.reduceLeDiff, reduceIte, if_true, if_false, reduceCtorEq, Nat.reduceAdd, Nat.reduceMul, Nat.reduceSub, Nat.reduceBEq, Nat.reduceBNe, Int.reduceLE, Int.reduceLT, Int.reduceNeg, Int.reduceAdd, Int.reduceSub, Int.reduceMul, Int.reduceToNat, Int.reduceEq, ite_true, ite_false]; with_reducible rfl)))
    (refine Ends.mk (by simp) (rs := ?_) (ks := ?_) hres hrts ?_ ?_ ?_; rotate_left 2; (focus (simp only [Ze, Zg, Nat.reduceEqDiff, Nat.reduceLT, Nat.reduceLeDiff, reduceIte, if_true, if_false, reduceCtorEq, Nat.reduceAdd, Nat.reduceMul, Nat.reduceSub, Nat.reduceBEq, Nat.reduceBNe, Int.reduceLE, Int.reduceLT, Int.reduceNeg, Int.reduceAdd, Int.reduceSub, Int.reduceMul, Int.reduceToNat, Int.reduceEq, ite_true, ite_false]; with_reducible rfl)); (focus simp); focus (first | with_reducible rfl | (simp only [Zv]; done)))
  rw [hE] at h1
  rw [if_pos hE]
  by_cases hK : inR k 0 10006 = true
  rotate_left
  · have hK' : isNum k = false := by simpa [isNum] using hK
    rw [if_neg hK]
    rw [hK'] at h2
    simp only [eI] at h2
    repeat' (first | with_reducible (first | refine Q1 ?_ | refine Q2 ?_ | refine Q3 ?_ | refine Q4 ?_ | refine Q5 ?_ | refine Q6 ?_ | refine Q7 ?_ | refine Q8 ?_ | refine Q9 ?_ | refine Qa ?_ | refine Qb ?_ | refine Qc ?_ | refine Qd ?_ | refine Qe ?_ | refine Qf ?_) | ((with_reducible refine Qo ?_ ?_); focus rfl) | ((with_reducible first | refine QT 6 (l := ?_) ?_ ?_ | refine QF 6 (l := ?_) ?_ ?_); rotate_left 1; focus (simp only [Zu, Nat.reduceSub, Nat.reduceBEq]; with_reducible rfl)) | ((with_reducible first | refine QS (cfg_ok 18) ((Tab.none.at' 34 h1).at' 53 h2) (s' := ?_) ?_ ?_ | refine QC (b := ?_) ?_ ?_); rotate_left 1; focus ((with_reducible refine QW ?_); simp only [Zg, Nat.reduceEqDiff, Nat.reduceLT, Nat.reduceLeDiff, reduceIte, if_true, if_false, reduceCtorEq, Nat.reduceAdd, Nat.reduceMul, Nat.reduceSub, Nat.reduceBEq, Nat.reduceBNe, Int.reduceLE, Int.reduceLT, Int.reduceNeg, Int.reduceAdd, Int.reduceSub, Int.reduceMul, Int.reduceToNat, Int.reduceEq, ite_true, ite_false]; with_reducible rfl)))
    (refine Ends.mk (by simp) (rs := ?_) (ks := ?_) hres hrts ?_ ?_ ?_; rotate_left 2; (focus (simp only [Ze, Zg, Nat.reduceEqDiff, Nat.reduceLT, Nat.reduceLeDiff, reduceIte, if_true, if_false, reduceCtorEq, Nat.reduceAdd, Nat.reduceMul, Nat.reduceSub, Nat.reduceBEq, Nat.reduceBNe, Int.reduceLE, Int.reduceLT, Int.reduceNeg, Int.reduceAdd, Int.reduceSub, Int.reduceMul, Int.reduceToNat, Int.reduceEq, ite_true, ite_false]; with_reducible rfl)); (focus simp); focus (first | with_reducible rfl | (simp only [Zv]; done)))
  rw [if_pos hK]
  rw [show isNum k = true from hK] at h2
  obtain ⟨ho, hl, hsm⟩ := elB_okE hE
  have hkb : 0 ≤ k ∧ k < 10007 := by
    unfold inR at hK
    simp at hK
    omega
  have h3 := a_multiples e k (fun q hq => by have := (ho q hq).1; omega) hkb (by omega)
  have h4 := a_summed (e.map fun p => (mP (p.1 * k), p.2)) (by rw [List.length_map]; omega) (fun z hz' => by
    obtain ⟨p, hp, rfl⟩ := List.mem_map.1 hz'
    have := hsm p hp
    exact ⟨mP_range _, by simp only; omega, by simp only; omega⟩)
  simp only [eI] at h2 h3
  repeat' (first | with_reducible (first | refine Q1 ?_ | refine Q2 ?_ | refine Q3 ?_ | refine Q4 ?_ | refine Q5 ?_ | refine Q6 ?_ | refine Q7 ?_ | refine Q8 ?_ | refine Q9 ?_ | refine Qa ?_ | refine Qb ?_ | refine Qc ?_ | refine Qd ?_ | refine Qe ?_ | refine Qf ?_) | ((with_reducible refine Qo ?_ ?_); focus rfl) | ((with_reducible first | refine QT 6 (l := ?_) ?_ ?_ | refine QF 6 (l := ?_) ?_ ?_); rotate_left 1; focus (simp only [Zu, Nat.reduceSub, Nat.reduceBEq]; with_reducible rfl)) | ((with_reducible first | refine QS (cfg_ok 18) ((((Tab.none.at' 34 h1).at' 53 h2).at' 55 h3).at' 54 h4) (s' := ?_) ?_ ?_ | refine QC (b := ?_) ?_ ?_); rotate_left 1; focus ((with_reducible refine QW ?_); simp only [Zg, Nat.reduceEqDiff, Nat.reduceLT, Nat.reduceLeDiff, reduceIte, if_true, if_false, reduceCtorEq, Nat.reduceAdd, Nat.reduceMul, Nat.reduceSub, Nat.reduceBEq, Nat.reduceBNe, Int.reduceLE, Int.reduceLT, Int.reduceNeg, Int.reduceAdd, Int.reduceSub, Int.reduceMul, Int.reduceToNat, Int.reduceEq, ite_true, ite_false]; with_reducible rfl)))
  (refine Ends.mk (by simp) (rs := ?_) (ks := ?_) hres hrts ?_ ?_ ?_; rotate_left 2; (focus (simp only [Ze, Zg, Nat.reduceEqDiff, Nat.reduceLT, Nat.reduceLeDiff, reduceIte, if_true, if_false, reduceCtorEq, Nat.reduceAdd, Nat.reduceMul, Nat.reduceSub, Nat.reduceBEq, Nat.reduceBNe, Int.reduceLE, Int.reduceLT, Int.reduceNeg, Int.reduceAdd, Int.reduceSub, Int.reduceMul, Int.reduceToNat, Int.reduceEq, ite_true, ite_false]; with_reducible rfl)); (focus simp); focus (first | with_reducible rfl | (simp only [Zv]; done)))

theorem a_spec_ScaleElement (e : Elt) (k : Int) (hz : szP e) : ∃ b, AFn Tryz.prog 13 [[.sl 2 (e.map ePt)], eI k] (· = [.own 2 ((sclOf e k).1.map ePt) b, .val (.int (sclOf e k).2)]) := by
  have h1 := a_l06Is e hz
  have h2 := a_spec_l01In k 0 10006
  unfold sclOf
  by_cases hE : elB e = true
  rotate_left
  · have hE' : elB e = false := by simpa using hE
    rw [if_neg hE]
    rw [hE'] at h1
    refine ⟨true, ?_⟩
    refine AFn.of_runs (cfg_ok 20) Tryz.func13 rfl rfl rfl (by simp only [List.length_cons, List.length_nil]; decide) ?_
    have hres : Tryz.f13.results.toList = [.tmp 4, .tmp 5] := rfl
    have hrts : Tryz.f13.resultTypes.toList = [24, 2] := rfl
    simp only [argRegs, argAV1, eL, eI, eLL, eB, Nat.zero_add, Nat.reduceAdd]
    intro M
    refine RunK.of ?_
    repeat' (first | with_reducible (first | refine Q1 ?_ | refine Q2 ?_ | refine Q3 ?_ | refine Q4 ?_ | refine Q5 ?_ | refine Q6 ?_ | refine Q7 ?_ | refine Q8 ?_ | refine Q9 ?_ | refine Qa ?_ | refine Qb ?_ | refine Qc ?_ | refine Qd ?_ | refine Qe ?_ | refine Qf ?_) | ((with_reducible refine Qo ?_ ?_); focus rfl) | ((with_reducible first | refine QT 6 (l := ?_) ?_ ?_ | refine QF 6 (l := ?_) ?_ ?_); rotate_left 1; focus (simp only [Zu, Nat.reduceSub, Nat.reduceBEq]; with_reducible rfl)) | ((with_reducible first | refine QS (cfg_ok 20) (Tab.none.at' 48 h1) (s' := ?_) ?_ ?_ | refine QC (b := ?_) ?_ ?_); rotate_left 1; focus ((with_reducible refine QW ?_); simp only [Zg, Nat.reduceEqDiff, Nat.reduceLT, Nat.reduceLeDiff, reduceIte, if_true, if_false, reduceCtorEq, Nat.reduceAdd, Nat.reduceMul, Nat.reduceSub, Nat.reduceBEq, Nat.reduceBNe, Int.reduceLE, Int.reduceLT, Int.reduceNeg, Int.reduceAdd, Int.reduceSub, Int.reduceMul, Int.reduceToNat, Int.reduceEq, ite_true, ite_false]; with_reducible rfl)))
    (refine Ends.mk (by simp) (rs := ?_) (ks := ?_) hres hrts ?_ ?_ ?_; rotate_left 2; (focus (simp only [Ze, Zg, Nat.reduceEqDiff, Nat.reduceLT, Nat.reduceLeDiff, reduceIte, if_true, if_false, reduceCtorEq, Nat.reduceAdd, Nat.reduceMul, Nat.reduceSub, Nat.reduceBEq, Nat.reduceBNe, Int.reduceLE, Int.reduceLT, Int.reduceNeg, Int.reduceAdd, Int.reduceSub, Int.reduceMul, Int.reduceToNat, Int.reduceEq, ite_true, ite_false]; with_reducible rfl)); (focus simp); focus (first | with_reducible rfl | (simp only [Zv]; done)))
  rw [hE] at h1
  rw [if_pos hE]
  by_cases hK : inR k 0 10006 = true
  rotate_left
  · have hK' : inR k 0 10006 = false := by simpa using hK
    rw [if_neg hK]
    rw [hK'] at h2
    simp only [eI] at h2
    refine ⟨true, ?_⟩
    refine AFn.of_runs (cfg_ok 20) Tryz.func13 rfl rfl rfl (by simp only [List.length_cons, List.length_nil]; decide) ?_
    have hres : Tryz.f13.results.toList = [.tmp 4, .tmp 5] := rfl
    have hrts : Tryz.f13.resultTypes.toList = [24, 2] := rfl
    simp only [argRegs, argAV1, eL, eI, eLL, eB, Nat.zero_add, Nat.reduceAdd]
    intro M
    refine RunK.of ?_
    repeat' (first | with_reducible (first | refine Q1 ?_ | refine Q2 ?_ | refine Q3 ?_ | refine Q4 ?_ | refine Q5 ?_ | refine Q6 ?_ | refine Q7 ?_ | refine Q8 ?_ | refine Q9 ?_ | refine Qa ?_ | refine Qb ?_ | refine Qc ?_ | refine Qd ?_ | refine Qe ?_ | refine Qf ?_) | ((with_reducible refine Qo ?_ ?_); focus rfl) | ((with_reducible first | refine QT 6 (l := ?_) ?_ ?_ | refine QF 6 (l := ?_) ?_ ?_); rotate_left 1; focus (simp only [Zu, Nat.reduceSub, Nat.reduceBEq]; with_reducible rfl)) | ((with_reducible first | refine QS (cfg_ok 20) ((Tab.none.at' 48 h1).at' 49 h2) (s' := ?_) ?_ ?_ | refine QC (b := ?_) ?_ ?_); rotate_left 1; focus ((with_reducible refine QW ?_); simp only [Zg, Nat.reduceEqDiff, Nat.reduceLT, Nat.reduceLeDiff, reduceIte, if_true, if_false, reduceCtorEq, Nat.reduceAdd, Nat.reduceMul, Nat.reduceSub, Nat.reduceBEq, Nat.reduceBNe, Int.reduceLE, Int.reduceLT, Int.reduceNeg, Int.reduceAdd, Int.reduceSub, Int.reduceMul, Int.reduceToNat, Int.reduceEq, ite_true, ite_false]; with_reducible rfl)))
    (refine Ends.mk (by simp) (rs := ?_) (ks := ?_) hres hrts ?_ ?_ ?_; rotate_left 2; (focus (simp only [Ze, Zg, Nat.reduceEqDiff, Nat.reduceLT, Nat.reduceLeDiff, reduceIte, if_true, if_false, reduceCtorEq, Nat.reduceAdd, Nat.reduceMul, Nat.reduceSub, Nat.reduceBEq, Nat.reduceBNe, Int.reduceLE, Int.reduceLT, Int.reduceNeg, Int.reduceAdd, Int.reduceSub, Int.reduceMul, Int.reduceToNat, Int.reduceEq, ite_true, ite_false]; with_reducible rfl)); (focus simp); focus (first | with_reducible rfl | (simp only [Zv]; done)))
  rw [if_pos hK]
  rw [hK] at h2
  obtain ⟨ho, hl, hsm⟩ := elB_okE hE
  have hkb : 0 ≤ k ∧ k < 10007 := by
    unfold inR at hK
    simp at hK
    omega
  have hml : (mulE k e).length = e.length := by unfold mulE; simp
  have hal := addS_len (mulE k e) []
  rw [hml] at hal
  simp only [List.length_nil] at hal
  have h3 := a_l06Add [] e k OkE.nil ho hkb (by simp only [List.length_nil]; omega)
  obtain ⟨b, h4⟩ := a_l06Own (addS cmpF [] (mulE k e)) (addS_okE OkE.nil (mulE_ok ho)) (by omega)
  have hlim : limS (addS cmpF [] (mulE k e)) = (sumS cmpF (e.map fun p => (mP (p.1 * k), p.2)), 0) := by
    have hc : (addS cmpF [] (mulE k e)).length ≤ 300 ∧ ∀ p ∈ addS cmpF [] (mulE k e), sumLen p.2 ≤ 8 := by
      refine ⟨by omega, fun p hp => ?_⟩
      obtain ⟨q, hq, e1⟩ := addS_mem hp
      rw [List.nil_append] at hq
      obtain ⟨r, hr, e2⟩ := List.mem_map.1 hq
      rw [← e1, ← e2]
      exact (hsm r hr).2
    unfold limS
    rw [if_pos hc, mulE_comm]
    rfl
  rw [hlim] at h4
  refine ⟨b, ?_⟩
  simp only [eI, List.map_nil] at h2 h3
  refine AFn.of_runs (cfg_ok 20) Tryz.func13 rfl rfl rfl (by simp only [List.length_cons, List.length_nil]; decide) ?_
  have hres : Tryz.f13.results.toList = [.tmp 4, .tmp 5] := rfl
  have hrts : Tryz.f13.resultTypes.toList = [24, 2] := rfl
  simp only [argRegs, argAV1, eL, eI, eLL, eB, Nat.zero_add, Nat.reduceAdd]
  intro M
  refine RunK.of ?_
  repeat' (first | with_reducible (first | refine Q1 ?_ | refine Q2 ?_ | refine Q3 ?_ | refine Q4 ?_ | refine Q5 ?_ | refine Q6 ?_ | refine Q7 ?_ | refine Q8 ?_ | refine Q9 ?_ | refine Qa ?_ | refine Qb ?_ | refine Qc ?_ | refine Qd ?_ | refine Qe ?_ | refine Qf ?_) | ((with_reducible refine Qo ?_ ?_); focus rfl) | ((with_reducible first | refine QT 6 (l := ?_) ?_ ?_ | refine QF 6 (l := ?_) ?_ ?_); rotate_left 1; focus (simp only [Zu, Nat.reduceSub, Nat.reduceBEq]; with_reducible rfl)) | ((with_reducible first | refine QS (cfg_ok 20) ((Tab.none.at' 48 h1).at' 49 h2) (s' := ?_) ?_ ?_ | refine QC (b := ?_) ?_ ?_); rotate_left 1; focus ((with_reducible refine QW ?_); simp only [Zg, Nat.reduceEqDiff, Nat.reduceLT, Nat.reduceLeDiff, reduceIte, if_true, if_false, reduceCtorEq, Nat.reduceAdd, Nat.reduceMul, Nat.reduceSub, Nat.reduceBEq, Nat.reduceBNe, Int.reduceLE, Int.reduceLT, Int.reduceNeg, Int.reduceAdd, Int.reduceSub, Int.reduceMul, Int.reduceToNat, Int.reduceEq, ite_true, ite_false]; with_reducible rfl)))
  refine RunK.regCut (cfg_ok 20) Tab.none 2 (s1 := ?_) ?_ ?_
  rotate_left 1
  focus (refine Work.mk ?_; simp only [Zg, Nat.reduceEqDiff, Nat.reduceLT, Nat.reduceLeDiff, reduceIte, if_true, if_false, reduceCtorEq, Nat.reduceAdd, Nat.reduceMul, Nat.reduceSub, Nat.reduceBEq, Nat.reduceBNe, Int.reduceLE, Int.reduceLT, Int.reduceNeg, Int.reduceAdd, Int.reduceSub, Int.reduceMul, Int.reduceToNat, Int.reduceEq, ite_true, ite_false]; with_reducible rfl)
  simp only [List.toList_toArray, List.drop_succ_cons, List.drop_zero]
  refine ROps.callNilP (cfg_ok 20) (d := 16) (g := 51) (xs := []) (tx := []) (pre := []) (ys := [.tmp 14, .tmp 15]) (ty := [24, 2]) (post := [[.sl 2 (e.map ePt)], [.int k]]) rfl (by decide) rfl rfl rfl rfl rfl rfl rfl rfl (AFn.nil1 (by decide) h3) rfl ?_
  refine ROps.opsT (cfg_ok 20) (T := Tab.none.at' 50 h4) (s' := ?_) ?_ ?_
  rotate_left 1
  focus (simp only [Zg, Nat.reduceEqDiff, Nat.reduceLT, Nat.reduceLeDiff, reduceIte, if_true, if_false, reduceCtorEq, Nat.reduceAdd, Nat.reduceMul, Nat.reduceSub, Nat.reduceBEq, Nat.reduceBNe, Int.reduceLE, Int.reduceLT, Int.reduceNeg, Int.reduceAdd, Int.reduceSub, Int.reduceMul, Int.reduceToNat, Int.reduceEq, ite_true, ite_false]; with_reducible rfl)
  repeat' (first | with_reducible (first | refine Q1 ?_ | refine Q2 ?_ | refine Q3 ?_ | refine Q4 ?_ | refine Q5 ?_ | refine Q6 ?_ | refine Q7 ?_ | refine Q8 ?_ | refine Q9 ?_ | refine Qa ?_ | refine Qb ?_ | refine Qc ?_ | refine Qd ?_ | refine Qe ?_ | refine Qf ?_) | ((with_reducible refine Qo ?_ ?_); focus rfl) | ((with_reducible first | refine QT 6 (l := ?_) ?_ ?_ | refine QF 6 (l := ?_) ?_ ?_); rotate_left 1; focus (simp only [Zu, Nat.reduceSub, Nat.reduceBEq]; with_reducible rfl)) | ((with_reducible first | refine QS (cfg_ok 20) Tab.none (s' := ?_) ?_ ?_ | refine QC (b := ?_) ?_ ?_); rotate_left 1; focus ((with_reducible refine QW ?_); simp only [Zg, Nat.reduceEqDiff, Nat.reduceLT, Nat.reduceLeDiff, reduceIte, if_true, if_false, reduceCtorEq, Nat.reduceAdd, Nat.reduceMul, Nat.reduceSub, Nat.reduceBEq, Nat.reduceBNe, Int.reduceLE, Int.reduceLT, Int.reduceNeg, Int.reduceAdd, Int.reduceSub, Int.reduceMul, Int.reduceToNat, Int.reduceEq, ite_true, ite_false]; with_reducible rfl)))
  (refine Ends.mk (by simp) (rs := ?_) (ks := ?_) hres hrts ?_ ?_ ?_; rotate_left 2; (focus (simp only [Ze, Zg, Nat.reduceEqDiff, Nat.reduceLT, Nat.reduceLeDiff, reduceIte, if_true, if_false, reduceCtorEq, Nat.reduceAdd, Nat.reduceMul, Nat.reduceSub, Nat.reduceBEq, Nat.reduceBNe, Int.reduceLE, Int.reduceLT, Int.reduceNeg, Int.reduceAdd, Int.reduceSub, Int.reduceMul, Int.reduceToNat, Int.reduceEq, ite_true, ite_false]; with_reducible rfl)); (focus simp); focus (first | with_reducible rfl | (simp only [Zv]; done)))
theorem k_impl_ScaleElement (v : Value) (k : Int) (e : Elt) (w : World) (h : Rd (RS RPart) w [v] e) (hk : In64 k) (hz : szP e) : Calls Tryz.prog 15 #[v, .int .i64 k] w (RetOC (RS RPart) w (sclOf e k).1 (sclOf e k).2) :=
  AFn.oi encPt (a_impl_ScaleElement e k hz) (args2 (arg_P h) (arg_I hk))
theorem k_spec_ScaleElement (v : Value) (k : Int) (e : Elt) (w : World) (h : Rd (RS RPart) w [v] e) (hk : In64 k) (hz : szP e) : Calls Tryz.prog 13 #[v, .int .i64 k] w (RetGI (RS RPart) w (sclOf e k).1 (sclOf e k).2) := by
  obtain ⟨b, hb⟩ := a_spec_ScaleElement e k hz
  exact AFn.gi encPt (by cases b <;> first | exact .inl rfl | exact .inr (.inl rfl)) hb (args2 (arg_P h) (arg_I hk))
end Go.Proofs.YtacbkjmkjpjhoaaGreat
