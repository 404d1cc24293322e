/- IsTree, IsForest and the comparisons of forests: the walks on states of values. -/
import Derived.Test.YtacbkjmkjpjhoaaGreatForW
import Derived.Test.YtacbkjmkjpjhoaaGreatElPL
import Derived.Test.YtacbkjmkjpjhoaaGreatGs
set_option linter.unusedSimpArgs false
set_option linter.unusedVariables false
namespace Go.Proofs.YtacbkjmkjpjhoaaGreat
open Go.RowKit

theorem canT_len {t : List Int} (h : canT t = true) : t.length ≤ 8 := by
  unfold canT at h
  rw [Bool.and_eq_true] at h
  exact lev8_len h.1

theorem a_impl_IsTree (t : List Int) : AFn Tryz.prog 135 [eL t] (· = [.val (.bool (canT t))]) := by
  have h1 := a_impl_IsLevels t
  unfold canT
  cases h8 : lev8 t
  · rw [h8] at h1
    rw [Bool.false_and]
    refine AFn.of_runs (cfg_ok 11) Tryz.func135 rfl rfl rfl (by simp only [List.length_cons, List.length_nil]; decide) ?_
    have hres : Tryz.f135.results.toList = [.tmp 2] := rfl
    have hrts : Tryz.f135.resultTypes.toList = [4] := rfl
    simp only [argRegs, argAV1, eL, eI, eLL, eB, Nat.zero_add, Nat.reduceAdd]
    intro M
    refine RunK.of ?_
    repeat' (first | with_reducible (first | refine Q1 ?_ | refine Q2 ?_ | refine Q3 ?_ | refine Q4 ?_ | refine Q5 ?_ | refine Q6 ?_ | refine Q7 ?_ | refine Q8 ?_ | refine Q9 ?_ | refine Qa ?_ | refine Qb ?_ | refine Qc ?_ | refine Qd ?_ | refine Qe ?_ | refine Qf ?_) | ((with_reducible refine Qo ?_ ?_); focus rfl) | ((with_reducible first | refine QT 3 (l := ?_) ?_ ?_ | refine QF 3 (l := ?_) ?_ ?_); rotate_left 1; focus (simp only [Zu, Nat.reduceSub, Nat.reduceBEq]; with_reducible rfl)) | ((with_reducible first | refine QS (cfg_ok 11) (Tab.none.at' 89 h1) (s' := ?_) ?_ ?_ | refine QC (b := ?_) ?_ ?_); rotate_left 1; focus ((with_reducible refine QW ?_); simp only [Zg, Nat.reduceEqDiff, Nat.reduceLT, Nat.reduceLeDiff, reduceIte, if_true, if_false, reduceCtorEq, Nat.reduceAdd, Nat.reduceMul, Nat.reduceSub, Nat.reduceBEq, Nat.reduceBNe, Int.reduceLE, Int.reduceLT, Int.reduceNeg, Int.reduceAdd, Int.reduceSub, Int.reduceMul, Int.reduceToNat, Int.reduceEq, ite_true, ite_false, eL]; with_reducible rfl)))
    (refine Ends.mk (by simp) (rs := ?_) (ks := ?_) hres hrts ?_ ?_ ?_; rotate_left 2; (focus (simp only [Ze, Zg, Nat.reduceEqDiff, Nat.reduceLT, Nat.reduceLeDiff, reduceIte, if_true, if_false, reduceCtorEq, Nat.reduceAdd, Nat.reduceMul, Nat.reduceSub, Nat.reduceBEq, Nat.reduceBNe, Int.reduceLE, Int.reduceLT, Int.reduceNeg, Int.reduceAdd, Int.reduceSub, Int.reduceMul, Int.reduceToNat, Int.reduceEq, ite_true, ite_false]; with_reducible rfl)); (focus simp); focus (first | with_reducible rfl | (simp only [Zv]; done)))
  · rw [h8] at h1
    rw [Bool.true_and]
    have h2 := a_canonical t (lev8_lev h8) (lev8_len h8)
    have h3 := a_slicesEqual (canon t) t
    refine AFn.of_runs (cfg_ok 11) Tryz.func135 rfl rfl rfl (by simp only [List.length_cons, List.length_nil]; decide) ?_
    have hres : Tryz.f135.results.toList = [.tmp 2] := rfl
    have hrts : Tryz.f135.resultTypes.toList = [4] := rfl
    simp only [argRegs, argAV1, eL, eI, eLL, eB, Nat.zero_add, Nat.reduceAdd]
    intro M
    refine RunK.of ?_
    repeat' (first | with_reducible (first | refine Q1 ?_ | refine Q2 ?_ | refine Q3 ?_ | refine Q4 ?_ | refine Q5 ?_ | refine Q6 ?_ | refine Q7 ?_ | refine Q8 ?_ | refine Q9 ?_ | refine Qa ?_ | refine Qb ?_ | refine Qc ?_ | refine Qd ?_ | refine Qe ?_ | refine Qf ?_) | ((with_reducible refine Qo ?_ ?_); focus rfl) | ((with_reducible first | refine QT 3 (l := ?_) ?_ ?_ | refine QF 3 (l := ?_) ?_ ?_); rotate_left 1; focus (simp only [Zu, Nat.reduceSub, Nat.reduceBEq]; with_reducible rfl)) | ((with_reducible first | refine QS (cfg_ok 11) (((Tab.none.at' 89 h1).at' 61 h2).at' 180 h3) (s' := ?_) ?_ ?_ | refine QC (b := ?_) ?_ ?_); rotate_left 1; focus ((with_reducible refine QW ?_); simp only [Zg, Nat.reduceEqDiff, Nat.reduceLT, Nat.reduceLeDiff, reduceIte, if_true, if_false, reduceCtorEq, Nat.reduceAdd, Nat.reduceMul, Nat.reduceSub, Nat.reduceBEq, Nat.reduceBNe, Int.reduceLE, Int.reduceLT, Int.reduceNeg, Int.reduceAdd, Int.reduceSub, Int.reduceMul, Int.reduceToNat, Int.reduceEq, ite_true, ite_false, eL]; with_reducible rfl)))
    (refine Ends.mk (by simp) (rs := ?_) (ks := ?_) hres hrts ?_ ?_ ?_; rotate_left 2; (focus (simp only [Ze, Zg, Nat.reduceEqDiff, Nat.reduceLT, Nat.reduceLeDiff, reduceIte, if_true, if_false, reduceCtorEq, Nat.reduceAdd, Nat.reduceMul, Nat.reduceSub, Nat.reduceBEq, Nat.reduceBNe, Int.reduceLE, Int.reduceLT, Int.reduceNeg, Int.reduceAdd, Int.reduceSub, Int.reduceMul, Int.reduceToNat, Int.reduceEq, ite_true, ite_false]; with_reducible rfl)); (focus simp); focus (first | with_reducible rfl | (simp only [Zv]; done)))
theorem a_spec_IsTree (t : List Int) (hsz : t.length ≤ 1048576) : AFn Tryz.prog 146 [eL t] (· = [.val (.bool (canT t))]) := by
  have h1 := a_spec_l03Is t hsz
  unfold canT
  cases h8 : lev8 t
  · rw [h8] at h1
    rw [Bool.false_and]
    refine AFn.of_runs (cfg_ok 11) Tryz.func146 rfl rfl rfl (by simp only [List.length_cons, List.length_nil]; decide) ?_
    have hres : Tryz.f146.results.toList = [.tmp 2] := rfl
    have hrts : Tryz.f146.resultTypes.toList = [4] := rfl
    simp only [argRegs, argAV1, eL, eI, eLL, eB, Nat.zero_add, Nat.reduceAdd]
    intro M
    refine RunK.of ?_
    repeat' (first | with_reducible (first | refine Q1 ?_ | refine Q2 ?_ | refine Q3 ?_ | refine Q4 ?_ | refine Q5 ?_ | refine Q6 ?_ | refine Q7 ?_ | refine Q8 ?_ | refine Q9 ?_ | refine Qa ?_ | refine Qb ?_ | refine Qc ?_ | refine Qd ?_ | refine Qe ?_ | refine Qf ?_) | ((with_reducible refine Qo ?_ ?_); focus rfl) | ((with_reducible first | refine QT 3 (l := ?_) ?_ ?_ | refine QF 3 (l := ?_) ?_ ?_); rotate_left 1; focus (simp only [Zu, Nat.reduceSub, Nat.reduceBEq]; with_reducible rfl)) | ((with_reducible first | refine QS (cfg_ok 11) (Tab.none.at' 186 h1) (s' := ?_) ?_ ?_ | refine QC (b := ?_) ?_ ?_); rotate_left 1; focus ((with_reducible refine QW ?_); simp only [Zg, Nat.reduceEqDiff, Nat.reduceLT, Nat.reduceLeDiff, reduceIte, if_true, if_false, reduceCtorEq, Nat.reduceAdd, Nat.reduceMul, Nat.reduceSub, Nat.reduceBEq, Nat.reduceBNe, Int.reduceLE, Int.reduceLT, Int.reduceNeg, Int.reduceAdd, Int.reduceSub, Int.reduceMul, Int.reduceToNat, Int.reduceEq, ite_true, ite_false, eL]; with_reducible rfl)))
    (refine Ends.mk (by simp) (rs := ?_) (ks := ?_) hres hrts ?_ ?_ ?_; rotate_left 2; (focus (simp only [Ze, Zg, Nat.reduceEqDiff, Nat.reduceLT, Nat.reduceLeDiff, reduceIte, if_true, if_false, reduceCtorEq, Nat.reduceAdd, Nat.reduceMul, Nat.reduceSub, Nat.reduceBEq, Nat.reduceBNe, Int.reduceLE, Int.reduceLT, Int.reduceNeg, Int.reduceAdd, Int.reduceSub, Int.reduceMul, Int.reduceToNat, Int.reduceEq, ite_true, ite_false]; with_reducible rfl)); (focus simp); focus (first | with_reducible rfl | (simp only [Zv]; done)))
  · rw [h8] at h1
    rw [Bool.true_and]
    have h2 := a_l03Canon t (lev8_lev h8) (lev8_len h8)
    have h3 := a_l01Same (canon t) t
    refine AFn.of_runs (cfg_ok 11) Tryz.func146 rfl rfl rfl (by simp only [List.length_cons, List.length_nil]; decide) ?_
    have hres : Tryz.f146.results.toList = [.tmp 2] := rfl
    have hrts : Tryz.f146.resultTypes.toList = [4] := rfl
    simp only [argRegs, argAV1, eL, eI, eLL, eB, Nat.zero_add, Nat.reduceAdd]
    intro M
    refine RunK.of ?_
    repeat' (first | with_reducible (first | refine Q1 ?_ | refine Q2 ?_ | refine Q3 ?_ | refine Q4 ?_ | refine Q5 ?_ | refine Q6 ?_ | refine Q7 ?_ | refine Q8 ?_ | refine Q9 ?_ | refine Qa ?_ | refine Qb ?_ | refine Qc ?_ | refine Qd ?_ | refine Qe ?_ | refine Qf ?_) | ((with_reducible refine Qo ?_ ?_); focus rfl) | ((with_reducible first | refine QT 3 (l := ?_) ?_ ?_ | refine QF 3 (l := ?_) ?_ ?_); rotate_left 1; focus (simp only [Zu, Nat.reduceSub, Nat.reduceBEq]; with_reducible rfl)) | ((with_reducible first | refine QS (cfg_ok 11) (((Tab.none.at' 186 h1).at' 111 h2).at' 187 h3) (s' := ?_) ?_ ?_ | refine QC (b := ?_) ?_ ?_); rotate_left 1; focus ((with_reducible refine QW ?_); simp only [Zg, Nat.reduceEqDiff, Nat.reduceLT, Nat.reduceLeDiff, reduceIte, if_true, if_false, reduceCtorEq, Nat.reduceAdd, Nat.reduceMul, Nat.reduceSub, Nat.reduceBEq, Nat.reduceBNe, Int.reduceLE, Int.reduceLT, Int.reduceNeg, Int.reduceAdd, Int.reduceSub, Int.reduceMul, Int.reduceToNat, Int.reduceEq, ite_true, ite_false, eL]; with_reducible rfl)))
    (refine Ends.mk (by simp) (rs := ?_) (ks := ?_) hres hrts ?_ ?_ ?_; rotate_left 2; (focus (simp only [Ze, Zg, Nat.reduceEqDiff, Nat.reduceLT, Nat.reduceLeDiff, reduceIte, if_true, if_false, reduceCtorEq, Nat.reduceAdd, Nat.reduceMul, Nat.reduceSub, Nat.reduceBEq, Nat.reduceBNe, Int.reduceLE, Int.reduceLT, Int.reduceNeg, Int.reduceAdd, Int.reduceSub, Int.reduceMul, Int.reduceToNat, Int.reduceEq, ite_true, ite_false]; with_reducible rfl)); (focus simp); focus (first | with_reducible rfl | (simp only [Zv]; done)))

noncomputable def TFor : Tab Tryz.prog :=
  ((Tab.none.add 135 (tab1 codL fun t => some [.val (.bool (canT t))]) (tab1_ok fun t rs h => by cases h; exact a_impl_IsTree t)).add
    136 (tab2 codL codL fun xs ys => some [.val (.int (cmpT xs ys))]) (tab2_ok fun xs ys rs h => by cases h; exact a_compareTrees xs ys)).add
    88 (tab1 codLL fun f => some [.val (.int (nodesB f))]) (tab1_ok fun f rs h => by cases h; exact a_nodesIn f)
noncomputable def TForS : Tab Tryz.prog :=
  ((Tab.none.add 146 (tab1 codL fun t => if t.length ≤ 1048576 then some [.val (.bool (canT t))] else none) (tab1_ok fun t rs h => by split at h; cases h; exact a_spec_IsTree t ‹_›; cases h)).add
    147 (tab2 codL codL fun xs ys => some [.val (.bool (decide (cmpT xs ys < 0)))]) (tab2_ok fun xs ys rs h => by cases h; exact a_l03Before xs ys)).add
    98 (tab1 codLL fun f => some [.val (.int (nodesB f))]) (tab1_ok fun f rs h => by cases h; exact a_l03Nodes f)

theorem all_range_succ {n : Nat} {p : Nat → Bool} (h : (List.range n).all p = true) (h2 : p n = true) : (List.range (n + 1)).all p = true :=
  all_range.2 (fun i hi => by
    by_cases e : i = n
    · rw [e]; exact h2
    · exact all_range.1 h i (by omega))

set_option maxHeartbeats 4000000 in
theorem a_impl_IsForest (f : List (List Int)) (hsz : sumLen f ≤ 1000000000) (hln : f.length ≤ 1000000000) : AFn Tryz.prog 87 [eLL f] (· = [.val (.bool (forB f))]) := by
  have hn : nodesB f = sumLen f := nodesB_eq f (by omega)
  refine AFn.of_runs (cfg_ok 33) Tryz.func87 rfl rfl rfl (by simp only [List.length_cons, List.length_nil]; decide) ?_
  have hres : Tryz.f87.results.toList = [.tmp 2] := rfl
  have hrts : Tryz.f87.resultTypes.toList = [4] := rfl
  simp only [argRegs, argAV1, eL, eI, eLL, eB, Nat.zero_add, Nat.reduceAdd]
  intro M
  refine RunK.of ?_
  by_cases h8 : sumLen f ≤ 8
  · have i8 : ((sumLen f : Int) > 8) = False := eq_false (by omega)
    repeat' (first | with_reducible (first | refine Q1 ?_ | refine Q2 ?_ | refine Q3 ?_ | refine Q4 ?_ | refine Q5 ?_ | refine Q6 ?_ | refine Q7 ?_ | refine Q8 ?_ | refine Q9 ?_ | refine Qa ?_ | refine Qb ?_ | refine Qc ?_ | refine Qd ?_ | refine Qe ?_ | refine Qf ?_) | ((with_reducible refine Qo ?_ ?_); focus rfl) | ((with_reducible first | refine QT 11 (l := ?_) ?_ ?_ | refine QF 11 (l := ?_) ?_ ?_); rotate_left 1; focus (simp only [Zu, Nat.reduceSub, Nat.reduceBEq]; with_reducible rfl)) | ((with_reducible first | refine QS (cfg_ok 33) TFor (s' := ?_) ?_ ?_ | refine QC (b := ?_) ?_ ?_); rotate_left 1; focus ((with_reducible refine QW ?_); simp only [Zg, Nat.reduceEqDiff, Nat.reduceLT, Nat.reduceLeDiff, reduceIte, if_true, if_false, reduceCtorEq, Nat.reduceAdd, Nat.reduceMul, Nat.reduceSub, Nat.reduceBEq, Nat.reduceBNe, Int.reduceLE, Int.reduceLT, Int.reduceNeg, Int.reduceAdd, Int.reduceSub, Int.reduceMul, Int.reduceToNat, Int.reduceEq, ite_true, ite_false, TFor, hn, i8, eL]; with_reducible rfl)))
    refine RunK.loop (β := Nat) (γ := Unit) (fun i => ⟨[(0, .c (.val (.sl 1 (f.map eL)))), (8, .c (.val (.sl 1 (f.map eL)))), (9, .c (.val (.int f.length))), (10, .c (.val (.int i)))], []⟩) (fun i => i ≤ f.length ∧ (List.range i).all (okT f) = true) (fun i => f.length - i)
      (fun _ => ⟨[], []⟩) (fun _ => (List.range f.length).all (okT f) = true) 0 ⟨Nat.zero_le _, rfl⟩ ?_ ?_ ?_
    · (repeat' (first | with_reducible refine Qn | ((with_reducible refine Qr ?_ ?_); focus (first | with_reducible rfl | (simp only [Zz, Nat.reduceBEq]; done) | rfl)) | ((with_reducible refine Qj (o' := ?_) ?_ ?_ ?_); rotate_left 1; focus rfl) | ((with_reducible refine Qw ?_ ?_); (focus (first | with_reducible rfl | (simp only [Zv]; done))); focus (first | exact id | exact (fun h => nomatch h) | exact (fun _ => rfl)))))
    · rintro i ⟨hi, hall⟩
      have hw := w64_succ (n := i) (by omega)
      by_cases h : i < f.length
      · have i1 : ((i : Int) < (f.length : Int)) = True := eq_true (by omega)
        have i2 : ((0 : Int) ≤ (i : Int)) = True := eq_true (by omega)
        obtain ⟨t, ht⟩ : ∃ t, t = f[i] := ⟨_, rfl⟩
        have hg : (f.map eL)[i]? = some [.sl 1 (t.map eI)] := by rw [map_get h, ht]; rfl
        have hgd : f.getD i [] = t := by rw [getD_at h, ht]
        by_cases hc : canT t = true
        · by_cases h0 : i = 0
          · have j1 : ((i : Int) > 0) = False := eq_false (by omega)
            have hok : okT f i = true := by unfold okT; rw [hgd, hc, h0]; rfl
            repeat' (first | with_reducible (first | refine Q1 ?_ | refine Q2 ?_ | refine Q3 ?_ | refine Q4 ?_ | refine Q5 ?_ | refine Q6 ?_ | refine Q7 ?_ | refine Q8 ?_ | refine Q9 ?_ | refine Qa ?_ | refine Qb ?_ | refine Qc ?_ | refine Qd ?_ | refine Qe ?_ | refine Qf ?_) | ((with_reducible refine Qo ?_ ?_); focus rfl) | ((with_reducible first | refine QT 11 (l := ?_) ?_ ?_ | refine QF 11 (l := ?_) ?_ ?_); rotate_left 1; focus (simp only [Zu, Nat.reduceSub, Nat.reduceBEq]; with_reducible rfl)) | ((with_reducible first | refine QS (cfg_ok 33) TFor (s' := ?_) ?_ ?_ | refine QC (b := ?_) ?_ ?_); rotate_left 1; focus ((with_reducible refine QW ?_); simp only [Zg, Nat.reduceEqDiff, Nat.reduceLT, Nat.reduceLeDiff, reduceIte, if_true, if_false, reduceCtorEq, Nat.reduceAdd, Nat.reduceMul, Nat.reduceSub, Nat.reduceBEq, Nat.reduceBNe, Int.reduceLE, Int.reduceLT, Int.reduceNeg, Int.reduceAdd, Int.reduceSub, Int.reduceMul, Int.reduceToNat, Int.reduceEq, ite_true, ite_false, TFor, i1, i2, hg, hw, hc, j1, Int.toNat_natCast, List.length_map]; with_reducible rfl)))
            refine roundK.on (i + 1) ⟨⟨h, all_range_succ hall hok⟩, by omega⟩ ?_
            (repeat' (first | with_reducible refine Qn | ((with_reducible refine Qr ?_ ?_); focus (first | with_reducible rfl | (simp only [Zz, Nat.reduceBEq]; done) | rfl)) | ((with_reducible refine Qj (o' := ?_) ?_ ?_ ?_); rotate_left 1; focus rfl) | ((with_reducible refine Qw ?_ ?_); (focus (first | with_reducible rfl | (simp only [Zv]; done))); focus (first | exact id | exact (fun h => nomatch h) | exact (fun _ => rfl)))))
          · have j1 : ((i : Int) > 0) = True := eq_true (by omega)
            have hw1 : w64 ((i : Int) - 1) = ((i - 1 : Nat) : Int) := by rw [w64_eq (by omega)]; omega
            have i3 : ((0 : Int) ≤ ((i - 1 : Nat) : Int)) = True := eq_true (by omega)
            have i4 : (((i - 1 : Nat) : Int) < (f.length : Int)) = True := eq_true (by omega)
            obtain ⟨s, hs⟩ : ∃ s, s = f[i - 1] := ⟨_, rfl⟩
            have hgs : (f.map eL)[i - 1]? = some [.sl 1 (s.map eI)] := by rw [map_get (by omega), hs]; rfl
            have hgds : f.getD (i - 1) [] = s := by rw [getD_at (by omega), hs]
            by_cases hk : cmpT s t > 0
            · have hok : okT f i = false := by unfold okT; rw [hgd, hgds, hc, decide_eq_false h0, decide_eq_false (by omega)]; rfl
              have hB : forB f = false := by unfold forB; rw [all_range_no h hok, Bool.and_false]
              have k1 : (cmpT s t > 0) = True := eq_true hk
              rw [hB]
              repeat' (first | with_reducible (first | refine Q1 ?_ | refine Q2 ?_ | refine Q3 ?_ | refine Q4 ?_ | refine Q5 ?_ | refine Q6 ?_ | refine Q7 ?_ | refine Q8 ?_ | refine Q9 ?_ | refine Qa ?_ | refine Qb ?_ | refine Qc ?_ | refine Qd ?_ | refine Qe ?_ | refine Qf ?_) | ((with_reducible refine Qo ?_ ?_); focus rfl) | ((with_reducible first | refine QT 11 (l := ?_) ?_ ?_ | refine QF 11 (l := ?_) ?_ ?_); rotate_left 1; focus (simp only [Zu, Nat.reduceSub, Nat.reduceBEq]; with_reducible rfl)) | ((with_reducible first | refine QS (cfg_ok 33) TFor (s' := ?_) ?_ ?_ | refine QC (b := ?_) ?_ ?_); rotate_left 1; focus ((with_reducible refine QW ?_); simp only [Zg, Nat.reduceEqDiff, Nat.reduceLT, Nat.reduceLeDiff, reduceIte, if_true, if_false, reduceCtorEq, Nat.reduceAdd, Nat.reduceMul, Nat.reduceSub, Nat.reduceBEq, Nat.reduceBNe, Int.reduceLE, Int.reduceLT, Int.reduceNeg, Int.reduceAdd, Int.reduceSub, Int.reduceMul, Int.reduceToNat, Int.reduceEq, ite_true, ite_false, TFor, i1, i2, i3, i4, hg, hgs, hw, hw1, hc, j1, k1, Int.toNat_natCast, List.length_map]; with_reducible rfl)))
              refine roundK.ret ?_
              repeat' (first | with_reducible (first | refine Q1 ?_ | refine Q2 ?_ | refine Q3 ?_ | refine Q4 ?_ | refine Q5 ?_ | refine Q6 ?_ | refine Q7 ?_ | refine Q8 ?_ | refine Q9 ?_ | refine Qa ?_ | refine Qb ?_ | refine Qc ?_ | refine Qd ?_ | refine Qe ?_ | refine Qf ?_) | ((with_reducible refine Qo ?_ ?_); focus rfl) | ((with_reducible first | refine QT 11 (l := ?_) ?_ ?_ | refine QF 11 (l := ?_) ?_ ?_); rotate_left 1; focus (simp only [Zu, Nat.reduceSub, Nat.reduceBEq]; with_reducible rfl)) | ((with_reducible first | refine QS (cfg_ok 33) TFor (s' := ?_) ?_ ?_ | refine QC (b := ?_) ?_ ?_); rotate_left 1; focus ((with_reducible refine QW ?_); simp only [Zg, Nat.reduceEqDiff, Nat.reduceLT, Nat.reduceLeDiff, reduceIte, if_true, if_false, reduceCtorEq, Nat.reduceAdd, Nat.reduceMul, Nat.reduceSub, Nat.reduceBEq, Nat.reduceBNe, Int.reduceLE, Int.reduceLT, Int.reduceNeg, Int.reduceAdd, Int.reduceSub, Int.reduceMul, Int.reduceToNat, Int.reduceEq, ite_true, ite_false, TFor]; with_reducible rfl)))
              (refine Ends.mk (by simp) (rs := ?_) (ks := ?_) hres hrts ?_ ?_ ?_; rotate_left 2; (focus (simp only [Ze, Zg, Nat.reduceEqDiff, Nat.reduceLT, Nat.reduceLeDiff, reduceIte, if_true, if_false, reduceCtorEq, Nat.reduceAdd, Nat.reduceMul, Nat.reduceSub, Nat.reduceBEq, Nat.reduceBNe, Int.reduceLE, Int.reduceLT, Int.reduceNeg, Int.reduceAdd, Int.reduceSub, Int.reduceMul, Int.reduceToNat, Int.reduceEq, ite_true, ite_false]; with_reducible rfl)); (focus simp); focus (first | with_reducible rfl | (simp only [Zv]; done)))
            · have hok : okT f i = true := by unfold okT; rw [hgd, hgds, hc, decide_eq_true (show cmpT s t ≤ 0 by omega), Bool.or_true]; rfl
              have k1 : (cmpT s t > 0) = False := eq_false hk
              repeat' (first | with_reducible (first | refine Q1 ?_ | refine Q2 ?_ | refine Q3 ?_ | refine Q4 ?_ | refine Q5 ?_ | refine Q6 ?_ | refine Q7 ?_ | refine Q8 ?_ | refine Q9 ?_ | refine Qa ?_ | refine Qb ?_ | refine Qc ?_ | refine Qd ?_ | refine Qe ?_ | refine Qf ?_) | ((with_reducible refine Qo ?_ ?_); focus rfl) | ((with_reducible first | refine QT 11 (l := ?_) ?_ ?_ | refine QF 11 (l := ?_) ?_ ?_); rotate_left 1; focus (simp only [Zu, Nat.reduceSub, Nat.reduceBEq]; with_reducible rfl)) | ((with_reducible first | refine QS (cfg_ok 33) TFor (s' := ?_) ?_ ?_ | refine QC (b := ?_) ?_ ?_); rotate_left 1; focus ((with_reducible refine QW ?_); simp only [Zg, Nat.reduceEqDiff, Nat.reduceLT, Nat.reduceLeDiff, reduceIte, if_true, if_false, reduceCtorEq, Nat.reduceAdd, Nat.reduceMul, Nat.reduceSub, Nat.reduceBEq, Nat.reduceBNe, Int.reduceLE, Int.reduceLT, Int.reduceNeg, Int.reduceAdd, Int.reduceSub, Int.reduceMul, Int.reduceToNat, Int.reduceEq, ite_true, ite_false, TFor, i1, i2, i3, i4, hg, hgs, hw, hw1, hc, j1, k1, Int.toNat_natCast, List.length_map]; with_reducible rfl)))
              refine roundK.on (i + 1) ⟨⟨h, all_range_succ hall hok⟩, by omega⟩ ?_
              (repeat' (first | with_reducible refine Qn | ((with_reducible refine Qr ?_ ?_); focus (first | with_reducible rfl | (simp only [Zz, Nat.reduceBEq]; done) | rfl)) | ((with_reducible refine Qj (o' := ?_) ?_ ?_ ?_); rotate_left 1; focus rfl) | ((with_reducible refine Qw ?_ ?_); (focus (first | with_reducible rfl | (simp only [Zv]; done))); focus (first | exact id | exact (fun h => nomatch h) | exact (fun _ => rfl)))))
        · have hc : canT t = false := by simpa using hc
          have hok : okT f i = false := by unfold okT; rw [hgd, hc, Bool.false_and]
          have hB : forB f = false := by unfold forB; rw [all_range_no h hok, Bool.and_false]
          rw [hB]
          repeat' (first | with_reducible (first | refine Q1 ?_ | refine Q2 ?_ | refine Q3 ?_ | refine Q4 ?_ | refine Q5 ?_ | refine Q6 ?_ | refine Q7 ?_ | refine Q8 ?_ | refine Q9 ?_ | refine Qa ?_ | refine Qb ?_ | refine Qc ?_ | refine Qd ?_ | refine Qe ?_ | refine Qf ?_) | ((with_reducible refine Qo ?_ ?_); focus rfl) | ((with_reducible first | refine QT 11 (l := ?_) ?_ ?_ | refine QF 11 (l := ?_) ?_ ?_); rotate_left 1; focus (simp only [Zu, Nat.reduceSub, Nat.reduceBEq]; with_reducible rfl)) | ((with_reducible first | refine QS (cfg_ok 33) TFor (s' := ?_) ?_ ?_ | refine QC (b := ?_) ?_ ?_); rotate_left 1; focus ((with_reducible refine QW ?_); simp only [Zg, Nat.reduceEqDiff, Nat.reduceLT, Nat.reduceLeDiff, reduceIte, if_true, if_false, reduceCtorEq, Nat.reduceAdd, Nat.reduceMul, Nat.reduceSub, Nat.reduceBEq, Nat.reduceBNe, Int.reduceLE, Int.reduceLT, Int.reduceNeg, Int.reduceAdd, Int.reduceSub, Int.reduceMul, Int.reduceToNat, Int.reduceEq, ite_true, ite_false, TFor, i1, i2, hg, hw, hc, Int.toNat_natCast, List.length_map]; with_reducible rfl)))
          refine roundK.ret ?_
          repeat' (first | with_reducible (first | refine Q1 ?_ | refine Q2 ?_ | refine Q3 ?_ | refine Q4 ?_ | refine Q5 ?_ | refine Q6 ?_ | refine Q7 ?_ | refine Q8 ?_ | refine Q9 ?_ | refine Qa ?_ | refine Qb ?_ | refine Qc ?_ | refine Qd ?_ | refine Qe ?_ | refine Qf ?_) | ((with_reducible refine Qo ?_ ?_); focus rfl) | ((with_reducible first | refine QT 11 (l := ?_) ?_ ?_ | refine QF 11 (l := ?_) ?_ ?_); rotate_left 1; focus (simp only [Zu, Nat.reduceSub, Nat.reduceBEq]; with_reducible rfl)) | ((with_reducible first | refine QS (cfg_ok 33) TFor (s' := ?_) ?_ ?_ | refine QC (b := ?_) ?_ ?_); rotate_left 1; focus ((with_reducible refine QW ?_); simp only [Zg, Nat.reduceEqDiff, Nat.reduceLT, Nat.reduceLeDiff, reduceIte, if_true, if_false, reduceCtorEq, Nat.reduceAdd, Nat.reduceMul, Nat.reduceSub, Nat.reduceBEq, Nat.reduceBNe, Int.reduceLE, Int.reduceLT, Int.reduceNeg, Int.reduceAdd, Int.reduceSub, Int.reduceMul, Int.reduceToNat, Int.reduceEq, ite_true, ite_false, TFor]; with_reducible rfl)))
          (refine Ends.mk (by simp) (rs := ?_) (ks := ?_) hres hrts ?_ ?_ ?_; rotate_left 2; (focus (simp only [Ze, Zg, Nat.reduceEqDiff, Nat.reduceLT, Nat.reduceLeDiff, reduceIte, if_true, if_false, reduceCtorEq, Nat.reduceAdd, Nat.reduceMul, Nat.reduceSub, Nat.reduceBEq, Nat.reduceBNe, Int.reduceLE, Int.reduceLT, Int.reduceNeg, Int.reduceAdd, Int.reduceSub, Int.reduceMul, Int.reduceToNat, Int.reduceEq, ite_true, ite_false]; with_reducible rfl)); (focus simp); focus (first | with_reducible rfl | (simp only [Zv]; done)))
      · have i1 : ((i : Int) < (f.length : Int)) = False := eq_false (by omega)
        obtain rfl : i = f.length := by omega
        repeat' (first | with_reducible (first | refine Q1 ?_ | refine Q2 ?_ | refine Q3 ?_ | refine Q4 ?_ | refine Q5 ?_ | refine Q6 ?_ | refine Q7 ?_ | refine Q8 ?_ | refine Q9 ?_ | refine Qa ?_ | refine Qb ?_ | refine Qc ?_ | refine Qd ?_ | refine Qe ?_ | refine Qf ?_) | ((with_reducible refine Qo ?_ ?_); focus rfl) | ((with_reducible first | refine QT 11 (l := ?_) ?_ ?_ | refine QF 11 (l := ?_) ?_ ?_); rotate_left 1; focus (simp only [Zu, Nat.reduceSub, Nat.reduceBEq]; with_reducible rfl)) | ((with_reducible first | refine QS (cfg_ok 33) TFor (s' := ?_) ?_ ?_ | refine QC (b := ?_) ?_ ?_); rotate_left 1; focus ((with_reducible refine QW ?_); simp only [Zg, Nat.reduceEqDiff, Nat.reduceLT, Nat.reduceLeDiff, reduceIte, if_true, if_false, reduceCtorEq, Nat.reduceAdd, Nat.reduceMul, Nat.reduceSub, Nat.reduceBEq, Nat.reduceBNe, Int.reduceLE, Int.reduceLT, Int.reduceNeg, Int.reduceAdd, Int.reduceSub, Int.reduceMul, Int.reduceToNat, Int.reduceEq, ite_true, ite_false, TFor, i1]; with_reducible rfl)))
        refine roundK.out () hall ?_
        (repeat' (first | with_reducible refine Qn | ((with_reducible refine Qr ?_ ?_); focus (first | with_reducible rfl | (simp only [Zz, Nat.reduceBEq]; done) | rfl)) | ((with_reducible refine Qj (o' := ?_) ?_ ?_ ?_); rotate_left 1; focus rfl) | ((with_reducible refine Qw ?_ ?_); (focus (first | with_reducible rfl | (simp only [Zv]; done))); focus (first | exact id | exact (fun h => nomatch h) | exact (fun _ => rfl)))))
    · rintro _ hall
      have hB : forB f = true := by unfold forB; rw [hall, decide_eq_true h8]; rfl
      rw [hB]
      repeat' (first | with_reducible (first | refine Q1 ?_ | refine Q2 ?_ | refine Q3 ?_ | refine Q4 ?_ | refine Q5 ?_ | refine Q6 ?_ | refine Q7 ?_ | refine Q8 ?_ | refine Q9 ?_ | refine Qa ?_ | refine Qb ?_ | refine Qc ?_ | refine Qd ?_ | refine Qe ?_ | refine Qf ?_) | ((with_reducible refine Qo ?_ ?_); focus rfl) | ((with_reducible first | refine QT 11 (l := ?_) ?_ ?_ | refine QF 11 (l := ?_) ?_ ?_); rotate_left 1; focus (simp only [Zu, Nat.reduceSub, Nat.reduceBEq]; with_reducible rfl)) | ((with_reducible first | refine QS (cfg_ok 33) TFor (s' := ?_) ?_ ?_ | refine QC (b := ?_) ?_ ?_); rotate_left 1; focus ((with_reducible refine QW ?_); simp only [Zg, Nat.reduceEqDiff, Nat.reduceLT, Nat.reduceLeDiff, reduceIte, if_true, if_false, reduceCtorEq, Nat.reduceAdd, Nat.reduceMul, Nat.reduceSub, Nat.reduceBEq, Nat.reduceBNe, Int.reduceLE, Int.reduceLT, Int.reduceNeg, Int.reduceAdd, Int.reduceSub, Int.reduceMul, Int.reduceToNat, Int.reduceEq, ite_true, ite_false, TFor]; with_reducible rfl)))
      (refine Ends.mk (by simp) (rs := ?_) (ks := ?_) hres hrts ?_ ?_ ?_; rotate_left 2; (focus (simp only [Ze, Zg, Nat.reduceEqDiff, Nat.reduceLT, Nat.reduceLeDiff, reduceIte, if_true, if_false, reduceCtorEq, Nat.reduceAdd, Nat.reduceMul, Nat.reduceSub, Nat.reduceBEq, Nat.reduceBNe, Int.reduceLE, Int.reduceLT, Int.reduceNeg, Int.reduceAdd, Int.reduceSub, Int.reduceMul, Int.reduceToNat, Int.reduceEq, ite_true, ite_false]; with_reducible rfl)); (focus simp); focus (first | with_reducible rfl | (simp only [Zv]; done)))
  · have i8 : ((sumLen f : Int) > 8) = True := eq_true (by omega)
    have hB : forB f = false := by unfold forB; rw [decide_eq_false h8, Bool.false_and]
    rw [hB]
    repeat' (first | with_reducible (first | refine Q1 ?_ | refine Q2 ?_ | refine Q3 ?_ | refine Q4 ?_ | refine Q5 ?_ | refine Q6 ?_ | refine Q7 ?_ | refine Q8 ?_ | refine Q9 ?_ | refine Qa ?_ | refine Qb ?_ | refine Qc ?_ | refine Qd ?_ | refine Qe ?_ | refine Qf ?_) | ((with_reducible refine Qo ?_ ?_); focus rfl) | ((with_reducible first | refine QT 11 (l := ?_) ?_ ?_ | refine QF 11 (l := ?_) ?_ ?_); rotate_left 1; focus (simp only [Zu, Nat.reduceSub, Nat.reduceBEq]; with_reducible rfl)) | ((with_reducible first | refine QS (cfg_ok 33) TFor (s' := ?_) ?_ ?_ | refine QC (b := ?_) ?_ ?_); rotate_left 1; focus ((with_reducible refine QW ?_); simp only [Zg, Nat.reduceEqDiff, Nat.reduceLT, Nat.reduceLeDiff, reduceIte, if_true, if_false, reduceCtorEq, Nat.reduceAdd, Nat.reduceMul, Nat.reduceSub, Nat.reduceBEq, Nat.reduceBNe, Int.reduceLE, Int.reduceLT, Int.reduceNeg, Int.reduceAdd, Int.reduceSub, Int.reduceMul, Int.reduceToNat, Int.reduceEq, ite_true, ite_false, TFor, hn, i8, eL]; with_reducible rfl)))
    (refine Ends.mk (by simp) (rs := ?_) (ks := ?_) hres hrts ?_ ?_ ?_; rotate_left 2; (focus (simp only [Ze, Zg, Nat.reduceEqDiff, Nat.reduceLT, Nat.reduceLeDiff, reduceIte, if_true, if_false, reduceCtorEq, Nat.reduceAdd, Nat.reduceMul, Nat.reduceSub, Nat.reduceBEq, Nat.reduceBNe, Int.reduceLE, Int.reduceLT, Int.reduceNeg, Int.reduceAdd, Int.reduceSub, Int.reduceMul, Int.reduceToNat, Int.reduceEq, ite_true, ite_false]; with_reducible rfl)); (focus simp); focus (first | with_reducible rfl | (simp only [Zv]; done)))
end Go.Proofs.YtacbkjmkjpjhoaaGreat
