/- Lemmas (16). -/
import Derived.Test.YtfhmonacgmakbaaGreatZC7
import Derived.Test.YtfhmonacgmakbaaGreatZC15
set_option linter.unusedSimpArgs false
set_option linter.unusedVariables false
namespace Go.Proofs.YtfhmonacgmakbaaGreat
open Go.RowKit
theorem isMap_get0 {a : List Int} (h : isMap a = true) : (a.map eI).length = 38 ∧ (a.map eI)[0]? = some [.int (a.getD 0 0)] := by
  obtain ⟨h1, _⟩ := isMap_bd h
  exact ⟨by rw [List.length_map, h1], by rw [map_get (by omega), getD_at (by omega)]; rfl⟩
noncomputable def TIm : Tab Tryz.prog := Tab.none.add 44 (tab1 codL fun x => some [.val (.bool (isMap x))]) (tab1_ok fun x rs h => by cases h; exact a_impl_IsMap x)
set_option maxHeartbeats 4000000 in
theorem a_impl_Convolve (a b : List Int) : AFn Tryz.prog 22 [eL a, eL b] (· = [.own 1 ((cvOf a b).1.map eI) true, .val (.int (cvOf a b).2)]) := by
  have hm : ∀ x : List Int, AFn Tryz.prog 44 [[.sl 1 (x.map eI)]] (· = [.val (.bool (isMap x))]) := fun x => a_impl_IsMap x
  have hma := hm a
  have hmb := hm b
  unfold cvOf
  by_cases h1 : isMap a = true
  rotate_left
  · have h1' : isMap a = false := by simpa using h1
    rw [h1'] at hma
    rw [if_neg (fun h => h1 h.1)]
    refine AFn.of_runs (cfg_ok 24) Tryz.func22 rfl rfl rfl (by simp only [List.length_cons, List.length_nil]; decide) ?_
    have hres : Tryz.f22.results.toList = [.tmp 4, .tmp 5] := rfl
    have hrts : Tryz.f22.resultTypes.toList = [22, 2] := rfl
    simp only [argRegs, argAV1, eL, eI, eLL, eB, Nat.zero_add, Nat.reduceAdd]
    intro M
    refine RunK.of ?_
    repeat' (first | with_reducible (first | refine Q1 ?_ | refine Q2 ?_ | refine Q3 ?_ | refine Q4 ?_ | refine Q5 ?_ | refine Q6 ?_ | refine Q7 ?_ | refine Q8 ?_ | refine Q9 ?_ | refine Qa ?_ | refine Qb ?_ | refine Qc ?_ | refine Qd ?_ | refine Qe ?_ | refine Qf ?_) | ((with_reducible refine Qo ?_ ?_); focus rfl) | ((with_reducible first | refine QT 6 (l := ?_) ?_ ?_ | refine QF 6 (l := ?_) ?_ ?_); rotate_left 1; focus (simp only [Zu, Nat.reduceSub, Nat.reduceBEq]; with_reducible rfl)) | ((with_reducible first | refine QS (cfg_ok 24) (Tab.none.at' 44 hma) (s' := ?_) ?_ ?_ | refine QC (b := ?_) ?_ ?_); rotate_left 1; focus ((with_reducible refine QW ?_); simp only [Zg, seval, if_true, if_false, reduceCtorEq, Nat.reduceEqDiff]; with_reducible rfl)))
    (refine Ends.mk (by simp) (rs := ?_) (ks := ?_) hres hrts ?_ ?_ ?_; rotate_left 2; (focus (simp only [Ze, Zg, seval, if_true, if_false, reduceCtorEq, Nat.reduceEqDiff]; with_reducible rfl)); (focus simp); focus (first | with_reducible rfl | (simp only [Zv]; done)))
  rw [h1] at hma
  by_cases h2 : isMap b = true
  rotate_left
  · have h2' : isMap b = false := by simpa using h2
    rw [h2'] at hmb
    rw [if_neg (fun h => h2 h.2)]
    have hne : ¬ a = b := fun e => h2 (e ▸ h1)
    refine AFn.of_runs (cfg_ok 24) Tryz.func22 rfl rfl rfl (by simp only [List.length_cons, List.length_nil]; decide) ?_
    have hres : Tryz.f22.results.toList = [.tmp 4, .tmp 5] := rfl
    have hrts : Tryz.f22.resultTypes.toList = [22, 2] := rfl
    simp only [argRegs, argAV1, eL, eI, eLL, eB, Nat.zero_add, Nat.reduceAdd]
    intro M
    refine RunK.of ?_
    repeat' (first | with_reducible (first | refine Q1 ?_ | refine Q2 ?_ | refine Q3 ?_ | refine Q4 ?_ | refine Q5 ?_ | refine Q6 ?_ | refine Q7 ?_ | refine Q8 ?_ | refine Q9 ?_ | refine Qa ?_ | refine Qb ?_ | refine Qc ?_ | refine Qd ?_ | refine Qe ?_ | refine Qf ?_) | ((with_reducible refine Qo ?_ ?_); focus rfl) | ((with_reducible first | refine QT 6 (l := ?_) ?_ ?_ | refine QF 6 (l := ?_) ?_ ?_); rotate_left 1; focus (simp only [Zu, Nat.reduceSub, Nat.reduceBEq]; with_reducible rfl)) | ((with_reducible first | refine QS (cfg_ok 24) TIm (s' := ?_) ?_ ?_ | refine QC (b := ?_) ?_ ?_); rotate_left 1; focus ((with_reducible refine QW ?_); simp only [Zg, seval, if_true, if_false, reduceCtorEq, Nat.reduceEqDiff, TIm, TIm, codL_d, h1, h2']; with_reducible rfl)))
    (refine Ends.mk (by simp) (rs := ?_) (ks := ?_) hres hrts ?_ ?_ ?_; rotate_left 2; (focus (simp only [Ze, Zg, seval, if_true, if_false, reduceCtorEq, Nat.reduceEqDiff]; with_reducible rfl)); (focus simp); focus (first | with_reducible rfl | (simp only [Zv]; done)))
  rw [if_pos ⟨h1, h2⟩]
  obtain ⟨g1, g2⟩ := isMap_get0 h1
  by_cases h3 : a.getD 0 0 = 1
  rotate_left
  · have i1 : (a.getD 0 0 != 1) = true := by simpa using h3
    rw [if_neg h3]
    refine AFn.of_runs (cfg_ok 24) Tryz.func22 rfl rfl rfl (by simp only [List.length_cons, List.length_nil]; decide) ?_
    have hres : Tryz.f22.results.toList = [.tmp 4, .tmp 5] := rfl
    have hrts : Tryz.f22.resultTypes.toList = [22, 2] := rfl
    simp only [argRegs, argAV1, eL, eI, eLL, eB, Nat.zero_add, Nat.reduceAdd]
    intro M
    refine RunK.of ?_
    repeat' (first | with_reducible (first | refine Q1 ?_ | refine Q2 ?_ | refine Q3 ?_ | refine Q4 ?_ | refine Q5 ?_ | refine Q6 ?_ | refine Q7 ?_ | refine Q8 ?_ | refine Q9 ?_ | refine Qa ?_ | refine Qb ?_ | refine Qc ?_ | refine Qd ?_ | refine Qe ?_ | refine Qf ?_) | ((with_reducible refine Qo ?_ ?_); focus rfl) | ((with_reducible first | refine QT 6 (l := ?_) ?_ ?_ | refine QF 6 (l := ?_) ?_ ?_); rotate_left 1; focus (simp only [Zu, Nat.reduceSub, Nat.reduceBEq]; with_reducible rfl)) | ((with_reducible first | refine QS (cfg_ok 24) TIm (s' := ?_) ?_ ?_ | refine QC (b := ?_) ?_ ?_); rotate_left 1; focus ((with_reducible refine QW ?_); simp only [Zg, seval, if_true, if_false, reduceCtorEq, Nat.reduceEqDiff, TIm, TIm, codL_d, h1, h2, g1, g2, i1, Int.toNat_zero]; with_reducible rfl)))
    (refine Ends.mk (by simp) (rs := ?_) (ks := ?_) hres hrts ?_ ?_ ?_; rotate_left 2; (focus (simp only [Ze, Zg, seval, if_true, if_false, reduceCtorEq, Nat.reduceEqDiff]; with_reducible rfl)); (focus simp); focus (first | with_reducible rfl | (simp only [Zv]; done)))
  have i1 : (a.getD 0 0 != 1) = false := by simpa using h3
  rw [if_pos h3]
  have hr := a_convolve (T6.map eL) a b h1 h2
  simp only [eL] at hr
  refine AFn.of_runs (cfg_ok 24) Tryz.func22 rfl rfl rfl (by simp only [List.length_cons, List.length_nil]; decide) ?_
  have hres : Tryz.f22.results.toList = [.tmp 4, .tmp 5] := rfl
  have hrts : Tryz.f22.resultTypes.toList = [22, 2] := rfl
  simp only [argRegs, argAV1, eL, eI, eLL, eB, Nat.zero_add, Nat.reduceAdd]
  intro M
  refine RunK.of ?_
  ((repeat' (first | with_reducible (first | refine Q1 ?_ | refine Q2 ?_ | refine Q3 ?_ | refine Q4 ?_ | refine Q5 ?_ | refine Q6 ?_ | refine Q7 ?_ | refine Q8 ?_ | refine Q9 ?_ | refine Qa ?_ | refine Qb ?_ | refine Qc ?_ | refine Qd ?_ | refine Qe ?_ | refine Qf ?_) | ((with_reducible refine Qo ?_ ?_); focus rfl) | ((with_reducible first | refine QT 6 (l := ?_) ?_ ?_ | refine QF 6 (l := ?_) ?_ ?_); rotate_left 1; focus (simp only [Zu, Nat.reduceSub, Nat.reduceBEq]; with_reducible rfl)) | ((with_reducible refine QC (b := ?_) ?_ ?_); rotate_left 1; focus ((with_reducible refine QW ?_); simp only [Zg, seval, if_true, if_false, reduceCtorEq, Nat.reduceEqDiff]; with_reducible rfl)))); ((with_reducible refine QS (cfg_ok 24) Tab.none (s' := ?_) ?_ ?_); rotate_left 1; focus ((with_reducible refine QW ?_); simp only [Zg, seval, if_true, if_false, reduceCtorEq, Nat.reduceEqDiff]; with_reducible rfl)); (repeat' (first | with_reducible (first | refine Q1 ?_ | refine Q2 ?_ | refine Q3 ?_ | refine Q4 ?_ | refine Q5 ?_ | refine Q6 ?_ | refine Q7 ?_ | refine Q8 ?_ | refine Q9 ?_ | refine Qa ?_ | refine Qb ?_ | refine Qc ?_ | refine Qd ?_ | refine Qe ?_ | refine Qf ?_) | ((with_reducible refine Qo ?_ ?_); focus rfl) | ((with_reducible first | refine QT 6 (l := ?_) ?_ ?_ | refine QF 6 (l := ?_) ?_ ?_); rotate_left 1; focus (simp only [Zu, Nat.reduceSub, Nat.reduceBEq]; with_reducible rfl)) | ((with_reducible refine QC (b := ?_) ?_ ?_); rotate_left 1; focus ((with_reducible refine QW ?_); simp only [Zg, seval, if_true, if_false, reduceCtorEq, Nat.reduceEqDiff]; with_reducible rfl)))))
  ((repeat' (first | with_reducible (first | refine Q1 ?_ | refine Q2 ?_ | refine Q3 ?_ | refine Q4 ?_ | refine Q5 ?_ | refine Q6 ?_ | refine Q7 ?_ | refine Q8 ?_ | refine Q9 ?_ | refine Qa ?_ | refine Qb ?_ | refine Qc ?_ | refine Qd ?_ | refine Qe ?_ | refine Qf ?_) | ((with_reducible refine Qo ?_ ?_); focus rfl) | ((with_reducible first | refine QT 6 (l := ?_) ?_ ?_ | refine QF 6 (l := ?_) ?_ ?_); rotate_left 1; focus (simp only [Zu, Nat.reduceSub, Nat.reduceBEq]; with_reducible rfl)) | ((with_reducible refine QC (b := ?_) ?_ ?_); rotate_left 1; focus ((with_reducible refine QW ?_); simp only [Zg, seval, if_true, if_false, reduceCtorEq, Nat.reduceEqDiff, TIm, TIm, codL_d, h1, h2]; with_reducible rfl)))); ((with_reducible refine QS (cfg_ok 24) TIm (s' := ?_) ?_ ?_); rotate_left 1; focus ((with_reducible refine QW ?_); simp only [Zg, seval, if_true, if_false, reduceCtorEq, Nat.reduceEqDiff, TIm, TIm, codL_d, h1, h2]; with_reducible rfl)); (repeat' (first | with_reducible (first | refine Q1 ?_ | refine Q2 ?_ | refine Q3 ?_ | refine Q4 ?_ | refine Q5 ?_ | refine Q6 ?_ | refine Q7 ?_ | refine Q8 ?_ | refine Q9 ?_ | refine Qa ?_ | refine Qb ?_ | refine Qc ?_ | refine Qd ?_ | refine Qe ?_ | refine Qf ?_) | ((with_reducible refine Qo ?_ ?_); focus rfl) | ((with_reducible first | refine QT 6 (l := ?_) ?_ ?_ | refine QF 6 (l := ?_) ?_ ?_); rotate_left 1; focus (simp only [Zu, Nat.reduceSub, Nat.reduceBEq]; with_reducible rfl)) | ((with_reducible refine QC (b := ?_) ?_ ?_); rotate_left 1; focus ((with_reducible refine QW ?_); simp only [Zg, seval, if_true, if_false, reduceCtorEq, Nat.reduceEqDiff, TIm, TIm, codL_d, h1, h2]; with_reducible rfl)))))
  ((repeat' (first | with_reducible (first | refine Q1 ?_ | refine Q2 ?_ | refine Q3 ?_ | refine Q4 ?_ | refine Q5 ?_ | refine Q6 ?_ | refine Q7 ?_ | refine Q8 ?_ | refine Q9 ?_ | refine Qa ?_ | refine Qb ?_ | refine Qc ?_ | refine Qd ?_ | refine Qe ?_ | refine Qf ?_) | ((with_reducible refine Qo ?_ ?_); focus rfl) | ((with_reducible first | refine QT 6 (l := ?_) ?_ ?_ | refine QF 6 (l := ?_) ?_ ?_); rotate_left 1; focus (simp only [Zu, Nat.reduceSub, Nat.reduceBEq]; with_reducible rfl)) | ((with_reducible refine QC (b := ?_) ?_ ?_); rotate_left 1; focus ((with_reducible refine QW ?_); simp only [Zg, seval, if_true, if_false, reduceCtorEq, Nat.reduceEqDiff, g1, g2, i1, Int.toNat_zero]; with_reducible rfl)))); ((with_reducible refine QS (cfg_ok 24) Tab.none (s' := ?_) ?_ ?_); rotate_left 1; focus ((with_reducible refine QW ?_); simp only [Zg, seval, if_true, if_false, reduceCtorEq, Nat.reduceEqDiff, g1, g2, i1, Int.toNat_zero]; with_reducible rfl)); (repeat' (first | with_reducible (first | refine Q1 ?_ | refine Q2 ?_ | refine Q3 ?_ | refine Q4 ?_ | refine Q5 ?_ | refine Q6 ?_ | refine Q7 ?_ | refine Q8 ?_ | refine Q9 ?_ | refine Qa ?_ | refine Qb ?_ | refine Qc ?_ | refine Qd ?_ | refine Qe ?_ | refine Qf ?_) | ((with_reducible refine Qo ?_ ?_); focus rfl) | ((with_reducible first | refine QT 6 (l := ?_) ?_ ?_ | refine QF 6 (l := ?_) ?_ ?_); rotate_left 1; focus (simp only [Zu, Nat.reduceSub, Nat.reduceBEq]; with_reducible rfl)) | ((with_reducible refine QC (b := ?_) ?_ ?_); rotate_left 1; focus ((with_reducible refine QW ?_); simp only [Zg, seval, if_true, if_false, reduceCtorEq, Nat.reduceEqDiff, g1, g2, i1, Int.toNat_zero]; with_reducible rfl)))))
  ((repeat' (first | with_reducible (first | refine Q1 ?_ | refine Q2 ?_ | refine Q3 ?_ | refine Q4 ?_ | refine Q5 ?_ | refine Q6 ?_ | refine Q7 ?_ | refine Q8 ?_ | refine Q9 ?_ | refine Qa ?_ | refine Qb ?_ | refine Qc ?_ | refine Qd ?_ | refine Qe ?_ | refine Qf ?_) | ((with_reducible refine Qo ?_ ?_); focus rfl) | ((with_reducible first | refine QT 6 (l := ?_) ?_ ?_ | refine QF 6 (l := ?_) ?_ ?_); rotate_left 1; focus (simp only [Zu, Nat.reduceSub, Nat.reduceBEq]; with_reducible rfl)) | ((with_reducible refine QC (b := ?_) ?_ ?_); rotate_left 1; focus ((with_reducible refine QW ?_); simp only [Zg, seval, if_true, if_false, reduceCtorEq, Nat.reduceEqDiff, i1]; with_reducible rfl)))); (with_reducible refine RunK.regCut (cfg_ok 24) Tab.none 0 (s1 := ?_) ?_ ?_); rotate_left 1; (focus ((with_reducible refine QW ?_); simp only [Zg, seval, if_true, if_false, reduceCtorEq, Nat.reduceEqDiff, i1]; with_reducible rfl)); simp only [List.toList_toArray, List.drop_succ_cons, List.drop_zero])
  refine ROps.callS (cfg_ok 24) rfl (d := 20) rfl (by decide) rfl rfl rfl rfl s_newForms ?_
  (refine ROps.opsT (cfg_ok 24) (T := Tab.none.at' 60 hr) (s' := ?_) ?_ ?_; rotate_left 1; focus (simp only [Zg, seval, if_true, if_false, reduceCtorEq, Nat.reduceEqDiff, frmD, List.map_cons, List.map_nil]; with_reducible rfl))
  repeat' (first | with_reducible (first | refine Q1 ?_ | refine Q2 ?_ | refine Q3 ?_ | refine Q4 ?_ | refine Q5 ?_ | refine Q6 ?_ | refine Q7 ?_ | refine Q8 ?_ | refine Q9 ?_ | refine Qa ?_ | refine Qb ?_ | refine Qc ?_ | refine Qd ?_ | refine Qe ?_ | refine Qf ?_) | ((with_reducible refine Qo ?_ ?_); focus rfl) | ((with_reducible first | refine QT 6 (l := ?_) ?_ ?_ | refine QF 6 (l := ?_) ?_ ?_); rotate_left 1; focus (simp only [Zu, Nat.reduceSub, Nat.reduceBEq]; with_reducible rfl)) | ((with_reducible first | refine QS (cfg_ok 24) Tab.none (s' := ?_) ?_ ?_ | refine QC (b := ?_) ?_ ?_); rotate_left 1; focus ((with_reducible refine QW ?_); simp only [Zg, seval, if_true, if_false, reduceCtorEq, Nat.reduceEqDiff]; with_reducible rfl)))
  (refine Ends.mk (by simp) (rs := ?_) (ks := ?_) hres hrts ?_ ?_ ?_; rotate_left 2; (focus (simp only [Ze, Zg, seval, if_true, if_false, reduceCtorEq, Nat.reduceEqDiff]; with_reducible rfl)); (focus simp); focus (first | with_reducible rfl | (simp only [Zv]; done)))
theorem k_impl_Convolve (v u : Value) (a b : List Int) (w : World) (h : Rd (RS RI) w [v] a) (h' : Rd (RS RI) w [u] b) : Calls Tryz.prog 22 #[v, u] w (RetOC (RS RI) w (cvOf a b).1 (cvOf a b).2) :=
  AFn.oi encI (a_impl_Convolve a b) (args2 (arg_L h) (arg_L h'))
noncomputable def TSm : Tab Tryz.prog := Tab.none.add 42 (tab1 codL fun x => some [.val (.bool (isMap x))]) (tab1_ok fun x rs h => by cases h; exact a_spec_l07Is x)
def cdM (a b : List Int) : Int := if isMap a = true ∧ isMap b = true then (if a.getD 0 0 = 1 then 0 else 5) else 1
theorem a_l07Code (a b : List Int) : AFn Tryz.prog 57 [eL a, eL b] (· = [.val (.int (cdM a b))]) := by
  unfold cdM
  by_cases h1 : isMap a = true
  rotate_left
  · have h1' : isMap a = false := by simpa using h1
    rw [if_neg (fun h => h1 h.1)]
    refine AFn.of_runs (cfg_ok 19) Tryz.func57 rfl rfl rfl (by simp only [List.length_cons, List.length_nil]; decide) ?_
    have hres : Tryz.f57.results.toList = [.tmp 4] := rfl
    have hrts : Tryz.f57.resultTypes.toList = [2] := rfl
    simp only [argRegs, argAV1, eL, eI, eLL, eB, Nat.zero_add, Nat.reduceAdd]
    intro M
    refine RunK.of ?_
    repeat' (first | with_reducible (first | refine Q1 ?_ | refine Q2 ?_ | refine Q3 ?_ | refine Q4 ?_ | refine Q5 ?_ | refine Q6 ?_ | refine Q7 ?_ | refine Q8 ?_ | refine Q9 ?_ | refine Qa ?_ | refine Qb ?_ | refine Qc ?_ | refine Qd ?_ | refine Qe ?_ | refine Qf ?_) | ((with_reducible refine Qo ?_ ?_); focus rfl) | ((with_reducible first | refine QT 5 (l := ?_) ?_ ?_ | refine QF 5 (l := ?_) ?_ ?_); rotate_left 1; focus (simp only [Zu, Nat.reduceSub, Nat.reduceBEq]; with_reducible rfl)) | ((with_reducible first | refine QS (cfg_ok 19) TSm (s' := ?_) ?_ ?_ | refine QC (b := ?_) ?_ ?_); rotate_left 1; focus ((with_reducible refine QW ?_); simp only [Zg, seval, if_true, if_false, reduceCtorEq, Nat.reduceEqDiff, TSm, TSm, codL_d, h1']; with_reducible rfl)))
    (refine Ends.mk (by simp) (rs := ?_) (ks := ?_) hres hrts ?_ ?_ ?_; rotate_left 2; (focus (simp only [Ze, Zg, seval, if_true, if_false, reduceCtorEq, Nat.reduceEqDiff]; with_reducible rfl)); (focus simp); focus (first | with_reducible rfl | (simp only [Zv]; done)))
  by_cases h2 : isMap b = true
  rotate_left
  · have h2' : isMap b = false := by simpa using h2
    rw [if_neg (fun h => h2 h.2)]
    refine AFn.of_runs (cfg_ok 19) Tryz.func57 rfl rfl rfl (by simp only [List.length_cons, List.length_nil]; decide) ?_
    have hres : Tryz.f57.results.toList = [.tmp 4] := rfl
    have hrts : Tryz.f57.resultTypes.toList = [2] := rfl
    simp only [argRegs, argAV1, eL, eI, eLL, eB, Nat.zero_add, Nat.reduceAdd]
    intro M
    refine RunK.of ?_
    repeat' (first | with_reducible (first | refine Q1 ?_ | refine Q2 ?_ | refine Q3 ?_ | refine Q4 ?_ | refine Q5 ?_ | refine Q6 ?_ | refine Q7 ?_ | refine Q8 ?_ | refine Q9 ?_ | refine Qa ?_ | refine Qb ?_ | refine Qc ?_ | refine Qd ?_ | refine Qe ?_ | refine Qf ?_) | ((with_reducible refine Qo ?_ ?_); focus rfl) | ((with_reducible first | refine QT 5 (l := ?_) ?_ ?_ | refine QF 5 (l := ?_) ?_ ?_); rotate_left 1; focus (simp only [Zu, Nat.reduceSub, Nat.reduceBEq]; with_reducible rfl)) | ((with_reducible first | refine QS (cfg_ok 19) TSm (s' := ?_) ?_ ?_ | refine QC (b := ?_) ?_ ?_); rotate_left 1; focus ((with_reducible refine QW ?_); simp only [Zg, seval, if_true, if_false, reduceCtorEq, Nat.reduceEqDiff, TSm, TSm, codL_d, h1, h2']; with_reducible rfl)))
    (refine Ends.mk (by simp) (rs := ?_) (ks := ?_) hres hrts ?_ ?_ ?_; rotate_left 2; (focus (simp only [Ze, Zg, seval, if_true, if_false, reduceCtorEq, Nat.reduceEqDiff]; with_reducible rfl)); (focus simp); focus (first | with_reducible rfl | (simp only [Zv]; done)))
  rw [if_pos ⟨h1, h2⟩]
  obtain ⟨g1, g2⟩ := isMap_get0 h1
  by_cases h3 : a.getD 0 0 = 1
  · have i1 : (a.getD 0 0 != 1) = false := by simpa using h3
    rw [if_pos h3]
    refine AFn.of_runs (cfg_ok 19) Tryz.func57 rfl rfl rfl (by simp only [List.length_cons, List.length_nil]; decide) ?_
    have hres : Tryz.f57.results.toList = [.tmp 4] := rfl
    have hrts : Tryz.f57.resultTypes.toList = [2] := rfl
    simp only [argRegs, argAV1, eL, eI, eLL, eB, Nat.zero_add, Nat.reduceAdd]
    intro M
    refine RunK.of ?_
    repeat' (first | with_reducible (first | refine Q1 ?_ | refine Q2 ?_ | refine Q3 ?_ | refine Q4 ?_ | refine Q5 ?_ | refine Q6 ?_ | refine Q7 ?_ | refine Q8 ?_ | refine Q9 ?_ | refine Qa ?_ | refine Qb ?_ | refine Qc ?_ | refine Qd ?_ | refine Qe ?_ | refine Qf ?_) | ((with_reducible refine Qo ?_ ?_); focus rfl) | ((with_reducible first | refine QT 5 (l := ?_) ?_ ?_ | refine QF 5 (l := ?_) ?_ ?_); rotate_left 1; focus (simp only [Zu, Nat.reduceSub, Nat.reduceBEq]; with_reducible rfl)) | ((with_reducible first | refine QS (cfg_ok 19) TSm (s' := ?_) ?_ ?_ | refine QC (b := ?_) ?_ ?_); rotate_left 1; focus ((with_reducible refine QW ?_); simp only [Zg, seval, if_true, if_false, reduceCtorEq, Nat.reduceEqDiff, TSm, TSm, codL_d, h1, h2, g1, g2, i1, Int.toNat_zero]; with_reducible rfl)))
    (refine Ends.mk (by simp) (rs := ?_) (ks := ?_) hres hrts ?_ ?_ ?_; rotate_left 2; (focus (simp only [Ze, Zg, seval, if_true, if_false, reduceCtorEq, Nat.reduceEqDiff]; with_reducible rfl)); (focus simp); focus (first | with_reducible rfl | (simp only [Zv]; done)))
  · have i1 : (a.getD 0 0 != 1) = true := by simpa using h3
    rw [if_neg h3]
    refine AFn.of_runs (cfg_ok 19) Tryz.func57 rfl rfl rfl (by simp only [List.length_cons, List.length_nil]; decide) ?_
    have hres : Tryz.f57.results.toList = [.tmp 4] := rfl
    have hrts : Tryz.f57.resultTypes.toList = [2] := rfl
    simp only [argRegs, argAV1, eL, eI, eLL, eB, Nat.zero_add, Nat.reduceAdd]
    intro M
    refine RunK.of ?_
    repeat' (first | with_reducible (first | refine Q1 ?_ | refine Q2 ?_ | refine Q3 ?_ | refine Q4 ?_ | refine Q5 ?_ | refine Q6 ?_ | refine Q7 ?_ | refine Q8 ?_ | refine Q9 ?_ | refine Qa ?_ | refine Qb ?_ | refine Qc ?_ | refine Qd ?_ | refine Qe ?_ | refine Qf ?_) | ((with_reducible refine Qo ?_ ?_); focus rfl) | ((with_reducible first | refine QT 5 (l := ?_) ?_ ?_ | refine QF 5 (l := ?_) ?_ ?_); rotate_left 1; focus (simp only [Zu, Nat.reduceSub, Nat.reduceBEq]; with_reducible rfl)) | ((with_reducible first | refine QS (cfg_ok 19) TSm (s' := ?_) ?_ ?_ | refine QC (b := ?_) ?_ ?_); rotate_left 1; focus ((with_reducible refine QW ?_); simp only [Zg, seval, if_true, if_false, reduceCtorEq, Nat.reduceEqDiff, TSm, TSm, codL_d, h1, h2, g1, g2, i1, Int.toNat_zero]; with_reducible rfl)))
    (refine Ends.mk (by simp) (rs := ?_) (ks := ?_) hres hrts ?_ ?_ ?_; rotate_left 2; (focus (simp only [Ze, Zg, seval, if_true, if_false, reduceCtorEq, Nat.reduceEqDiff]; with_reducible rfl)); (focus simp); focus (first | with_reducible rfl | (simp only [Zv]; done)))
set_option maxHeartbeats 4000000 in
theorem a_spec_Convolve (a b : List Int) : AFn Tryz.prog 21 [eL a, eL b] (· = [.own 1 ((cvOf a b).1.map eI) true, .val (.int (cvOf a b).2)]) := by
  have hc := a_l07Code a b
  simp only [eL] at hc
  by_cases h : isMap a = true ∧ isMap b = true ∧ a.getD 0 0 = 1
  · obtain ⟨h1, h2, h3⟩ := h
    have hcd : cdM a b = 0 := by unfold cdM; rw [if_pos ⟨h1, h2⟩, if_pos h3]
    have hcv : cvOf a b = (cvM a b, 0) := by unfold cvOf; rw [if_pos ⟨h1, h2⟩, if_pos h3]
    have hr := a_l07Conv 37 (Nat.le_refl _) a b h1 h2
    have ht : T6.take 37 = T6 := List.take_of_length_le (by rw [T6_len]; omega)
    have h0 : mP (a.getD 0 0 * b.getD 0 0) = b.getD 0 0 := by
      rw [h3, Int.one_mul]
      obtain ⟨_, hbb⟩ := isMap_bd h2
      exact mP_small (hbb 0).1 (by have := (hbb 0).2; omega)
    rw [ht, h0] at hr
    have hr : AFn Tryz.prog 58 [[.sl 1 ([.sl 3 []] :: (T6.map cutsM).map eMs)], [.sl 1 (a.map eI)], [.sl 1 (b.map eI)]] (· = [.own 1 ((cvM a b).map eI) true]) := hr
    have hcu := AFn.val1 a_l07Cuts
    rw [hcd] at hc
    rw [hcv]
    refine AFn.of_runs (cfg_ok 17) Tryz.func21 rfl rfl rfl (by simp only [List.length_cons, List.length_nil]; decide) ?_
    have hres : Tryz.f21.results.toList = [.tmp 4, .tmp 5] := rfl
    have hrts : Tryz.f21.resultTypes.toList = [22, 2] := rfl
    simp only [argRegs, argAV1, eL, eI, eLL, eB, Nat.zero_add, Nat.reduceAdd]
    intro M
    refine RunK.of ?_
    repeat' (first | with_reducible (first | refine Q1 ?_ | refine Q2 ?_ | refine Q3 ?_ | refine Q4 ?_ | refine Q5 ?_ | refine Q6 ?_ | refine Q7 ?_ | refine Q8 ?_ | refine Q9 ?_ | refine Qa ?_ | refine Qb ?_ | refine Qc ?_ | refine Qd ?_ | refine Qe ?_ | refine Qf ?_) | ((with_reducible refine Qo ?_ ?_); focus rfl) | ((with_reducible first | refine QT 7 (l := ?_) ?_ ?_ | refine QF 7 (l := ?_) ?_ ?_); rotate_left 1; focus (simp only [Zu, Nat.reduceSub, Nat.reduceBEq]; with_reducible rfl)) | ((with_reducible first | refine QS (cfg_ok 17) (((Tab.none.at' 57 hc).at' 59 hcu).at' 58 hr) (s' := ?_) ?_ ?_ | refine QC (b := ?_) ?_ ?_); rotate_left 1; focus ((with_reducible refine QW ?_); simp only [Zg, seval, if_true, if_false, reduceCtorEq, Nat.reduceEqDiff]; with_reducible rfl)))
    (refine Ends.mk (by simp) (rs := ?_) (ks := ?_) hres hrts ?_ ?_ ?_; rotate_left 2; (focus (simp only [Ze, Zg, seval, if_true, if_false, reduceCtorEq, Nat.reduceEqDiff]; with_reducible rfl)); (focus simp); focus (first | with_reducible rfl | (simp only [Zv]; done)))
  · have hcd : cdM a b ≠ 0 ∧ cvOf a b = ([], cdM a b) := by
      unfold cdM cvOf
      by_cases h1 : isMap a = true ∧ isMap b = true
      · have h3 : ¬ a.getD 0 0 = 1 := fun e => h ⟨h1.1, h1.2, e⟩
        rw [if_pos h1, if_pos h1, if_neg h3, if_neg h3]
        exact ⟨by decide, rfl⟩
      · rw [if_neg h1, if_neg h1]
        exact ⟨by decide, rfl⟩
    obtain ⟨h4, h5⟩ := hcd
    obtain ⟨z, hz⟩ : ∃ z, z = cdM a b := ⟨_, rfl⟩
    rw [h5]
    rw [← hz] at hc h4 ⊢
    have i1 : (z != 0) = true := by simpa using h4
    refine AFn.of_runs (cfg_ok 17) Tryz.func21 rfl rfl rfl (by simp only [List.length_cons, List.length_nil]; decide) ?_
    have hres : Tryz.f21.results.toList = [.tmp 4, .tmp 5] := rfl
    have hrts : Tryz.f21.resultTypes.toList = [22, 2] := rfl
    simp only [argRegs, argAV1, eL, eI, eLL, eB, Nat.zero_add, Nat.reduceAdd]
    intro M
    refine RunK.of ?_
    repeat' (first | with_reducible (first | refine Q1 ?_ | refine Q2 ?_ | refine Q3 ?_ | refine Q4 ?_ | refine Q5 ?_ | refine Q6 ?_ | refine Q7 ?_ | refine Q8 ?_ | refine Q9 ?_ | refine Qa ?_ | refine Qb ?_ | refine Qc ?_ | refine Qd ?_ | refine Qe ?_ | refine Qf ?_) | ((with_reducible refine Qo ?_ ?_); focus rfl) | ((with_reducible first | refine QT 7 (l := ?_) ?_ ?_ | refine QF 7 (l := ?_) ?_ ?_); rotate_left 1; focus (simp only [Zu, Nat.reduceSub, Nat.reduceBEq]; with_reducible rfl)) | ((with_reducible first | refine QS (cfg_ok 17) (Tab.none.at' 57 hc) (s' := ?_) ?_ ?_ | refine QC (b := ?_) ?_ ?_); rotate_left 1; focus ((with_reducible refine QW ?_); simp only [Zg, seval, if_true, if_false, reduceCtorEq, Nat.reduceEqDiff, i1]; with_reducible rfl)))
    (refine Ends.mk (by simp) (rs := ?_) (ks := ?_) hres hrts ?_ ?_ ?_; rotate_left 2; (focus (simp only [Ze, Zg, seval, if_true, if_false, reduceCtorEq, Nat.reduceEqDiff]; with_reducible rfl)); (focus simp); focus (first | with_reducible rfl | (simp only [Zv]; done)))
theorem k_spec_Convolve (v u : Value) (a b : List Int) (w : World) (h : Rd (RS RI) w [v] a) (h' : Rd (RS RI) w [u] b) : Calls Tryz.prog 21 #[v, u] w (RetGI (RS RI) w (cvOf a b).1 (cvOf a b).2) :=
  AFn.gi encI (.inl rfl) (a_spec_Convolve a b) (args2 (arg_L h) (arg_L h'))
end Go.Proofs.YtfhmonacgmakbaaGreat
namespace Go.Proofs.YtfhmonacgmakbaaGreat
open Go.RowKit
set_option maxHeartbeats 1000000 in
theorem walk_FnExactConvolve (v0 : Value) (v1 : Value) (x0 : List Int) (x1 : List Int) (w : World) (h0 : Rd (RS RI) w [v0] x0) (h1 : Rd (RS RI) w [v1] x1) : Calls Tryz.prog 5 #[v0, v1] w (RetV w (.bool true)) := by
  obtain ⟨a0, c0, hv0, hl0, hm0⟩ := h0.val
  unfold maxLen at hm0
  obtain ⟨a1, c1, hv1, hl1, hm1⟩ := h1.val
  unfold maxLen at hm1
  by_cases z0 : x0.length ≤ 1048576
  rotate_left
  · subst hv0
    go_enter Tryz.func5, Tryz.ntmps5
    go_wp2_with fail
    go_ret
    exact ⟨rfl, Below.refl _ _⟩
  by_cases z1 : x1.length ≤ 1048576
  rotate_left
  · subst hv0 hv1
    go_enter Tryz.func5, Tryz.ntmps5
    go_wp2_with fail
    go_ret
    exact ⟨rfl, Below.refl _ _⟩
  subst hv0
  subst hv1
  go_enter Tryz.func5, Tryz.ntmps5
  go_wp2_with fail
  refine (to_I _ x0 _ h0 z0).mono ?_
  rintro e w1 ⟨u1, rfl, o1, B1⟩
  have s1 := B1.size
  have BB := B1.mono (B' := w.heap.size) (by omega)
  go_wp2_with fail
  refine (to_I _ x1 _ (h1.below BB (Nat.le_refl _)) z1).mono ?_
  rintro e w2 ⟨u2, rfl, o2, B2⟩
  have s2 := B2.size
  replace o1 := o1.below B2 (by omega)
  replace BB := BB.trans (B2.mono (B' := w.heap.size) (by omega))
  go_wp2_with fail
  refine (k_spec_Convolve _ _ x0 x1 _ o1.rd o2.rd).mono ?_
  rintro e w3 ⟨u3, rfl, o3, B3⟩
  have s3 := B3.size
  replace o1 := o1.below B3 (by omega)
  replace o2 := o2.below B3 (by omega)
  replace BB := BB.trans (B3.mono (B' := w.heap.size) (by omega))
  go_wp2_with fail
  refine (to_I _ x0 _ (h0.below BB (Nat.le_refl _)) z0).mono ?_
  rintro e w4 ⟨u4, rfl, o4, B4⟩
  have s4 := B4.size
  replace o1 := o1.below B4 (by omega)
  replace o2 := o2.below B4 (by omega)
  replace o3 := o3.below B4 (by omega)
  replace BB := BB.trans (B4.mono (B' := w.heap.size) (by omega))
  go_wp2_with fail
  refine (to_I _ x1 _ (h1.below BB (Nat.le_refl _)) z1).mono ?_
  rintro e w5 ⟨u5, rfl, o5, B5⟩
  have s5 := B5.size
  replace o1 := o1.below B5 (by omega)
  replace o2 := o2.below B5 (by omega)
  replace o3 := o3.below B5 (by omega)
  replace o4 := o4.below B5 (by omega)
  replace BB := BB.trans (B5.mono (B' := w.heap.size) (by omega))
  go_wp2_with fail
  refine (k_impl_Convolve _ _ x0 x1 _ o4.rd o5.rd).mono ?_
  rintro e w6 ⟨u6, rfl, o6, B6⟩
  have s6 := B6.size
  replace o1 := o1.below B6 (by omega)
  replace o2 := o2.below B6 (by omega)
  replace o3 := o3.below B6 (by omega)
  replace o4 := o4.below B6 (by omega)
  replace o5 := o5.below B6 (by omega)
  replace BB := BB.trans (B6.mono (B' := w.heap.size) (by omega))
  go_wp2_with fail
  refine (eqv_I _ _ (cvOf x0 x1).1 _ o6.rd o3.rd).mono ?_
  rintro e w7 ⟨rfl, B7⟩
  have s7 := B7.size
  replace o1 := o1.below B7 (by omega)
  replace o2 := o2.below B7 (by omega)
  replace o3 := o3.below B7 (by omega)
  replace o4 := o4.below B7 (by omega)
  replace o5 := o5.below B7 (by omega)
  replace o6 := o6.below B7 (by omega)
  replace BB := BB.trans (B7.mono (B' := w.heap.size) (by omega))
  go_wp2_with fail
  refine (to_I _ x0 _ (h0.below BB (Nat.le_refl _)) z0).mono ?_
  rintro e w8 ⟨u8, rfl, o8, B8⟩
  have s8 := B8.size
  replace o1 := o1.below B8 (by omega)
  replace o2 := o2.below B8 (by omega)
  replace o3 := o3.below B8 (by omega)
  replace o4 := o4.below B8 (by omega)
  replace o5 := o5.below B8 (by omega)
  replace o6 := o6.below B8 (by omega)
  replace BB := BB.trans (B8.mono (B' := w.heap.size) (by omega))
  go_wp2_with fail
  refine (eqv_I _ _ x0 _ o4.rd o8.rd).mono ?_
  rintro e w9 ⟨rfl, B9⟩
  have s9 := B9.size
  replace o1 := o1.below B9 (by omega)
  replace o2 := o2.below B9 (by omega)
  replace o3 := o3.below B9 (by omega)
  replace o4 := o4.below B9 (by omega)
  replace o5 := o5.below B9 (by omega)
  replace o6 := o6.below B9 (by omega)
  replace o8 := o8.below B9 (by omega)
  replace BB := BB.trans (B9.mono (B' := w.heap.size) (by omega))
  go_wp2_with fail
  refine (to_I _ x1 _ (h1.below BB (Nat.le_refl _)) z1).mono ?_
  rintro e w10 ⟨u10, rfl, o10, B10⟩
  have s10 := B10.size
  replace o1 := o1.below B10 (by omega)
  replace o2 := o2.below B10 (by omega)
  replace o3 := o3.below B10 (by omega)
  replace o4 := o4.below B10 (by omega)
  replace o5 := o5.below B10 (by omega)
  replace o6 := o6.below B10 (by omega)
  replace o8 := o8.below B10 (by omega)
  replace BB := BB.trans (B10.mono (B' := w.heap.size) (by omega))
  go_wp2_with fail
  refine (eqv_I _ _ x1 _ o5.rd o10.rd).mono ?_
  rintro e w11 ⟨rfl, B11⟩
  have s11 := B11.size
  replace o1 := o1.below B11 (by omega)
  replace o2 := o2.below B11 (by omega)
  replace o3 := o3.below B11 (by omega)
  replace o4 := o4.below B11 (by omega)
  replace o5 := o5.below B11 (by omega)
  replace o6 := o6.below B11 (by omega)
  replace o8 := o8.below B11 (by omega)
  replace o10 := o10.below B11 (by omega)
  replace BB := BB.trans (B11.mono (B' := w.heap.size) (by omega))
  go_wp2_with fail
  have p12 := cntb_I x0 z0
  refine (mark_I _ x0 _ _ 1 _ o4 (by omega) (by omega)).mono ?_
  rintro e w12 ⟨rfl, o4n, B12⟩
  have s12 := B12.size
  replace o1 := o1.apart B12 (by omega)
  replace o2 := o2.apart B12 (by omega)
  replace o3 := o3.apart B12 (by omega)
  replace o5 := o5.apart B12 (by omega)
  replace o6 := o6.apart B12 (by omega)
  replace o8 := o8.apart B12 (by omega)
  replace o10 := o10.apart B12 (by omega)
  replace o4 := o4n
  clear o4n
  replace BB := BB.trans (B12.below (B := w.heap.size) (by omega) (by omega))
  go_wp2_with fail
  have p13 := cntb_I x1 z1
  refine (mark_I _ x1 _ _ (1 + (cnt_I x0 : Nat)) _ o5 (by omega) (by omega)).mono ?_
  rintro e w13 ⟨rfl, o5n, B13⟩
  have s13 := B13.size
  replace o1 := o1.apart B13 (by omega)
  replace o2 := o2.apart B13 (by omega)
  replace o3 := o3.apart B13 (by omega)
  replace o4 := o4.apart B13 (by omega)
  replace o6 := o6.apart B13 (by omega)
  replace o8 := o8.apart B13 (by omega)
  replace o10 := o10.apart B13 (by omega)
  replace o5 := o5n
  clear o5n
  replace BB := BB.trans (B13.below (B := w.heap.size) (by omega) (by omega))
  go_wp2_with fail
  refine (eqv_I _ _ (cvOf x0 x1).1 _ o6.rd o3.rd).mono ?_
  rintro e w14 ⟨rfl, B14⟩
  have s14 := B14.size
  replace o1 := o1.below B14 (by omega)
  replace o2 := o2.below B14 (by omega)
  replace o3 := o3.below B14 (by omega)
  replace o4 := o4.below B14 (by omega)
  replace o5 := o5.below B14 (by omega)
  replace o6 := o6.below B14 (by omega)
  replace o8 := o8.below B14 (by omega)
  replace o10 := o10.below B14 (by omega)
  replace BB := BB.trans (B14.mono (B' := w.heap.size) (by omega))
  go_wp2_with fail
  have p15 := cvOf_cnt x0 x1
  refine (mark_I _ (cvOf x0 x1).1 _ _ 1 _ o6 (by omega) (by omega)).mono ?_
  rintro e w15 ⟨rfl, o6n, B15⟩
  have s15 := B15.size
  replace o1 := o1.apart B15 (by omega)
  replace o2 := o2.apart B15 (by omega)
  replace o3 := o3.apart B15 (by omega)
  replace o4 := o4.apart B15 (by omega)
  replace o5 := o5.apart B15 (by omega)
  replace o8 := o8.apart B15 (by omega)
  replace o10 := o10.apart B15 (by omega)
  replace o6 := o6n
  clear o6n
  replace BB := BB.trans (B15.below (B := w.heap.size) (by omega) (by omega))
  go_wp2_with fail
  refine (held_I _ (cvOf x0 x1).1 1 _ o6.rd (by omega) (by omega)).mono ?_
  rintro e w16 ⟨rfl, rfl⟩
  go_wp2_with fail
  refine (to_I _ x0 _ (h0.below BB (Nat.le_refl _)) z0).mono ?_
  rintro e w17 ⟨u17, rfl, o17, B17⟩
  have s17 := B17.size
  replace o1 := o1.below B17 (by omega)
  replace o2 := o2.below B17 (by omega)
  replace o3 := o3.below B17 (by omega)
  replace o4 := o4.below B17 (by omega)
  replace o5 := o5.below B17 (by omega)
  replace o6 := o6.below B17 (by omega)
  replace o8 := o8.below B17 (by omega)
  replace o10 := o10.below B17 (by omega)
  replace BB := BB.trans (B17.mono (B' := w.heap.size) (by omega))
  go_wp2_with fail
  refine (to_I _ x1 _ (h1.below BB (Nat.le_refl _)) z1).mono ?_
  rintro e w18 ⟨u18, rfl, o18, B18⟩
  have s18 := B18.size
  replace o1 := o1.below B18 (by omega)
  replace o2 := o2.below B18 (by omega)
  replace o3 := o3.below B18 (by omega)
  replace o4 := o4.below B18 (by omega)
  replace o5 := o5.below B18 (by omega)
  replace o6 := o6.below B18 (by omega)
  replace o8 := o8.below B18 (by omega)
  replace o10 := o10.below B18 (by omega)
  replace o17 := o17.below B18 (by omega)
  replace BB := BB.trans (B18.mono (B' := w.heap.size) (by omega))
  go_wp2_with fail
  refine (k_impl_Convolve _ _ x0 x1 _ o17.rd o18.rd).mono ?_
  rintro e w19 ⟨u19, rfl, o19, B19⟩
  have s19 := B19.size
  replace o1 := o1.below B19 (by omega)
  replace o2 := o2.below B19 (by omega)
  replace o3 := o3.below B19 (by omega)
  replace o4 := o4.below B19 (by omega)
  replace o5 := o5.below B19 (by omega)
  replace o6 := o6.below B19 (by omega)
  replace o8 := o8.below B19 (by omega)
  replace o10 := o10.below B19 (by omega)
  replace o17 := o17.below B19 (by omega)
  replace o18 := o18.below B19 (by omega)
  replace BB := BB.trans (B19.mono (B' := w.heap.size) (by omega))
  go_wp2_with fail
  refine (eqv_I _ _ (cvOf x0 x1).1 _ o19.rd o3.rd).mono ?_
  rintro e w20 ⟨rfl, B20⟩
  have s20 := B20.size
  replace o1 := o1.below B20 (by omega)
  replace o2 := o2.below B20 (by omega)
  replace o3 := o3.below B20 (by omega)
  replace o4 := o4.below B20 (by omega)
  replace o5 := o5.below B20 (by omega)
  replace o6 := o6.below B20 (by omega)
  replace o8 := o8.below B20 (by omega)
  replace o10 := o10.below B20 (by omega)
  replace o17 := o17.below B20 (by omega)
  replace o18 := o18.below B20 (by omega)
  replace o19 := o19.below B20 (by omega)
  replace BB := BB.trans (B20.mono (B' := w.heap.size) (by omega))
  go_wp2_with fail
  refine (held_I _ (cvOf x0 x1).1 1 _ o6.rd (by omega) (by omega)).mono ?_
  rintro e w21 ⟨rfl, rfl⟩
  go_wp2_with fail
  go_ret
  exact ⟨rfl, BB⟩
end Go.Proofs.YtfhmonacgmakbaaGreat
