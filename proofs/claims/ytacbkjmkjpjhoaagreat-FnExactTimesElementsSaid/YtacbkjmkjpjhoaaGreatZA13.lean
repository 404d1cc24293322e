/- Lemmas (13). -/
import Derived.Test.YtacbkjmkjpjhoaaGreatZA0
import Derived.Test.YtacbkjmkjpjhoaaGreatZA7
import Derived.Test.YtacbkjmkjpjhoaaGreatZA8
import Derived.Test.YtacbkjmkjpjhoaaGreatZA9
import Derived.Test.YtacbkjmkjpjhoaaGreatZA11
import Derived.Test.YtacbkjmkjpjhoaaGreatZA12
set_option linter.unusedSimpArgs false
set_option linter.unusedVariables false
namespace Go.Proofs.YtacbkjmkjpjhoaaGreat
open Go.RowKit
theorem a_impl_IsNumber (n : Int) : AFn Tryz.prog 53 [eI n] (· = [.val (.bool (isNum n))]) := afn_I_s (v := .bool _) (enters_of Tryz.func53 rfl rfl) (fun _ _ => rdV_bool.2 rfl) (fun w => c_impl_IsNumber n w)
noncomputable def TEl : Tab Tryz.prog :=
  ((Tab.none.add 53 (tab1 codI fun n => some [.val (.bool (isNum n))]) (tab1_ok fun n rs h => by cases h; exact a_impl_IsNumber n)).add
    87 (tab1 codLL fun f => if sumLen f ≤ 1048576 ∧ f.length ≤ 1048576 then some [.val (.bool (forB f))] else none) (tab1_ok fun f rs h => by split at h; cases h; rename_i hs; exact a_impl_IsForest f (by omega) (by omega); cases h)).add
    77 (tab2 codLL codLL fun f g => if sumLen f ≤ 1048576 ∧ sumLen g ≤ 1048576 then some [.val (.int (cmpF f g))] else none) (tab2_ok fun f g rs h => by split at h; cases h; rename_i hs; exact a_compareForests f g (by omega) (by omega); cases h)
set_option maxRecDepth 20000 in
set_option maxHeartbeats 8000000 in
theorem a_impl_IsElement (e : Elt) (hsz : szP e) : AFn Tryz.prog 34 [[.sl 2 (e.map ePt)]] (· = [.val (.bool (elB e))]) := by
  refine AFn.of_runs (cfg_ok 47) Tryz.func34 rfl rfl rfl (by simp only [List.length_cons, List.length_nil]; decide) ?_
  have hres : Tryz.f34.results.toList = [.tmp 2] := rfl
  have hrts : Tryz.f34.resultTypes.toList = [4] := rfl
  simp only [argRegs, argAV1, eL, eI, eLL, eB, Nat.zero_add, Nat.reduceAdd]
  intro M
  refine RunK.of ?_
  have hln : e.length ≤ 1048576 := by unfold szP at hsz; omega
  by_cases h3 : e.length ≤ 300
  · have i8 : ((e.length : Int) > 300) = False := eq_false (by omega)
    repeat' (first | with_reducible (first | refine Q1 ?_ | refine Q2 ?_ | refine Q3 ?_ | refine Q4 ?_ | refine Q5 ?_ | refine Q6 ?_ | refine Q7 ?_ | refine Q8 ?_ | refine Q9 ?_ | refine Qa ?_ | refine Qb ?_ | refine Qc ?_ | refine Qd ?_ | refine Qe ?_ | refine Qf ?_) | ((with_reducible refine Qo ?_ ?_); focus rfl) | ((with_reducible first | refine QT 11 (l := ?_) ?_ ?_ | refine QF 11 (l := ?_) ?_ ?_); rotate_left 1; focus (simp only [Zu, Nat.reduceSub, Nat.reduceBEq]; with_reducible rfl)) | ((with_reducible first | refine QS (cfg_ok 47) TEl (s' := ?_) ?_ ?_ | refine QC (b := ?_) ?_ ?_); rotate_left 1; focus ((with_reducible refine QW ?_); simp only [Zg, seval, if_true, if_false, reduceCtorEq, Nat.reduceEqDiff, TEl, i8, List.length_map]; with_reducible rfl)) | ((with_reducible refine QD (cfg_ok 47) TEl mixed_ok (tr := ?_) (s' := ?_) ?_ ?_ ?_); rotate_left 2; (focus ((with_reducible refine QW ?_); simp only [Zg, Zd, seval, if_true, if_false, reduceCtorEq, Nat.reduceEqDiff, TEl, i8, List.length_map]; with_reducible rfl)); focus ((with_reducible refine QK ?_); simp only [Zk]; kernel_rfl)))
    refine RunK.loop (β := Nat) (γ := Unit) (fun i => ⟨[(0, .c (.val (.sl 2 (e.map ePt)))), (8, .c (.val (.sl 2 (e.map ePt)))), (9, .c (.val (.int e.length))), (10, .c (.val (.int i)))], []⟩) (fun i => i ≤ e.length ∧ (List.range i).all (okP e) = true) (fun i => e.length - i)
      (fun _ => ⟨[], []⟩) (fun _ => (List.range e.length).all (okP e) = true) 0 ⟨Nat.zero_le _, rfl⟩ ?_ ?_ ?_
    · (repeat' (first | with_reducible refine Qn | ((with_reducible refine Qr ?_ ?_); focus (first | with_reducible rfl | (simp only [Zz, Nat.reduceBEq, List.length_map]; done) | rfl)) | ((with_reducible refine Qj (o' := ?_) ?_ ?_ ?_); rotate_left 1; focus rfl) | ((with_reducible refine Qw ?_ ?_); (focus (first | with_reducible rfl | (simp only [Zv, List.length_map]; done))); focus (first | exact id | exact (fun h => nomatch h) | exact (fun _ => rfl)))))
    · rintro i ⟨hi, hall⟩
      have hw := w64_succ (n := i) (by omega)
      by_cases h : i < e.length
      · have i1 : ((i : Int) < (e.length : Int)) = True := eq_true (by omega)
        have i2 : ((0 : Int) ≤ (i : Int)) = True := eq_true (by omega)
        have hs1 := hsz.at h
        obtain ⟨c, f, ht⟩ : ∃ c f, (c, f) = e[i] := ⟨_, _, rfl⟩
        have hg : (e.map ePt)[i]? = some [.int c, .sl 1 (f.map eL)] := by rw [map_get h, ← ht]; rfl
        have hgd : e.getD i (0, []) = (c, f) := by rw [getD_at h, ht]
        rw [← ht] at hs1
        simp only at hs1
        have s1 := eq_true hs1
        have s1' := eq_true hs1.1
        by_cases hc0 : c = 0
        · have e0 : (c == 0) = true := by rw [hc0]; rfl
          have hB : elB e = false := by unfold elB; rw [all_range_no h (okP_no1 hgd (.inr hc0)), Bool.and_false]
          rw [hB]
          repeat' (first | with_reducible (first | refine Q1 ?_ | refine Q2 ?_ | refine Q3 ?_ | refine Q4 ?_ | refine Q5 ?_ | refine Q6 ?_ | refine Q7 ?_ | refine Q8 ?_ | refine Q9 ?_ | refine Qa ?_ | refine Qb ?_ | refine Qc ?_ | refine Qd ?_ | refine Qe ?_ | refine Qf ?_) | ((with_reducible refine Qo ?_ ?_); focus rfl) | ((with_reducible first | refine QT 11 (l := ?_) ?_ ?_ | refine QF 11 (l := ?_) ?_ ?_); rotate_left 1; focus (simp only [Zu, Nat.reduceSub, Nat.reduceBEq]; with_reducible rfl)) | ((with_reducible first | refine QS (cfg_ok 47) TEl (s' := ?_) ?_ ?_ | refine QC (b := ?_) ?_ ?_); rotate_left 1; focus ((with_reducible refine QW ?_); simp only [Zg, seval, if_true, if_false, reduceCtorEq, Nat.reduceEqDiff, TEl, i1, i2, hg, hw, e0, Int.toNat_natCast, List.length_map]; with_reducible rfl)) | ((with_reducible refine QD (cfg_ok 47) TEl mixed_ok (tr := ?_) (s' := ?_) ?_ ?_ ?_); rotate_left 2; (focus ((with_reducible refine QW ?_); simp only [Zg, Zd, seval, if_true, if_false, reduceCtorEq, Nat.reduceEqDiff, TEl, i1, i2, hg, hw, e0, Int.toNat_natCast, List.length_map]; with_reducible rfl)); focus ((with_reducible refine QK ?_); simp only [Zk]; kernel_rfl)))
          refine roundK.ret ?_
          repeat' (first | with_reducible (first | refine Q1 ?_ | refine Q2 ?_ | refine Q3 ?_ | refine Q4 ?_ | refine Q5 ?_ | refine Q6 ?_ | refine Q7 ?_ | refine Q8 ?_ | refine Q9 ?_ | refine Qa ?_ | refine Qb ?_ | refine Qc ?_ | refine Qd ?_ | refine Qe ?_ | refine Qf ?_) | ((with_reducible refine Qo ?_ ?_); focus rfl) | ((with_reducible first | refine QT 11 (l := ?_) ?_ ?_ | refine QF 11 (l := ?_) ?_ ?_); rotate_left 1; focus (simp only [Zu, Nat.reduceSub, Nat.reduceBEq]; with_reducible rfl)) | ((with_reducible first | refine QS (cfg_ok 47) TEl (s' := ?_) ?_ ?_ | refine QC (b := ?_) ?_ ?_); rotate_left 1; focus ((with_reducible refine QW ?_); simp only [Zg, seval, if_true, if_false, reduceCtorEq, Nat.reduceEqDiff, TEl]; with_reducible rfl)) | ((with_reducible refine QD (cfg_ok 47) TEl mixed_ok (tr := ?_) (s' := ?_) ?_ ?_ ?_); rotate_left 2; (focus ((with_reducible refine QW ?_); simp only [Zg, Zd, seval, if_true, if_false, reduceCtorEq, Nat.reduceEqDiff, TEl]; with_reducible rfl)); focus ((with_reducible refine QK ?_); simp only [Zk]; kernel_rfl)))
          (refine Ends.mk (by simp) (rs := ?_) (ks := ?_) hres hrts ?_ ?_ ?_; rotate_left 2; (focus (simp only [Ze, Zg, seval, if_true, if_false, reduceCtorEq, Nat.reduceEqDiff]; with_reducible rfl)); (focus simp); focus (first | with_reducible rfl | (simp only [Zv]; done)))
        · have e0 : (c == 0) = false := beq_eq_false_iff_ne.2 hc0
          by_cases hn : isNum c = true
          · by_cases hf : forB f = true
            · by_cases h0 : i = 0
              · have j1 : ((i : Int) > 0) = False := eq_false (by omega)
                have hok : okP e i = true := okP_yes hgd rfl hn hc0 hf (.inl h0)
                repeat' (first | with_reducible (first | refine Q1 ?_ | refine Q2 ?_ | refine Q3 ?_ | refine Q4 ?_ | refine Q5 ?_ | refine Q6 ?_ | refine Q7 ?_ | refine Q8 ?_ | refine Q9 ?_ | refine Qa ?_ | refine Qb ?_ | refine Qc ?_ | refine Qd ?_ | refine Qe ?_ | refine Qf ?_) | ((with_reducible refine Qo ?_ ?_); focus rfl) | ((with_reducible first | refine QT 11 (l := ?_) ?_ ?_ | refine QF 11 (l := ?_) ?_ ?_); rotate_left 1; focus (simp only [Zu, Nat.reduceSub, Nat.reduceBEq]; with_reducible rfl)) | ((with_reducible first | refine QS (cfg_ok 47) TEl (s' := ?_) ?_ ?_ | refine QC (b := ?_) ?_ ?_); rotate_left 1; focus ((with_reducible refine QW ?_); simp only [Zg, seval, if_true, if_false, reduceCtorEq, Nat.reduceEqDiff, TEl, i1, i2, hg, hw, e0, hn, hf, s1, j1, Int.toNat_natCast, List.length_map]; with_reducible rfl)) | ((with_reducible refine QD (cfg_ok 47) TEl mixed_ok (tr := ?_) (s' := ?_) ?_ ?_ ?_); rotate_left 2; (focus ((with_reducible refine QW ?_); simp only [Zg, Zd, seval, if_true, if_false, reduceCtorEq, Nat.reduceEqDiff, TEl, i1, i2, hg, hw, e0, hn, hf, s1, j1, Int.toNat_natCast, List.length_map]; with_reducible rfl)); focus ((with_reducible refine QK ?_); simp only [Zk]; kernel_rfl)))
                refine roundK.on (i + 1) ⟨⟨h, all_range_succ hall hok⟩, by omega⟩ ?_
                (repeat' (first | with_reducible refine Qn | ((with_reducible refine Qr ?_ ?_); focus (first | with_reducible rfl | (simp only [Zz, Nat.reduceBEq]; done) | rfl)) | ((with_reducible refine Qj (o' := ?_) ?_ ?_ ?_); rotate_left 1; focus rfl) | ((with_reducible refine Qw ?_ ?_); (focus (first | with_reducible rfl | (simp only [Zv]; done))); focus (first | exact id | exact (fun h => nomatch h) | exact (fun _ => rfl)))))
              · have j1 : ((i : Int) > 0) = True := eq_true (by omega)
                have hw1 : w64 ((i : Int) - 1) = ((i - 1 : Nat) : Int) := by rw [w64_eq (by omega)]; omega
                have i3 : ((0 : Int) ≤ ((i - 1 : Nat) : Int)) = True := eq_true (by omega)
                have i4 : (((i - 1 : Nat) : Int) < (e.length : Int)) = True := eq_true (by omega)
                have hs2 := hsz.at (show i - 1 < e.length by omega)
                obtain ⟨k, g, ht2⟩ : ∃ k g, (k, g) = e[i - 1] := ⟨_, _, rfl⟩
                have hg2 : (e.map ePt)[i - 1]? = some [.int k, .sl 1 (g.map eL)] := by rw [map_get (by omega), ← ht2]; rfl
                have hgd2 : e.getD (i - 1) (0, []) = (k, g) := by rw [getD_at (by omega), ht2]
                rw [← ht2] at hs2
                simp only at hs2
                have s2 : (sumLen g ≤ 1048576 ∧ sumLen f ≤ 1048576) = True := eq_true ⟨hs2.1, hs1.1⟩
                by_cases hk : cmpF g f < 0
                · have hok : okP e i = true := okP_yes hgd hgd2 hn hc0 hf (.inr hk)
                  have k1 : (cmpF g f ≥ 0) = False := eq_false (by omega)
                  repeat' (first | with_reducible (first | refine Q1 ?_ | refine Q2 ?_ | refine Q3 ?_ | refine Q4 ?_ | refine Q5 ?_ | refine Q6 ?_ | refine Q7 ?_ | refine Q8 ?_ | refine Q9 ?_ | refine Qa ?_ | refine Qb ?_ | refine Qc ?_ | refine Qd ?_ | refine Qe ?_ | refine Qf ?_) | ((with_reducible refine Qo ?_ ?_); focus rfl) | ((with_reducible first | refine QT 11 (l := ?_) ?_ ?_ | refine QF 11 (l := ?_) ?_ ?_); rotate_left 1; focus (simp only [Zu, Nat.reduceSub, Nat.reduceBEq]; with_reducible rfl)) | ((with_reducible first | refine QS (cfg_ok 47) TEl (s' := ?_) ?_ ?_ | refine QC (b := ?_) ?_ ?_); rotate_left 1; focus ((with_reducible refine QW ?_); simp only [Zg, seval, if_true, if_false, reduceCtorEq, Nat.reduceEqDiff, TEl, i1, i2, i3, i4, hg, hg2, hw, hw1, e0, hn, hf, s1, s2, j1, k1, Int.toNat_natCast, List.length_map]; with_reducible rfl)) | ((with_reducible refine QD (cfg_ok 47) TEl mixed_ok (tr := ?_) (s' := ?_) ?_ ?_ ?_); rotate_left 2; (focus ((with_reducible refine QW ?_); simp only [Zg, Zd, seval, if_true, if_false, reduceCtorEq, Nat.reduceEqDiff, TEl, i1, i2, i3, i4, hg, hg2, hw, hw1, e0, hn, hf, s1, s2, j1, k1, Int.toNat_natCast, List.length_map]; with_reducible rfl)); focus ((with_reducible refine QK ?_); simp only [Zk]; kernel_rfl)))
                  refine roundK.on (i + 1) ⟨⟨h, all_range_succ hall hok⟩, by omega⟩ ?_
                  (repeat' (first | with_reducible refine Qn | ((with_reducible refine Qr ?_ ?_); focus (first | with_reducible rfl | (simp only [Zz, Nat.reduceBEq]; done) | rfl)) | ((with_reducible refine Qj (o' := ?_) ?_ ?_ ?_); rotate_left 1; focus rfl) | ((with_reducible refine Qw ?_ ?_); (focus (first | with_reducible rfl | (simp only [Zv]; done))); focus (first | exact id | exact (fun h => nomatch h) | exact (fun _ => rfl)))))
                · have hB : elB e = false := by unfold elB; rw [all_range_no h (okP_no3 hgd hgd2 h0 hk), Bool.and_false]
                  have k1 : (cmpF g f ≥ 0) = True := eq_true (by omega)
                  rw [hB]
                  repeat' (first | with_reducible (first | refine Q1 ?_ | refine Q2 ?_ | refine Q3 ?_ | refine Q4 ?_ | refine Q5 ?_ | refine Q6 ?_ | refine Q7 ?_ | refine Q8 ?_ | refine Q9 ?_ | refine Qa ?_ | refine Qb ?_ | refine Qc ?_ | refine Qd ?_ | refine Qe ?_ | refine Qf ?_) | ((with_reducible refine Qo ?_ ?_); focus rfl) | ((with_reducible first | refine QT 11 (l := ?_) ?_ ?_ | refine QF 11 (l := ?_) ?_ ?_); rotate_left 1; focus (simp only [Zu, Nat.reduceSub, Nat.reduceBEq]; with_reducible rfl)) | ((with_reducible first | refine QS (cfg_ok 47) TEl (s' := ?_) ?_ ?_ | refine QC (b := ?_) ?_ ?_); rotate_left 1; focus ((with_reducible refine QW ?_); simp only [Zg, seval, if_true, if_false, reduceCtorEq, Nat.reduceEqDiff, TEl, i1, i2, i3, i4, hg, hg2, hw, hw1, e0, hn, hf, s1, s2, j1, k1, Int.toNat_natCast, List.length_map]; with_reducible rfl)) | ((with_reducible refine QD (cfg_ok 47) TEl mixed_ok (tr := ?_) (s' := ?_) ?_ ?_ ?_); rotate_left 2; (focus ((with_reducible refine QW ?_); simp only [Zg, Zd, seval, if_true, if_false, reduceCtorEq, Nat.reduceEqDiff, TEl, i1, i2, i3, i4, hg, hg2, hw, hw1, e0, hn, hf, s1, s2, j1, k1, Int.toNat_natCast, List.length_map]; with_reducible rfl)); focus ((with_reducible refine QK ?_); simp only [Zk]; kernel_rfl)))
                  refine roundK.ret ?_
                  repeat' (first | with_reducible (first | refine Q1 ?_ | refine Q2 ?_ | refine Q3 ?_ | refine Q4 ?_ | refine Q5 ?_ | refine Q6 ?_ | refine Q7 ?_ | refine Q8 ?_ | refine Q9 ?_ | refine Qa ?_ | refine Qb ?_ | refine Qc ?_ | refine Qd ?_ | refine Qe ?_ | refine Qf ?_) | ((with_reducible refine Qo ?_ ?_); focus rfl) | ((with_reducible first | refine QT 11 (l := ?_) ?_ ?_ | refine QF 11 (l := ?_) ?_ ?_); rotate_left 1; focus (simp only [Zu, Nat.reduceSub, Nat.reduceBEq]; with_reducible rfl)) | ((with_reducible first | refine QS (cfg_ok 47) TEl (s' := ?_) ?_ ?_ | refine QC (b := ?_) ?_ ?_); rotate_left 1; focus ((with_reducible refine QW ?_); simp only [Zg, seval, if_true, if_false, reduceCtorEq, Nat.reduceEqDiff, TEl]; with_reducible rfl)) | ((with_reducible refine QD (cfg_ok 47) TEl mixed_ok (tr := ?_) (s' := ?_) ?_ ?_ ?_); rotate_left 2; (focus ((with_reducible refine QW ?_); simp only [Zg, Zd, seval, if_true, if_false, reduceCtorEq, Nat.reduceEqDiff, TEl]; with_reducible rfl)); focus ((with_reducible refine QK ?_); simp only [Zk]; kernel_rfl)))
                  (refine Ends.mk (by simp) (rs := ?_) (ks := ?_) hres hrts ?_ ?_ ?_; rotate_left 2; (focus (simp only [Ze, Zg, seval, if_true, if_false, reduceCtorEq, Nat.reduceEqDiff]; with_reducible rfl)); (focus simp); focus (first | with_reducible rfl | (simp only [Zv]; done)))
            · have hf : forB f = false := by simpa using hf
              have hB : elB e = false := by unfold elB; rw [all_range_no h (okP_no2 hgd hf), Bool.and_false]
              rw [hB]
              repeat' (first | with_reducible (first | refine Q1 ?_ | refine Q2 ?_ | refine Q3 ?_ | refine Q4 ?_ | refine Q5 ?_ | refine Q6 ?_ | refine Q7 ?_ | refine Q8 ?_ | refine Q9 ?_ | refine Qa ?_ | refine Qb ?_ | refine Qc ?_ | refine Qd ?_ | refine Qe ?_ | refine Qf ?_) | ((with_reducible refine Qo ?_ ?_); focus rfl) | ((with_reducible first | refine QT 11 (l := ?_) ?_ ?_ | refine QF 11 (l := ?_) ?_ ?_); rotate_left 1; focus (simp only [Zu, Nat.reduceSub, Nat.reduceBEq]; with_reducible rfl)) | ((with_reducible first | refine QS (cfg_ok 47) TEl (s' := ?_) ?_ ?_ | refine QC (b := ?_) ?_ ?_); rotate_left 1; focus ((with_reducible refine QW ?_); simp only [Zg, seval, if_true, if_false, reduceCtorEq, Nat.reduceEqDiff, TEl, i1, i2, hg, hw, e0, hn, hf, s1, Int.toNat_natCast, List.length_map]; with_reducible rfl)) | ((with_reducible refine QD (cfg_ok 47) TEl mixed_ok (tr := ?_) (s' := ?_) ?_ ?_ ?_); rotate_left 2; (focus ((with_reducible refine QW ?_); simp only [Zg, Zd, seval, if_true, if_false, reduceCtorEq, Nat.reduceEqDiff, TEl, i1, i2, hg, hw, e0, hn, hf, s1, Int.toNat_natCast, List.length_map]; with_reducible rfl)); focus ((with_reducible refine QK ?_); simp only [Zk]; kernel_rfl)))
              refine roundK.ret ?_
              repeat' (first | with_reducible (first | refine Q1 ?_ | refine Q2 ?_ | refine Q3 ?_ | refine Q4 ?_ | refine Q5 ?_ | refine Q6 ?_ | refine Q7 ?_ | refine Q8 ?_ | refine Q9 ?_ | refine Qa ?_ | refine Qb ?_ | refine Qc ?_ | refine Qd ?_ | refine Qe ?_ | refine Qf ?_) | ((with_reducible refine Qo ?_ ?_); focus rfl) | ((with_reducible first | refine QT 11 (l := ?_) ?_ ?_ | refine QF 11 (l := ?_) ?_ ?_); rotate_left 1; focus (simp only [Zu, Nat.reduceSub, Nat.reduceBEq]; with_reducible rfl)) | ((with_reducible first | refine QS (cfg_ok 47) TEl (s' := ?_) ?_ ?_ | refine QC (b := ?_) ?_ ?_); rotate_left 1; focus ((with_reducible refine QW ?_); simp only [Zg, seval, if_true, if_false, reduceCtorEq, Nat.reduceEqDiff, TEl]; with_reducible rfl)) | ((with_reducible refine QD (cfg_ok 47) TEl mixed_ok (tr := ?_) (s' := ?_) ?_ ?_ ?_); rotate_left 2; (focus ((with_reducible refine QW ?_); simp only [Zg, Zd, seval, if_true, if_false, reduceCtorEq, Nat.reduceEqDiff, TEl]; with_reducible rfl)); focus ((with_reducible refine QK ?_); simp only [Zk]; kernel_rfl)))
              (refine Ends.mk (by simp) (rs := ?_) (ks := ?_) hres hrts ?_ ?_ ?_; rotate_left 2; (focus (simp only [Ze, Zg, seval, if_true, if_false, reduceCtorEq, Nat.reduceEqDiff]; with_reducible rfl)); (focus simp); focus (first | with_reducible rfl | (simp only [Zv]; done)))
          · have hn : isNum c = false := by simpa using hn
            have hB : elB e = false := by unfold elB; rw [all_range_no h (okP_no1 hgd (.inl hn)), Bool.and_false]
            rw [hB]
            repeat' (first | with_reducible (first | refine Q1 ?_ | refine Q2 ?_ | refine Q3 ?_ | refine Q4 ?_ | refine Q5 ?_ | refine Q6 ?_ | refine Q7 ?_ | refine Q8 ?_ | refine Q9 ?_ | refine Qa ?_ | refine Qb ?_ | refine Qc ?_ | refine Qd ?_ | refine Qe ?_ | refine Qf ?_) | ((with_reducible refine Qo ?_ ?_); focus rfl) | ((with_reducible first | refine QT 11 (l := ?_) ?_ ?_ | refine QF 11 (l := ?_) ?_ ?_); rotate_left 1; focus (simp only [Zu, Nat.reduceSub, Nat.reduceBEq]; with_reducible rfl)) | ((with_reducible first | refine QS (cfg_ok 47) TEl (s' := ?_) ?_ ?_ | refine QC (b := ?_) ?_ ?_); rotate_left 1; focus ((with_reducible refine QW ?_); simp only [Zg, seval, if_true, if_false, reduceCtorEq, Nat.reduceEqDiff, TEl, i1, i2, hg, hw, e0, hn, Int.toNat_natCast, List.length_map]; with_reducible rfl)) | ((with_reducible refine QD (cfg_ok 47) TEl mixed_ok (tr := ?_) (s' := ?_) ?_ ?_ ?_); rotate_left 2; (focus ((with_reducible refine QW ?_); simp only [Zg, Zd, seval, if_true, if_false, reduceCtorEq, Nat.reduceEqDiff, TEl, i1, i2, hg, hw, e0, hn, Int.toNat_natCast, List.length_map]; with_reducible rfl)); focus ((with_reducible refine QK ?_); simp only [Zk]; kernel_rfl)))
            refine roundK.ret ?_
            repeat' (first | with_reducible (first | refine Q1 ?_ | refine Q2 ?_ | refine Q3 ?_ | refine Q4 ?_ | refine Q5 ?_ | refine Q6 ?_ | refine Q7 ?_ | refine Q8 ?_ | refine Q9 ?_ | refine Qa ?_ | refine Qb ?_ | refine Qc ?_ | refine Qd ?_ | refine Qe ?_ | refine Qf ?_) | ((with_reducible refine Qo ?_ ?_); focus rfl) | ((with_reducible first | refine QT 11 (l := ?_) ?_ ?_ | refine QF 11 (l := ?_) ?_ ?_); rotate_left 1; focus (simp only [Zu, Nat.reduceSub, Nat.reduceBEq]; with_reducible rfl)) | ((with_reducible first | refine QS (cfg_ok 47) TEl (s' := ?_) ?_ ?_ | refine QC (b := ?_) ?_ ?_); rotate_left 1; focus ((with_reducible refine QW ?_); simp only [Zg, seval, if_true, if_false, reduceCtorEq, Nat.reduceEqDiff, TEl]; with_reducible rfl)) | ((with_reducible refine QD (cfg_ok 47) TEl mixed_ok (tr := ?_) (s' := ?_) ?_ ?_ ?_); rotate_left 2; (focus ((with_reducible refine QW ?_); simp only [Zg, Zd, seval, if_true, if_false, reduceCtorEq, Nat.reduceEqDiff, TEl]; with_reducible rfl)); focus ((with_reducible refine QK ?_); simp only [Zk]; kernel_rfl)))
            (refine Ends.mk (by simp) (rs := ?_) (ks := ?_) hres hrts ?_ ?_ ?_; rotate_left 2; (focus (simp only [Ze, Zg, seval, if_true, if_false, reduceCtorEq, Nat.reduceEqDiff]; with_reducible rfl)); (focus simp); focus (first | with_reducible rfl | (simp only [Zv]; done)))
      · have i1 : ((i : Int) < (e.length : Int)) = False := eq_false (by omega)
        obtain rfl : i = e.length := by omega
        repeat' (first | with_reducible (first | refine Q1 ?_ | refine Q2 ?_ | refine Q3 ?_ | refine Q4 ?_ | refine Q5 ?_ | refine Q6 ?_ | refine Q7 ?_ | refine Q8 ?_ | refine Q9 ?_ | refine Qa ?_ | refine Qb ?_ | refine Qc ?_ | refine Qd ?_ | refine Qe ?_ | refine Qf ?_) | ((with_reducible refine Qo ?_ ?_); focus rfl) | ((with_reducible first | refine QT 11 (l := ?_) ?_ ?_ | refine QF 11 (l := ?_) ?_ ?_); rotate_left 1; focus (simp only [Zu, Nat.reduceSub, Nat.reduceBEq]; with_reducible rfl)) | ((with_reducible first | refine QS (cfg_ok 47) TEl (s' := ?_) ?_ ?_ | refine QC (b := ?_) ?_ ?_); rotate_left 1; focus ((with_reducible refine QW ?_); simp only [Zg, seval, if_true, if_false, reduceCtorEq, Nat.reduceEqDiff, TEl, i1]; with_reducible rfl)) | ((with_reducible refine QD (cfg_ok 47) TEl mixed_ok (tr := ?_) (s' := ?_) ?_ ?_ ?_); rotate_left 2; (focus ((with_reducible refine QW ?_); simp only [Zg, Zd, seval, if_true, if_false, reduceCtorEq, Nat.reduceEqDiff, TEl, i1]; with_reducible rfl)); focus ((with_reducible refine QK ?_); simp only [Zk]; kernel_rfl)))
        refine roundK.out () hall ?_
        (repeat' (first | with_reducible refine Qn | ((with_reducible refine Qr ?_ ?_); focus (first | with_reducible rfl | (simp only [Zz, Nat.reduceBEq]; done) | rfl)) | ((with_reducible refine Qj (o' := ?_) ?_ ?_ ?_); rotate_left 1; focus rfl) | ((with_reducible refine Qw ?_ ?_); (focus (first | with_reducible rfl | (simp only [Zv]; done))); focus (first | exact id | exact (fun h => nomatch h) | exact (fun _ => rfl)))))
    · rintro _ hall
      have hB : elB e = true := by unfold elB; rw [hall, decide_eq_true h3]; rfl
      rw [hB]
      repeat' (first | with_reducible (first | refine Q1 ?_ | refine Q2 ?_ | refine Q3 ?_ | refine Q4 ?_ | refine Q5 ?_ | refine Q6 ?_ | refine Q7 ?_ | refine Q8 ?_ | refine Q9 ?_ | refine Qa ?_ | refine Qb ?_ | refine Qc ?_ | refine Qd ?_ | refine Qe ?_ | refine Qf ?_) | ((with_reducible refine Qo ?_ ?_); focus rfl) | ((with_reducible first | refine QT 11 (l := ?_) ?_ ?_ | refine QF 11 (l := ?_) ?_ ?_); rotate_left 1; focus (simp only [Zu, Nat.reduceSub, Nat.reduceBEq]; with_reducible rfl)) | ((with_reducible first | refine QS (cfg_ok 47) TEl (s' := ?_) ?_ ?_ | refine QC (b := ?_) ?_ ?_); rotate_left 1; focus ((with_reducible refine QW ?_); simp only [Zg, seval, if_true, if_false, reduceCtorEq, Nat.reduceEqDiff, TEl]; with_reducible rfl)) | ((with_reducible refine QD (cfg_ok 47) TEl mixed_ok (tr := ?_) (s' := ?_) ?_ ?_ ?_); rotate_left 2; (focus ((with_reducible refine QW ?_); simp only [Zg, Zd, seval, if_true, if_false, reduceCtorEq, Nat.reduceEqDiff, TEl]; with_reducible rfl)); focus ((with_reducible refine QK ?_); simp only [Zk]; kernel_rfl)))
      (refine Ends.mk (by simp) (rs := ?_) (ks := ?_) hres hrts ?_ ?_ ?_; rotate_left 2; (focus (simp only [Ze, Zg, seval, if_true, if_false, reduceCtorEq, Nat.reduceEqDiff]; with_reducible rfl)); (focus simp); focus (first | with_reducible rfl | (simp only [Zv]; done)))
  · have i8 : ((e.length : Int) > 300) = True := eq_true (by omega)
    have hB : elB e = false := by unfold elB; rw [decide_eq_false h3, Bool.false_and]
    rw [hB]
    repeat' (first | with_reducible (first | refine Q1 ?_ | refine Q2 ?_ | refine Q3 ?_ | refine Q4 ?_ | refine Q5 ?_ | refine Q6 ?_ | refine Q7 ?_ | refine Q8 ?_ | refine Q9 ?_ | refine Qa ?_ | refine Qb ?_ | refine Qc ?_ | refine Qd ?_ | refine Qe ?_ | refine Qf ?_) | ((with_reducible refine Qo ?_ ?_); focus rfl) | ((with_reducible first | refine QT 11 (l := ?_) ?_ ?_ | refine QF 11 (l := ?_) ?_ ?_); rotate_left 1; focus (simp only [Zu, Nat.reduceSub, Nat.reduceBEq]; with_reducible rfl)) | ((with_reducible first | refine QS (cfg_ok 47) TEl (s' := ?_) ?_ ?_ | refine QC (b := ?_) ?_ ?_); rotate_left 1; focus ((with_reducible refine QW ?_); simp only [Zg, seval, if_true, if_false, reduceCtorEq, Nat.reduceEqDiff, TEl, i8, List.length_map]; with_reducible rfl)) | ((with_reducible refine QD (cfg_ok 47) TEl mixed_ok (tr := ?_) (s' := ?_) ?_ ?_ ?_); rotate_left 2; (focus ((with_reducible refine QW ?_); simp only [Zg, Zd, seval, if_true, if_false, reduceCtorEq, Nat.reduceEqDiff, TEl, i8, List.length_map]; with_reducible rfl)); focus ((with_reducible refine QK ?_); simp only [Zk]; kernel_rfl)))
    (refine Ends.mk (by simp) (rs := ?_) (ks := ?_) hres hrts ?_ ?_ ?_; rotate_left 2; (focus (simp only [Ze, Zg, seval, if_true, if_false, reduceCtorEq, Nat.reduceEqDiff]; with_reducible rfl)); (focus simp); focus (first | with_reducible rfl | (simp only [Zv]; done)))
end Go.Proofs.YtacbkjmkjpjhoaaGreat
namespace Go.Proofs.YtacbkjmkjpjhoaaGreat
open Go.RowKit
noncomputable def TElS : Tab Tryz.prog :=
  ((Tab.none.add 49 (tab3 codI codI codI fun x y z => some [.val (.bool (inR x y z))]) (tab3_ok fun x y z rs h => by cases h; exact a_spec_l01In x y z)).add
    96 (tab1 codLL fun f => if sumLen f ≤ 1048576 ∧ f.length ≤ 1048576 then some [.val (.bool (forB f))] else none) (tab1_ok fun f rs h => by split at h; cases h; rename_i hs; exact a_l03Forest f (by omega) (by omega); cases h)).add
    97 (tab2 codLL codLL fun f g => if (sumLen f ≤ 1048576 ∧ sumLen g ≤ 1048576) ∧ (f.length ≤ 1048576 ∧ g.length ≤ 1048576) then some [.val (.int (sgn (cmpF f g)))] else none) (tab2_ok fun f g rs h => by split at h; cases h; rename_i hs; exact a_l06Order f g (by omega) (by omega) (by omega) (by omega); cases h)
theorem sgn_ge {n : Int} : (sgn n ≥ 0) = (¬ n < 0) := by
  unfold sgn
  by_cases h : n < 0
  · rw [if_pos h]; exact propext ⟨fun h => absurd h (by decide), fun k => absurd h k⟩
  · rw [if_neg h]; split <;> exact propext ⟨fun _ => h, fun _ => by decide⟩
set_option maxRecDepth 20000 in
set_option maxHeartbeats 8000000 in
theorem a_l06Is (e : Elt) (hsz : szP e) : AFn Tryz.prog 48 [[.sl 2 (e.map ePt)]] (· = [.val (.bool (elB e))]) := by
  refine AFn.of_runs (cfg_ok 48) Tryz.func48 rfl rfl rfl (by simp only [List.length_cons, List.length_nil]; decide) ?_
  have hres : Tryz.f48.results.toList = [.tmp 2] := rfl
  have hrts : Tryz.f48.resultTypes.toList = [4] := rfl
  simp only [argRegs, argAV1, eL, eI, eLL, eB, Nat.zero_add, Nat.reduceAdd]
  intro M
  refine RunK.of ?_
  have hln : e.length ≤ 1048576 := by unfold szP at hsz; omega
  repeat' (first | with_reducible (first | refine Q1 ?_ | refine Q2 ?_ | refine Q3 ?_ | refine Q4 ?_ | refine Q5 ?_ | refine Q6 ?_ | refine Q7 ?_ | refine Q8 ?_ | refine Q9 ?_ | refine Qa ?_ | refine Qb ?_ | refine Qc ?_ | refine Qd ?_ | refine Qe ?_ | refine Qf ?_) | ((with_reducible refine Qo ?_ ?_); focus rfl) | ((with_reducible first | refine QT 4 (l := ?_) ?_ ?_ | refine QF 4 (l := ?_) ?_ ?_); rotate_left 1; focus (simp only [Zu, Nat.reduceSub, Nat.reduceBEq]; with_reducible rfl)) | ((with_reducible first | refine QS (cfg_ok 48) TElS (s' := ?_) ?_ ?_ | refine QC (b := ?_) ?_ ?_); rotate_left 1; focus ((with_reducible refine QW ?_); simp only [Zg, seval, if_true, if_false, reduceCtorEq, Nat.reduceEqDiff, TElS, List.length_map]; with_reducible rfl)) | ((with_reducible refine QD (cfg_ok 48) TElS mixed_ok (tr := ?_) (s' := ?_) ?_ ?_ ?_); rotate_left 2; (focus ((with_reducible refine QW ?_); simp only [Zg, Zd, seval, if_true, if_false, reduceCtorEq, Nat.reduceEqDiff, TElS, List.length_map]; with_reducible rfl)); focus ((with_reducible refine QK ?_); simp only [Zk]; kernel_rfl)))
  refine RunK.loop (β := Nat) (γ := Unit) (fun i => ⟨[(0, .c (.val (.sl 2 (e.map ePt)))), (3, .c (.val (.int i)))], []⟩) (fun i => i ≤ e.length ∧ (List.range i).all (okP e) = true) (fun i => e.length - i)
    (fun _ => ⟨[(0, .c (.val (.sl 2 (e.map ePt))))], []⟩) (fun _ => (List.range e.length).all (okP e) = true) 0 ⟨Nat.zero_le _, rfl⟩ ?_ ?_ ?_
  · (repeat' (first | with_reducible refine Qn | ((with_reducible refine Qr ?_ ?_); focus (first | with_reducible rfl | (simp only [Zz, Nat.reduceBEq]; done) | rfl)) | ((with_reducible refine Qj (o' := ?_) ?_ ?_ ?_); rotate_left 1; focus rfl) | ((with_reducible refine Qw ?_ ?_); (focus (first | with_reducible rfl | (simp only [Zv]; done))); focus (first | exact id | exact (fun h => nomatch h) | exact (fun _ => rfl)))))
  · rintro i ⟨hi, hall⟩
    have hw := w64_succ (n := i) (by omega)
    by_cases h : i < e.length
    · have i1 : ((i : Int) < (e.length : Int)) = True := eq_true (by omega)
      have i2 : ((0 : Int) ≤ (i : Int)) = True := eq_true (by omega)
      have hs1 := hsz.at h
      obtain ⟨c, f, ht⟩ : ∃ c f, (c, f) = e[i] := ⟨_, _, rfl⟩
      have hg : (e.map ePt)[i]? = some [.int c, .sl 1 (f.map eL)] := by rw [map_get h, ← ht]; rfl
      have hgd : e.getD i (0, []) = (c, f) := by rw [getD_at h, ht]
      rw [← ht] at hs1
      simp only at hs1
      have s1 := eq_true hs1
      by_cases hn : inR c 1 10006 = true
      · have hn1 : isNum c = true ∧ c ≠ 0 := by unfold inR at hn; unfold isNum inR; simp at hn ⊢; omega
        by_cases hf : forB f = true
        · by_cases h0 : i = 0
          · have j1 : ((i : Int) > 0) = False := eq_false (by omega)
            have hok : okP e i = true := okP_yes hgd rfl hn1.1 hn1.2 hf (.inl h0)
            repeat' (first | with_reducible (first | refine Q1 ?_ | refine Q2 ?_ | refine Q3 ?_ | refine Q4 ?_ | refine Q5 ?_ | refine Q6 ?_ | refine Q7 ?_ | refine Q8 ?_ | refine Q9 ?_ | refine Qa ?_ | refine Qb ?_ | refine Qc ?_ | refine Qd ?_ | refine Qe ?_ | refine Qf ?_) | ((with_reducible refine Qo ?_ ?_); focus rfl) | ((with_reducible first | refine QT 4 (l := ?_) ?_ ?_ | refine QF 4 (l := ?_) ?_ ?_); rotate_left 1; focus (simp only [Zu, Nat.reduceSub, Nat.reduceBEq]; with_reducible rfl)) | ((with_reducible first | refine QS (cfg_ok 48) TElS (s' := ?_) ?_ ?_ | refine QC (b := ?_) ?_ ?_); rotate_left 1; focus ((with_reducible refine QW ?_); simp only [Zg, seval, if_true, if_false, reduceCtorEq, Nat.reduceEqDiff, TElS, i1, i2, hg, hw, hn, hf, s1, j1, Int.toNat_natCast, List.length_map]; with_reducible rfl)) | ((with_reducible refine QD (cfg_ok 48) TElS mixed_ok (tr := ?_) (s' := ?_) ?_ ?_ ?_); rotate_left 2; (focus ((with_reducible refine QW ?_); simp only [Zg, Zd, seval, if_true, if_false, reduceCtorEq, Nat.reduceEqDiff, TElS, i1, i2, hg, hw, hn, hf, s1, j1, Int.toNat_natCast, List.length_map]; with_reducible rfl)); focus ((with_reducible refine QK ?_); simp only [Zk]; kernel_rfl)))
            refine roundK.on (i + 1) ⟨⟨h, all_range_succ hall hok⟩, by omega⟩ ?_
            (repeat' (first | with_reducible refine Qn | ((with_reducible refine Qr ?_ ?_); focus (first | with_reducible rfl | (simp only [Zz, Nat.reduceBEq]; done) | rfl)) | ((with_reducible refine Qj (o' := ?_) ?_ ?_ ?_); rotate_left 1; focus rfl) | ((with_reducible refine Qw ?_ ?_); (focus (first | with_reducible rfl | (simp only [Zv]; done))); focus (first | exact id | exact (fun h => nomatch h) | exact (fun _ => rfl)))))
          · have j1 : ((i : Int) > 0) = True := eq_true (by omega)
            have hw1 : w64 ((i : Int) - 1) = ((i - 1 : Nat) : Int) := by rw [w64_eq (by omega)]; omega
            have i3 : ((0 : Int) ≤ ((i - 1 : Nat) : Int)) = True := eq_true (by omega)
            have i4 : (((i - 1 : Nat) : Int) < (e.length : Int)) = True := eq_true (by omega)
            have hs2 := hsz.at (show i - 1 < e.length by omega)
            obtain ⟨k, g, ht2⟩ : ∃ k g, (k, g) = e[i - 1] := ⟨_, _, rfl⟩
            have hg2 : (e.map ePt)[i - 1]? = some [.int k, .sl 1 (g.map eL)] := by rw [map_get (by omega), ← ht2]; rfl
            have hgd2 : e.getD (i - 1) (0, []) = (k, g) := by rw [getD_at (by omega), ht2]
            rw [← ht2] at hs2
            simp only at hs2
            have s2 : ((sumLen g ≤ 1048576 ∧ sumLen f ≤ 1048576) ∧ (g.length ≤ 1048576 ∧ f.length ≤ 1048576)) = True := eq_true ⟨⟨hs2.1, hs1.1⟩, hs2.2, hs1.2⟩
            by_cases hk : cmpF g f < 0
            · have hok : okP e i = true := okP_yes hgd hgd2 hn1.1 hn1.2 hf (.inr hk)
              have k1 : (sgn (cmpF g f) ≥ 0) = False := by rw [sgn_ge]; exact eq_false (fun k => k hk)
              repeat' (first | with_reducible (first | refine Q1 ?_ | refine Q2 ?_ | refine Q3 ?_ | refine Q4 ?_ | refine Q5 ?_ | refine Q6 ?_ | refine Q7 ?_ | refine Q8 ?_ | refine Q9 ?_ | refine Qa ?_ | refine Qb ?_ | refine Qc ?_ | refine Qd ?_ | refine Qe ?_ | refine Qf ?_) | ((with_reducible refine Qo ?_ ?_); focus rfl) | ((with_reducible first | refine QT 4 (l := ?_) ?_ ?_ | refine QF 4 (l := ?_) ?_ ?_); rotate_left 1; focus (simp only [Zu, Nat.reduceSub, Nat.reduceBEq]; with_reducible rfl)) | ((with_reducible first | refine QS (cfg_ok 48) TElS (s' := ?_) ?_ ?_ | refine QC (b := ?_) ?_ ?_); rotate_left 1; focus ((with_reducible refine QW ?_); simp only [Zg, seval, if_true, if_false, reduceCtorEq, Nat.reduceEqDiff, TElS, i1, i2, i3, i4, hg, hg2, hw, hw1, hn, hf, s1, s2, j1, k1, Int.toNat_natCast, List.length_map]; with_reducible rfl)) | ((with_reducible refine QD (cfg_ok 48) TElS mixed_ok (tr := ?_) (s' := ?_) ?_ ?_ ?_); rotate_left 2; (focus ((with_reducible refine QW ?_); simp only [Zg, Zd, seval, if_true, if_false, reduceCtorEq, Nat.reduceEqDiff, TElS, i1, i2, i3, i4, hg, hg2, hw, hw1, hn, hf, s1, s2, j1, k1, Int.toNat_natCast, List.length_map]; with_reducible rfl)); focus ((with_reducible refine QK ?_); simp only [Zk]; kernel_rfl)))
              refine roundK.on (i + 1) ⟨⟨h, all_range_succ hall hok⟩, by omega⟩ ?_
              (repeat' (first | with_reducible refine Qn | ((with_reducible refine Qr ?_ ?_); focus (first | with_reducible rfl | (simp only [Zz, Nat.reduceBEq]; done) | rfl)) | ((with_reducible refine Qj (o' := ?_) ?_ ?_ ?_); rotate_left 1; focus rfl) | ((with_reducible refine Qw ?_ ?_); (focus (first | with_reducible rfl | (simp only [Zv]; done))); focus (first | exact id | exact (fun h => nomatch h) | exact (fun _ => rfl)))))
            · have hB : elB e = false := by unfold elB; rw [all_range_no h (okP_no3 hgd hgd2 h0 hk), Bool.and_false]
              have k1 : (sgn (cmpF g f) ≥ 0) = True := by rw [sgn_ge]; exact eq_true hk
              rw [hB]
              repeat' (first | with_reducible (first | refine Q1 ?_ | refine Q2 ?_ | refine Q3 ?_ | refine Q4 ?_ | refine Q5 ?_ | refine Q6 ?_ | refine Q7 ?_ | refine Q8 ?_ | refine Q9 ?_ | refine Qa ?_ | refine Qb ?_ | refine Qc ?_ | refine Qd ?_ | refine Qe ?_ | refine Qf ?_) | ((with_reducible refine Qo ?_ ?_); focus rfl) | ((with_reducible first | refine QT 4 (l := ?_) ?_ ?_ | refine QF 4 (l := ?_) ?_ ?_); rotate_left 1; focus (simp only [Zu, Nat.reduceSub, Nat.reduceBEq]; with_reducible rfl)) | ((with_reducible first | refine QS (cfg_ok 48) TElS (s' := ?_) ?_ ?_ | refine QC (b := ?_) ?_ ?_); rotate_left 1; focus ((with_reducible refine QW ?_); simp only [Zg, seval, if_true, if_false, reduceCtorEq, Nat.reduceEqDiff, TElS, i1, i2, i3, i4, hg, hg2, hw, hw1, hn, hf, s1, s2, j1, k1, Int.toNat_natCast, List.length_map]; with_reducible rfl)) | ((with_reducible refine QD (cfg_ok 48) TElS mixed_ok (tr := ?_) (s' := ?_) ?_ ?_ ?_); rotate_left 2; (focus ((with_reducible refine QW ?_); simp only [Zg, Zd, seval, if_true, if_false, reduceCtorEq, Nat.reduceEqDiff, TElS, i1, i2, i3, i4, hg, hg2, hw, hw1, hn, hf, s1, s2, j1, k1, Int.toNat_natCast, List.length_map]; with_reducible rfl)); focus ((with_reducible refine QK ?_); simp only [Zk]; kernel_rfl)))
              refine roundK.ret ?_
              repeat' (first | with_reducible (first | refine Q1 ?_ | refine Q2 ?_ | refine Q3 ?_ | refine Q4 ?_ | refine Q5 ?_ | refine Q6 ?_ | refine Q7 ?_ | refine Q8 ?_ | refine Q9 ?_ | refine Qa ?_ | refine Qb ?_ | refine Qc ?_ | refine Qd ?_ | refine Qe ?_ | refine Qf ?_) | ((with_reducible refine Qo ?_ ?_); focus rfl) | ((with_reducible first | refine QT 4 (l := ?_) ?_ ?_ | refine QF 4 (l := ?_) ?_ ?_); rotate_left 1; focus (simp only [Zu, Nat.reduceSub, Nat.reduceBEq]; with_reducible rfl)) | ((with_reducible first | refine QS (cfg_ok 48) TElS (s' := ?_) ?_ ?_ | refine QC (b := ?_) ?_ ?_); rotate_left 1; focus ((with_reducible refine QW ?_); simp only [Zg, seval, if_true, if_false, reduceCtorEq, Nat.reduceEqDiff, TElS]; with_reducible rfl)) | ((with_reducible refine QD (cfg_ok 48) TElS mixed_ok (tr := ?_) (s' := ?_) ?_ ?_ ?_); rotate_left 2; (focus ((with_reducible refine QW ?_); simp only [Zg, Zd, seval, if_true, if_false, reduceCtorEq, Nat.reduceEqDiff, TElS]; with_reducible rfl)); focus ((with_reducible refine QK ?_); simp only [Zk]; kernel_rfl)))
              (refine Ends.mk (by simp) (rs := ?_) (ks := ?_) hres hrts ?_ ?_ ?_; rotate_left 2; (focus (simp only [Ze, Zg, seval, if_true, if_false, reduceCtorEq, Nat.reduceEqDiff]; with_reducible rfl)); (focus simp); focus (first | with_reducible rfl | (simp only [Zv]; done)))
        · have hf : forB f = false := by simpa using hf
          have hB : elB e = false := by unfold elB; rw [all_range_no h (okP_no2 hgd hf), Bool.and_false]
          rw [hB]
          repeat' (first | with_reducible (first | refine Q1 ?_ | refine Q2 ?_ | refine Q3 ?_ | refine Q4 ?_ | refine Q5 ?_ | refine Q6 ?_ | refine Q7 ?_ | refine Q8 ?_ | refine Q9 ?_ | refine Qa ?_ | refine Qb ?_ | refine Qc ?_ | refine Qd ?_ | refine Qe ?_ | refine Qf ?_) | ((with_reducible refine Qo ?_ ?_); focus rfl) | ((with_reducible first | refine QT 4 (l := ?_) ?_ ?_ | refine QF 4 (l := ?_) ?_ ?_); rotate_left 1; focus (simp only [Zu, Nat.reduceSub, Nat.reduceBEq]; with_reducible rfl)) | ((with_reducible first | refine QS (cfg_ok 48) TElS (s' := ?_) ?_ ?_ | refine QC (b := ?_) ?_ ?_); rotate_left 1; focus ((with_reducible refine QW ?_); simp only [Zg, seval, if_true, if_false, reduceCtorEq, Nat.reduceEqDiff, TElS, i1, i2, hg, hw, hn, hf, s1, Int.toNat_natCast, List.length_map]; with_reducible rfl)) | ((with_reducible refine QD (cfg_ok 48) TElS mixed_ok (tr := ?_) (s' := ?_) ?_ ?_ ?_); rotate_left 2; (focus ((with_reducible refine QW ?_); simp only [Zg, Zd, seval, if_true, if_false, reduceCtorEq, Nat.reduceEqDiff, TElS, i1, i2, hg, hw, hn, hf, s1, Int.toNat_natCast, List.length_map]; with_reducible rfl)); focus ((with_reducible refine QK ?_); simp only [Zk]; kernel_rfl)))
          refine roundK.ret ?_
          repeat' (first | with_reducible (first | refine Q1 ?_ | refine Q2 ?_ | refine Q3 ?_ | refine Q4 ?_ | refine Q5 ?_ | refine Q6 ?_ | refine Q7 ?_ | refine Q8 ?_ | refine Q9 ?_ | refine Qa ?_ | refine Qb ?_ | refine Qc ?_ | refine Qd ?_ | refine Qe ?_ | refine Qf ?_) | ((with_reducible refine Qo ?_ ?_); focus rfl) | ((with_reducible first | refine QT 4 (l := ?_) ?_ ?_ | refine QF 4 (l := ?_) ?_ ?_); rotate_left 1; focus (simp only [Zu, Nat.reduceSub, Nat.reduceBEq]; with_reducible rfl)) | ((with_reducible first | refine QS (cfg_ok 48) TElS (s' := ?_) ?_ ?_ | refine QC (b := ?_) ?_ ?_); rotate_left 1; focus ((with_reducible refine QW ?_); simp only [Zg, seval, if_true, if_false, reduceCtorEq, Nat.reduceEqDiff, TElS]; with_reducible rfl)) | ((with_reducible refine QD (cfg_ok 48) TElS mixed_ok (tr := ?_) (s' := ?_) ?_ ?_ ?_); rotate_left 2; (focus ((with_reducible refine QW ?_); simp only [Zg, Zd, seval, if_true, if_false, reduceCtorEq, Nat.reduceEqDiff, TElS]; with_reducible rfl)); focus ((with_reducible refine QK ?_); simp only [Zk]; kernel_rfl)))
          (refine Ends.mk (by simp) (rs := ?_) (ks := ?_) hres hrts ?_ ?_ ?_; rotate_left 2; (focus (simp only [Ze, Zg, seval, if_true, if_false, reduceCtorEq, Nat.reduceEqDiff]; with_reducible rfl)); (focus simp); focus (first | with_reducible rfl | (simp only [Zv]; done)))
      · have hn : inR c 1 10006 = false := by simpa using hn
        have hB : elB e = false := by
          unfold elB
          rw [all_range_no h (okP_no1 hgd ?_), Bool.and_false]
          unfold inR at hn
          unfold isNum inR
          simp at hn ⊢
          omega
        rw [hB]
        repeat' (first | with_reducible (first | refine Q1 ?_ | refine Q2 ?_ | refine Q3 ?_ | refine Q4 ?_ | refine Q5 ?_ | refine Q6 ?_ | refine Q7 ?_ | refine Q8 ?_ | refine Q9 ?_ | refine Qa ?_ | refine Qb ?_ | refine Qc ?_ | refine Qd ?_ | refine Qe ?_ | refine Qf ?_) | ((with_reducible refine Qo ?_ ?_); focus rfl) | ((with_reducible first | refine QT 4 (l := ?_) ?_ ?_ | refine QF 4 (l := ?_) ?_ ?_); rotate_left 1; focus (simp only [Zu, Nat.reduceSub, Nat.reduceBEq]; with_reducible rfl)) | ((with_reducible first | refine QS (cfg_ok 48) TElS (s' := ?_) ?_ ?_ | refine QC (b := ?_) ?_ ?_); rotate_left 1; focus ((with_reducible refine QW ?_); simp only [Zg, seval, if_true, if_false, reduceCtorEq, Nat.reduceEqDiff, TElS, i1, i2, hg, hw, hn, Int.toNat_natCast, List.length_map]; with_reducible rfl)) | ((with_reducible refine QD (cfg_ok 48) TElS mixed_ok (tr := ?_) (s' := ?_) ?_ ?_ ?_); rotate_left 2; (focus ((with_reducible refine QW ?_); simp only [Zg, Zd, seval, if_true, if_false, reduceCtorEq, Nat.reduceEqDiff, TElS, i1, i2, hg, hw, hn, Int.toNat_natCast, List.length_map]; with_reducible rfl)); focus ((with_reducible refine QK ?_); simp only [Zk]; kernel_rfl)))
        refine roundK.ret ?_
        repeat' (first | with_reducible (first | refine Q1 ?_ | refine Q2 ?_ | refine Q3 ?_ | refine Q4 ?_ | refine Q5 ?_ | refine Q6 ?_ | refine Q7 ?_ | refine Q8 ?_ | refine Q9 ?_ | refine Qa ?_ | refine Qb ?_ | refine Qc ?_ | refine Qd ?_ | refine Qe ?_ | refine Qf ?_) | ((with_reducible refine Qo ?_ ?_); focus rfl) | ((with_reducible first | refine QT 4 (l := ?_) ?_ ?_ | refine QF 4 (l := ?_) ?_ ?_); rotate_left 1; focus (simp only [Zu, Nat.reduceSub, Nat.reduceBEq]; with_reducible rfl)) | ((with_reducible first | refine QS (cfg_ok 48) TElS (s' := ?_) ?_ ?_ | refine QC (b := ?_) ?_ ?_); rotate_left 1; focus ((with_reducible refine QW ?_); simp only [Zg, seval, if_true, if_false, reduceCtorEq, Nat.reduceEqDiff, TElS]; with_reducible rfl)) | ((with_reducible refine QD (cfg_ok 48) TElS mixed_ok (tr := ?_) (s' := ?_) ?_ ?_ ?_); rotate_left 2; (focus ((with_reducible refine QW ?_); simp only [Zg, Zd, seval, if_true, if_false, reduceCtorEq, Nat.reduceEqDiff, TElS]; with_reducible rfl)); focus ((with_reducible refine QK ?_); simp only [Zk]; kernel_rfl)))
        (refine Ends.mk (by simp) (rs := ?_) (ks := ?_) hres hrts ?_ ?_ ?_; rotate_left 2; (focus (simp only [Ze, Zg, seval, if_true, if_false, reduceCtorEq, Nat.reduceEqDiff]; with_reducible rfl)); (focus simp); focus (first | with_reducible rfl | (simp only [Zv]; done)))
    · have i1 : ((i : Int) < (e.length : Int)) = False := eq_false (by omega)
      obtain rfl : i = e.length := by omega
      repeat' (first | with_reducible (first | refine Q1 ?_ | refine Q2 ?_ | refine Q3 ?_ | refine Q4 ?_ | refine Q5 ?_ | refine Q6 ?_ | refine Q7 ?_ | refine Q8 ?_ | refine Q9 ?_ | refine Qa ?_ | refine Qb ?_ | refine Qc ?_ | refine Qd ?_ | refine Qe ?_ | refine Qf ?_) | ((with_reducible refine Qo ?_ ?_); focus rfl) | ((with_reducible first | refine QT 4 (l := ?_) ?_ ?_ | refine QF 4 (l := ?_) ?_ ?_); rotate_left 1; focus (simp only [Zu, Nat.reduceSub, Nat.reduceBEq]; with_reducible rfl)) | ((with_reducible first | refine QS (cfg_ok 48) TElS (s' := ?_) ?_ ?_ | refine QC (b := ?_) ?_ ?_); rotate_left 1; focus ((with_reducible refine QW ?_); simp only [Zg, seval, if_true, if_false, reduceCtorEq, Nat.reduceEqDiff, TElS, i1, List.length_map]; with_reducible rfl)) | ((with_reducible refine QD (cfg_ok 48) TElS mixed_ok (tr := ?_) (s' := ?_) ?_ ?_ ?_); rotate_left 2; (focus ((with_reducible refine QW ?_); simp only [Zg, Zd, seval, if_true, if_false, reduceCtorEq, Nat.reduceEqDiff, TElS, i1, List.length_map]; with_reducible rfl)); focus ((with_reducible refine QK ?_); simp only [Zk]; kernel_rfl)))
      refine roundK.out () hall ?_
      (repeat' (first | with_reducible refine Qn | ((with_reducible refine Qr ?_ ?_); focus (first | with_reducible rfl | (simp only [Zz, Nat.reduceBEq]; done) | rfl)) | ((with_reducible refine Qj (o' := ?_) ?_ ?_ ?_); rotate_left 1; focus rfl) | ((with_reducible refine Qw ?_ ?_); (focus (first | with_reducible rfl | (simp only [Zv]; done))); focus (first | exact id | exact (fun h => nomatch h) | exact (fun _ => rfl)))))
  · rintro _ hall
    have hB : elB e = decide ((e.length : Int) ≤ 300) := by
      unfold elB; rw [hall, Bool.and_true]
      exact decide_eq_decide.2 (by omega)
    rw [hB]
    repeat' (first | with_reducible (first | refine Q1 ?_ | refine Q2 ?_ | refine Q3 ?_ | refine Q4 ?_ | refine Q5 ?_ | refine Q6 ?_ | refine Q7 ?_ | refine Q8 ?_ | refine Q9 ?_ | refine Qa ?_ | refine Qb ?_ | refine Qc ?_ | refine Qd ?_ | refine Qe ?_ | refine Qf ?_) | ((with_reducible refine Qo ?_ ?_); focus rfl) | ((with_reducible first | refine QT 4 (l := ?_) ?_ ?_ | refine QF 4 (l := ?_) ?_ ?_); rotate_left 1; focus (simp only [Zu, Nat.reduceSub, Nat.reduceBEq]; with_reducible rfl)) | ((with_reducible first | refine QS (cfg_ok 48) TElS (s' := ?_) ?_ ?_ | refine QC (b := ?_) ?_ ?_); rotate_left 1; focus ((with_reducible refine QW ?_); simp only [Zg, seval, if_true, if_false, reduceCtorEq, Nat.reduceEqDiff, TElS, List.length_map]; with_reducible rfl)) | ((with_reducible refine QD (cfg_ok 48) TElS mixed_ok (tr := ?_) (s' := ?_) ?_ ?_ ?_); rotate_left 2; (focus ((with_reducible refine QW ?_); simp only [Zg, Zd, seval, if_true, if_false, reduceCtorEq, Nat.reduceEqDiff, TElS, List.length_map]; with_reducible rfl)); focus ((with_reducible refine QK ?_); simp only [Zk]; kernel_rfl)))
    (refine Ends.mk (by simp) (rs := ?_) (ks := ?_) hres hrts ?_ ?_ ?_; rotate_left 2; (focus (simp only [Ze, Zg, seval, if_true, if_false, reduceCtorEq, Nat.reduceEqDiff]; with_reducible rfl)); (focus simp); focus (first | with_reducible rfl | (simp only [Zv]; done)))
end Go.Proofs.YtacbkjmkjpjhoaaGreat
namespace Go.Proofs.YtacbkjmkjpjhoaaGreat
open Go.RowKit
def RetOC {α : Type} (R : Rep α) (w : World) (x : α) (code : Int) : Ending → World → Prop :=
  fun e w' => ∃ u, e = .returned (.tuple #[u, .int .i64 code]) ∧ Own R w.heap.size w'.heap.size w' [u] x ∧ Below w.heap.size w w'
end Go.Proofs.YtacbkjmkjpjhoaaGreat
namespace Go.Proofs.YtacbkjmkjpjhoaaGreat
open Go.RowKit
theorem elB_okE {e : Elt} (h : elB e = true) : OkE e ∧ e.length ≤ 300 ∧ ∀ p ∈ e, p.2.length ≤ 8 ∧ sumLen p.2 ≤ 8 := by
  obtain ⟨h1, h2, _, h4⟩ := elB_spec h
  have h5 : ∀ p ∈ e, p.2.length ≤ 8 ∧ sumLen p.2 ≤ 8 := fun p hp => ⟨forB_short (h4 p hp), (forB_spec (h4 p hp)).1⟩
  exact ⟨fun q hq => ⟨h2.2 q hq, by have := h5 q hq; exact ⟨by omega, by omega⟩⟩, h1, h5⟩
theorem cnt_P_le {a : Nat} : ∀ (e : Elt), (∀ p ∈ e, cnt_II p.2 ≤ a) → cnt_P e ≤ (1 + a) * e.length
  | [], _ => by simp [cnt_P]
  | p :: e, h => by
    have h1 := h p (by simp)
    have ih := cnt_P_le e (fun q hq => h q (by simp [hq]))
    simp only [cnt_P, List.length_cons]
    rw [Nat.mul_succ]; omega
theorem cnt_SmF {f : List (List Int)} (h : SmF f) : cnt_II f ≤ 200 := by
  obtain ⟨h1, h2⟩ := h
  unfold cnt_II
  omega
theorem addS_cnt {M : Elt} (hM : ∀ q ∈ M, (0 ≤ q.1 ∧ q.1 < 10007) ∧ SmF q.2) (hl : (sumS cmpF M).length ≤ 300) : cnt_P (sumS cmpF M) ≤ 1048576 := by
  have h1 := addS_okE OkE.nil hM
  have h2 := cnt_P_le (a := 200) (sumS cmpF M) (fun p hp => cnt_SmF (h1 p hp).2)
  omega
theorem limS_cnt {M : Elt} (hM : ∀ q ∈ M, (0 ≤ q.1 ∧ q.1 < 10007) ∧ SmF q.2) : cnt_P (limS (sumS cmpF M)).1 ≤ 1048576 := by
  unfold limS
  split
  · rename_i h
    exact addS_cnt hM h.1
  · simp [cnt_P]
end Go.Proofs.YtacbkjmkjpjhoaaGreat
namespace Go.Proofs.YtacbkjmkjpjhoaaGreat
open Go.RowKit
theorem a_ContainsFuncPt {α : Type} (e : α → List D) (d : α → D) (c0 : α → Int) (f : α → List (List Int)) (p : α → Bool) (g : FuncId) (he : ∀ x, e x = [.int (c0 x), d x]) (hun : ∀ x, (d x).un = .sl 1 ((f x).map eL)) (hp : ∀ x, AFn Tryz.prog g [[.int (c0 x), .sl 1 ((f x).map eL)]] (· = [.val (.bool (p x))])) (xs : List α) (hl : xs.length ≤ 1000000000) :
    AFn Tryz.prog 115 [[.sl 2 (xs.map e)], [.raw (.func (.func g) #[] #[])]] (· = [.val (.bool (xs.any p))]) := by
  have hidx := a_IndexFuncPt e d c0 f p g he hun hp xs hl
  rcases hfi : fIdx p xs with _ | i0
  · rw [hfi] at hidx
    have hk : xs.any p = false := List.any_eq_false.2 (fun x hx => by rw [fIdx_none.1 hfi x hx]; decide)
    rw [hk]
    refine AFn.of_runs (cfg_ok 9) Tryz.func115 rfl rfl rfl (by simp only [List.length_cons, List.length_nil]; decide) ?_
    have hres : Tryz.f115.results.toList = [.tmp 4] := rfl
    have hrts : Tryz.f115.resultTypes.toList = [4] := rfl
    simp only [argRegs, argAV1, eL, eI, eLL, eB, Nat.zero_add, Nat.reduceAdd]
    intro M
    refine RunK.of ?_
    repeat' (first | with_reducible (first | refine Q1 ?_ | refine Q2 ?_ | refine Q3 ?_ | refine Q4 ?_ | refine Q5 ?_ | refine Q6 ?_ | refine Q7 ?_ | refine Q8 ?_ | refine Q9 ?_ | refine Qa ?_ | refine Qb ?_ | refine Qc ?_ | refine Qd ?_ | refine Qe ?_ | refine Qf ?_) | ((with_reducible refine Qo ?_ ?_); focus rfl) | ((with_reducible first | refine QT 5 (l := ?_) ?_ ?_ | refine QF 5 (l := ?_) ?_ ?_); rotate_left 1; focus (simp only [Zu, Nat.reduceSub, Nat.reduceBEq]; with_reducible rfl)) | ((with_reducible first | refine QS (cfg_ok 9) (Tab.none.at' 152 hidx) (s' := ?_) ?_ ?_ | refine QC (b := ?_) ?_ ?_); rotate_left 1; focus ((with_reducible refine QW ?_); simp only [Zg, seval, if_true, if_false, reduceCtorEq, Nat.reduceEqDiff, idxI, show ((-1 : Int) ≥ 0) = False from eq_false (by decide)]; with_reducible rfl)))
    (refine Ends.mk (by simp) (rs := ?_) (ks := ?_) hres hrts ?_ ?_ ?_; rotate_left 2; (focus (simp only [Ze, Zg, seval, if_true, if_false, reduceCtorEq, Nat.reduceEqDiff]; with_reducible rfl)); (focus simp); focus (first | with_reducible rfl | (simp only [Zv]; done)))
  · rw [hfi] at hidx
    obtain ⟨hi0, hpi, _⟩ := fIdx_some hfi
    have hk : xs.any p = true := List.any_eq_true.2 ⟨_, List.getElem_mem hi0, hpi⟩
    have i1 : ((i0 : Int) ≥ 0) = True := eq_true (by omega)
    rw [hk]
    refine AFn.of_runs (cfg_ok 9) Tryz.func115 rfl rfl rfl (by simp only [List.length_cons, List.length_nil]; decide) ?_
    have hres : Tryz.f115.results.toList = [.tmp 4] := rfl
    have hrts : Tryz.f115.resultTypes.toList = [4] := rfl
    simp only [argRegs, argAV1, eL, eI, eLL, eB, Nat.zero_add, Nat.reduceAdd]
    intro M
    refine RunK.of ?_
    repeat' (first | with_reducible (first | refine Q1 ?_ | refine Q2 ?_ | refine Q3 ?_ | refine Q4 ?_ | refine Q5 ?_ | refine Q6 ?_ | refine Q7 ?_ | refine Q8 ?_ | refine Q9 ?_ | refine Qa ?_ | refine Qb ?_ | refine Qc ?_ | refine Qd ?_ | refine Qe ?_ | refine Qf ?_) | ((with_reducible refine Qo ?_ ?_); focus rfl) | ((with_reducible first | refine QT 5 (l := ?_) ?_ ?_ | refine QF 5 (l := ?_) ?_ ?_); rotate_left 1; focus (simp only [Zu, Nat.reduceSub, Nat.reduceBEq]; with_reducible rfl)) | ((with_reducible first | refine QS (cfg_ok 9) (Tab.none.at' 152 hidx) (s' := ?_) ?_ ?_ | refine QC (b := ?_) ?_ ?_); rotate_left 1; focus ((with_reducible refine QW ?_); simp only [Zg, seval, if_true, if_false, reduceCtorEq, Nat.reduceEqDiff, idxI, i1]; with_reducible rfl)))
    (refine Ends.mk (by simp) (rs := ?_) (ks := ?_) hres hrts ?_ ?_ ?_; rotate_left 2; (focus (simp only [Ze, Zg, seval, if_true, if_false, reduceCtorEq, Nat.reduceEqDiff]; with_reducible rfl)); (focus simp); focus (first | with_reducible rfl | (simp only [Zv]; done)))
theorem a_limited1 (n : Int) (f : List (List Int)) : AFn Tryz.prog 116 [[.int n, .sl 1 (f.map eL)]] (· = [.val (.bool (decide (nodesB f > 8)))]) := by
  have hn := a_nodesIn f
  simp only [eLL] at hn
  refine AFn.of_runs (cfg_ok 7) Tryz.func116 rfl rfl rfl (by simp only [List.length_cons, List.length_nil]; decide) ?_
  have hres : Tryz.f116.results.toList = [.tmp 2] := rfl
  have hrts : Tryz.f116.resultTypes.toList = [4] := rfl
  simp only [argRegs, argAV1, eL, eI, eLL, eB, Nat.zero_add, Nat.reduceAdd]
  intro M
  refine RunK.of ?_
  by_cases h : nodesB f > 8
  · have i1 : (nodesB f > 8) = True := eq_true h
    rw [decide_eq_true h]
    repeat' (first | with_reducible (first | refine Q1 ?_ | refine Q2 ?_ | refine Q3 ?_ | refine Q4 ?_ | refine Q5 ?_ | refine Q6 ?_ | refine Q7 ?_ | refine Q8 ?_ | refine Q9 ?_ | refine Qa ?_ | refine Qb ?_ | refine Qc ?_ | refine Qd ?_ | refine Qe ?_ | refine Qf ?_) | ((with_reducible refine Qo ?_ ?_); focus rfl) | ((with_reducible first | refine QT 3 (l := ?_) ?_ ?_ | refine QF 3 (l := ?_) ?_ ?_); rotate_left 1; focus (simp only [Zu, Nat.reduceSub, Nat.reduceBEq]; with_reducible rfl)) | ((with_reducible first | refine QS (cfg_ok 7) (Tab.none.at' 88 hn) (s' := ?_) ?_ ?_ | refine QC (b := ?_) ?_ ?_); rotate_left 1; focus ((with_reducible refine QW ?_); simp only [Zg, seval, if_true, if_false, reduceCtorEq, Nat.reduceEqDiff, i1]; with_reducible rfl)))
    (refine Ends.mk (by simp) (rs := ?_) (ks := ?_) hres hrts ?_ ?_ ?_; rotate_left 2; (focus (simp only [Ze, Zg, seval, if_true, if_false, reduceCtorEq, Nat.reduceEqDiff]; with_reducible rfl)); (focus simp); focus (first | with_reducible rfl | (simp only [Zv]; done)))
  · have i1 : (nodesB f > 8) = False := eq_false h
    rw [decide_eq_false h]
    repeat' (first | with_reducible (first | refine Q1 ?_ | refine Q2 ?_ | refine Q3 ?_ | refine Q4 ?_ | refine Q5 ?_ | refine Q6 ?_ | refine Q7 ?_ | refine Q8 ?_ | refine Q9 ?_ | refine Qa ?_ | refine Qb ?_ | refine Qc ?_ | refine Qd ?_ | refine Qe ?_ | refine Qf ?_) | ((with_reducible refine Qo ?_ ?_); focus rfl) | ((with_reducible first | refine QT 3 (l := ?_) ?_ ?_ | refine QF 3 (l := ?_) ?_ ?_); rotate_left 1; focus (simp only [Zu, Nat.reduceSub, Nat.reduceBEq]; with_reducible rfl)) | ((with_reducible first | refine QS (cfg_ok 7) (Tab.none.at' 88 hn) (s' := ?_) ?_ ?_ | refine QC (b := ?_) ?_ ?_); rotate_left 1; focus ((with_reducible refine QW ?_); simp only [Zg, seval, if_true, if_false, reduceCtorEq, Nat.reduceEqDiff, i1]; with_reducible rfl)))
    (refine Ends.mk (by simp) (rs := ?_) (ks := ?_) hres hrts ?_ ?_ ?_; rotate_left 2; (focus (simp only [Ze, Zg, seval, if_true, if_false, reduceCtorEq, Nat.reduceEqDiff]; with_reducible rfl)); (focus simp); focus (first | with_reducible rfl | (simp only [Zv]; done)))
set_option maxHeartbeats 1000000 in
theorem a_limited (L : Elt) (hl : L.length ≤ 100000) (hz : ∀ z ∈ L, (0 ≤ z.1 ∧ z.1 < 10007) ∧ SmF z.2) : AFn Tryz.prog 63 [[.sl 2 (L.map ePt)]] (· = [.own 2 ((limS (sumS cmpF L)).1.map ePt) true, .val (.int (limS (sumS cmpF L)).2)]) := by
  have h1 := a_summed L hl (fun z hz' => ⟨(hz z hz').1, by have := (hz z hz').2.1; omega, by have := (hz z hz').2.2; omega⟩)
  have hok : OkE (sumS cmpF L) := addS_okE OkE.nil hz
  have hsl := addS_len L []
  simp only [List.length_nil] at hsl
  obtain ⟨S, hS⟩ : ∃ S, S = sumS cmpF L := ⟨_, rfl⟩
  have hsl : S.length ≤ 1000000000 := by rw [hS]; show (addS cmpF [] L).length ≤ _; omega
  rw [← hS] at h1 hok ⊢
  have h2 := a_ContainsFuncPt ePt (fun z => .sl 1 (z.2.map eL)) (·.1) (·.2) (fun z => decide (nodesB z.2 > 8)) 116 (fun _ => rfl) (fun _ => rfl) (fun z => a_limited1 z.1 z.2) S hsl
  have hany : S.any (fun z => decide (nodesB z.2 > 8)) = !decide (∀ p ∈ S, sumLen p.2 ≤ 8) := by
    by_cases h : ∀ p ∈ S, sumLen p.2 ≤ 8
    · rw [decide_eq_true h]
      refine List.any_eq_false.2 (fun x hx => ?_)
      have := h x hx
      rw [nodesB_eq x.2 (by omega)]
      simp; omega
    · rw [decide_eq_false h]
      have h' : ∃ p ∈ S, 8 < sumLen p.2 := by
        refine Classical.byContradiction fun hn => h fun p hp => ?_
        refine Classical.byContradiction fun hq => hn ⟨p, hp, by omega⟩
      obtain ⟨p, hp, hq⟩ := h'
      refine List.any_eq_true.2 ⟨p, hp, ?_⟩
      rw [nodesB_eq p.2 (by have := (hok p hp).2.2; omega)]
      exact decide_eq_true (by omega)
  rw [hany] at h2
  unfold limS
  refine AFn.of_runs (cfg_ok 15) Tryz.func63 rfl rfl rfl (by simp only [List.length_cons, List.length_nil]; decide) ?_
  have hres : Tryz.f63.results.toList = [.tmp 2, .tmp 3] := rfl
  have hrts : Tryz.f63.resultTypes.toList = [24, 2] := rfl
  simp only [argRegs, argAV1, eL, eI, eLL, eB, Nat.zero_add, Nat.reduceAdd]
  intro M
  refine RunK.of ?_
  by_cases hn : S.length ≤ 300
  · have i1 : ((S.length : Int) > 300) = False := eq_false (by omega)
    by_cases h8 : ∀ p ∈ S, sumLen p.2 ≤ 8
    · rw [if_pos ⟨hn, h8⟩]
      rw [decide_eq_true h8] at h2
      repeat' (first | with_reducible (first | refine Q1 ?_ | refine Q2 ?_ | refine Q3 ?_ | refine Q4 ?_ | refine Q5 ?_ | refine Q6 ?_ | refine Q7 ?_ | refine Q8 ?_ | refine Q9 ?_ | refine Qa ?_ | refine Qb ?_ | refine Qc ?_ | refine Qd ?_ | refine Qe ?_ | refine Qf ?_) | ((with_reducible refine Qo ?_ ?_); focus rfl) | ((with_reducible first | refine QT 5 (l := ?_) ?_ ?_ | refine QF 5 (l := ?_) ?_ ?_); rotate_left 1; focus (simp only [Zu, Nat.reduceSub, Nat.reduceBEq]; with_reducible rfl)) | ((with_reducible first | refine QS (cfg_ok 15) ((Tab.none.at' 54 h1).at' 115 h2) (s' := ?_) ?_ ?_ | refine QC (b := ?_) ?_ ?_); rotate_left 1; focus ((with_reducible refine QW ?_); simp only [Zg, seval, if_true, if_false, reduceCtorEq, Nat.reduceEqDiff, i1, List.length_map, Bool.not_true]; with_reducible rfl)))
      (refine Ends.mk (by simp) (rs := ?_) (ks := ?_) hres hrts ?_ ?_ ?_; rotate_left 2; (focus (simp only [Ze, Zg, seval, if_true, if_false, reduceCtorEq, Nat.reduceEqDiff]; with_reducible rfl)); (focus simp); focus (first | with_reducible rfl | (simp only [Zv]; done)))
    · rw [if_neg (fun h => h8 h.2)]
      rw [decide_eq_false h8] at h2
      repeat' (first | with_reducible (first | refine Q1 ?_ | refine Q2 ?_ | refine Q3 ?_ | refine Q4 ?_ | refine Q5 ?_ | refine Q6 ?_ | refine Q7 ?_ | refine Q8 ?_ | refine Q9 ?_ | refine Qa ?_ | refine Qb ?_ | refine Qc ?_ | refine Qd ?_ | refine Qe ?_ | refine Qf ?_) | ((with_reducible refine Qo ?_ ?_); focus rfl) | ((with_reducible first | refine QT 5 (l := ?_) ?_ ?_ | refine QF 5 (l := ?_) ?_ ?_); rotate_left 1; focus (simp only [Zu, Nat.reduceSub, Nat.reduceBEq]; with_reducible rfl)) | ((with_reducible first | refine QS (cfg_ok 15) ((Tab.none.at' 54 h1).at' 115 h2) (s' := ?_) ?_ ?_ | refine QC (b := ?_) ?_ ?_); rotate_left 1; focus ((with_reducible refine QW ?_); simp only [Zg, seval, if_true, if_false, reduceCtorEq, Nat.reduceEqDiff, i1, List.length_map, Bool.not_false]; with_reducible rfl)))
      (refine Ends.mk (by simp) (rs := ?_) (ks := ?_) hres hrts ?_ ?_ ?_; rotate_left 2; (focus (simp only [Ze, Zg, seval, if_true, if_false, reduceCtorEq, Nat.reduceEqDiff]; with_reducible rfl)); (focus simp); focus (first | with_reducible rfl | (simp only [Zv]; done)))
  · have i1 : ((S.length : Int) > 300) = True := eq_true (by omega)
    rw [if_neg (fun h => hn h.1)]
    repeat' (first | with_reducible (first | refine Q1 ?_ | refine Q2 ?_ | refine Q3 ?_ | refine Q4 ?_ | refine Q5 ?_ | refine Q6 ?_ | refine Q7 ?_ | refine Q8 ?_ | refine Q9 ?_ | refine Qa ?_ | refine Qb ?_ | refine Qc ?_ | refine Qd ?_ | refine Qe ?_ | refine Qf ?_) | ((with_reducible refine Qo ?_ ?_); focus rfl) | ((with_reducible first | refine QT 5 (l := ?_) ?_ ?_ | refine QF 5 (l := ?_) ?_ ?_); rotate_left 1; focus (simp only [Zu, Nat.reduceSub, Nat.reduceBEq]; with_reducible rfl)) | ((with_reducible first | refine QS (cfg_ok 15) (Tab.none.at' 54 h1) (s' := ?_) ?_ ?_ | refine QC (b := ?_) ?_ ?_); rotate_left 1; focus ((with_reducible refine QW ?_); simp only [Zg, seval, if_true, if_false, reduceCtorEq, Nat.reduceEqDiff, i1, List.length_map]; with_reducible rfl)))
    (refine Ends.mk (by simp) (rs := ?_) (ks := ?_) hres hrts ?_ ?_ ?_; rotate_left 2; (focus (simp only [Ze, Zg, seval, if_true, if_false, reduceCtorEq, Nat.reduceEqDiff]; with_reducible rfl)); (focus simp); focus (first | with_reducible rfl | (simp only [Zv]; done)))
end Go.Proofs.YtacbkjmkjpjhoaaGreat
namespace Go.Proofs.YtacbkjmkjpjhoaaGreat
open Go.RowKit
end Go.Proofs.YtacbkjmkjpjhoaaGreat
namespace Go.Proofs.YtacbkjmkjpjhoaaGreat
open Go.RowKit
def rotL (e : Elt) : Elt := e.map fun p => (p.1, [canon (rootOn p.2)])
theorem forB_lev {f : List (List Int)} (h : forB f = true) : ∀ b ∈ f, LevP b := fun b hb => by
  have := (forB_spec h).2.1 b hb
  unfold canT at this
  rw [Bool.and_eq_true] at this
  exact lev8_lev this.1
theorem rot_sm {f : List (List Int)} (h : forB f = true) : SmF [canon (rootOn f)] ∧ (canon (rootOn f)).length ≤ 9 := by
  have h1 := (forB_spec h).1
  have h2 := canon_len (rootOn_lev (forB_lev h))
  rw [rootOn_len] at h2
  refine ⟨⟨by simp, ?_⟩, by omega⟩
  simp [sumLen]; omega
theorem rotL_ok {e : Elt} (h : elB e = true) : ∀ q ∈ rotL e, (0 ≤ q.1 ∧ q.1 < 10007) ∧ SmF q.2 := fun q hq => by
  obtain ⟨p, hp, rfl⟩ := List.mem_map.1 hq
  obtain ⟨_, h2, _, h4⟩ := elB_spec h
  have := h2.2 p hp
  exact ⟨⟨by simp only; omega, by simp only; omega⟩, (rot_sm (h4 p hp)).1⟩
theorem rotOf_cnt (e : Elt) : cnt_P (rotOf e).1 ≤ 1048576 := by
  unfold rotOf
  split
  · rename_i h
    exact limS_cnt (rotL_ok h)
  · simp [cnt_P]
set_option maxHeartbeats 2000000 in
theorem a_impl_RootElement (e : Elt) (hz : szP e) : AFn Tryz.prog 20 [[.sl 2 (e.map ePt)]] (· = [.own 2 ((rotOf e).1.map ePt) true, .val (.int (rotOf e).2)]) := by
  have h1 := a_impl_IsElement e hz
  unfold rotOf
  refine AFn.of_runs (cfg_ok 33) Tryz.func20 rfl rfl rfl (by simp only [List.length_cons, List.length_nil]; decide) ?_
  have hres : Tryz.f20.results.toList = [.tmp 2, .tmp 3] := rfl
  have hrts : Tryz.f20.resultTypes.toList = [24, 2] := rfl
  simp only [argRegs, argAV1, eL, eI, eLL, eB, Nat.zero_add, Nat.reduceAdd]
  intro M
  refine RunK.of ?_
  by_cases hE : elB e = true
  rotate_left
  · have hE' : elB e = false := by simpa using hE
    rw [if_neg hE]
    rw [hE'] at h1
    repeat' (first | with_reducible (first | refine Q1 ?_ | refine Q2 ?_ | refine Q3 ?_ | refine Q4 ?_ | refine Q5 ?_ | refine Q6 ?_ | refine Q7 ?_ | refine Q8 ?_ | refine Q9 ?_ | refine Qa ?_ | refine Qb ?_ | refine Qc ?_ | refine Qd ?_ | refine Qe ?_ | refine Qf ?_) | ((with_reducible refine Qo ?_ ?_); focus rfl) | ((with_reducible first | refine QT 14 (l := ?_) ?_ ?_ | refine QF 14 (l := ?_) ?_ ?_); rotate_left 1; focus (simp only [Zu, Nat.reduceSub, Nat.reduceBEq]; with_reducible rfl)) | ((with_reducible first | refine QS (cfg_ok 33) (Tab.none.at' 34 h1) (s' := ?_) ?_ ?_ | refine QC (b := ?_) ?_ ?_); rotate_left 1; focus ((with_reducible refine QW ?_); simp only [Zg, seval, if_true, if_false, reduceCtorEq, Nat.reduceEqDiff]; with_reducible rfl)) | ((with_reducible refine QD (cfg_ok 33) (Tab.none.at' 34 h1) mixed_ok (tr := ?_) (s' := ?_) ?_ ?_ ?_); rotate_left 2; (focus ((with_reducible refine QW ?_); simp only [Zg, Zd, seval, if_true, if_false, reduceCtorEq, Nat.reduceEqDiff]; with_reducible rfl)); focus ((with_reducible refine QK ?_); simp only [Zk]; kernel_rfl)))
    (refine Ends.mk (by simp) (rs := ?_) (ks := ?_) hres hrts ?_ ?_ ?_; rotate_left 2; (focus (simp only [Ze, Zg, seval, if_true, if_false, reduceCtorEq, Nat.reduceEqDiff]; with_reducible rfl)); (focus simp); focus (first | with_reducible rfl | (simp only [Zv]; done)))
  rw [hE] at h1
  rw [if_pos hE]
  obtain ⟨hl, _, _, hfo⟩ := elB_spec hE
  have h4 := a_limited (rotL e) (by unfold rotL; rw [List.length_map]; omega) (rotL_ok hE)
  repeat' (first | with_reducible (first | refine Q1 ?_ | refine Q2 ?_ | refine Q3 ?_ | refine Q4 ?_ | refine Q5 ?_ | refine Q6 ?_ | refine Q7 ?_ | refine Q8 ?_ | refine Q9 ?_ | refine Qa ?_ | refine Qb ?_ | refine Qc ?_ | refine Qd ?_ | refine Qe ?_ | refine Qf ?_) | ((with_reducible refine Qo ?_ ?_); focus rfl) | ((with_reducible first | refine QT 14 (l := ?_) ?_ ?_ | refine QF 14 (l := ?_) ?_ ?_); rotate_left 1; focus (simp only [Zu, Nat.reduceSub, Nat.reduceBEq]; with_reducible rfl)) | ((with_reducible first | refine QS (cfg_ok 33) (Tab.none.at' 34 h1) (s' := ?_) ?_ ?_ | refine QC (b := ?_) ?_ ?_); rotate_left 1; focus ((with_reducible refine QW ?_); simp only [Zg, seval, if_true, if_false, reduceCtorEq, Nat.reduceEqDiff]; with_reducible rfl)) | ((with_reducible refine QD (cfg_ok 33) (Tab.none.at' 34 h1) mixed_ok (tr := ?_) (s' := ?_) ?_ ?_ ?_); rotate_left 2; (focus ((with_reducible refine QW ?_); simp only [Zg, Zd, seval, if_true, if_false, reduceCtorEq, Nat.reduceEqDiff]; with_reducible rfl)); focus ((with_reducible refine QK ?_); simp only [Zk]; kernel_rfl)))
  refine RunK.loop (β := Nat) (γ := Unit) (fun i => ⟨[(4, .c (.own 4 i)), (11, .c (.val (.sl 2 (e.map ePt)))), (12, .c (.val (.int e.length))), (13, .c (.val (.int i)))], [(4, .row 2 ((rotL (e.take i)).map ePt) false)]⟩) (fun i => i ≤ e.length) (fun i => e.length - i)
    (fun _ => ⟨[(4, .c (.own 4 e.length))], [(4, .row 2 ((rotL e).map ePt) false)]⟩) (fun _ => True) 0 (Nat.zero_le _) ?_ ?_ ?_
  · (repeat' (first | with_reducible refine Qn | ((with_reducible refine Qr ?_ ?_); focus (first | with_reducible rfl | (simp only [Zz, Nat.reduceBEq, List.take_zero, rotL, List.map_nil, List.length_map]; done) | rfl)) | ((with_reducible refine Qj (o' := ?_) ?_ ?_ ?_); rotate_left 1; focus rfl) | ((with_reducible refine Qw ?_ ?_); (focus (first | with_reducible rfl | (simp only [Zv, List.take_zero, rotL, List.map_nil, List.length_map]; done))); focus (first | exact id | exact (fun h => nomatch h) | exact (fun _ => rfl)))))
  · intro i hi
    have hi : i ≤ e.length := hi
    have hw := w64_succ (n := i) (by omega)
    by_cases h : i < e.length
    · have i1 : ((i : Int) < (e.length : Int)) = True := eq_true (by omega)
      have i2 : ((0 : Int) ≤ (i : Int)) = True := eq_true (by omega)
      obtain ⟨z, hz⟩ : ∃ z, z = e[i] := ⟨_, rfl⟩
      have hg : (e.map ePt)[i]? = some [.int z.1, .sl 1 (z.2.map eL)] := by rw [map_get h, hz]; rfl
      have hzf := hfo e[i] (List.getElem_mem _)
      rw [← hz] at hzf
      have hlv := forB_lev hzf
      have h8 := (forB_spec hzf).1
      have hro := AFn.valT (a_rootOn z.2 (fun b hb => (hlv b hb).small (by have := sumLen_mem hb; omega)) (by omega))
      have hca := AFn.valT (a_canonical13 (rootOn z.2) (rootOn_lev hlv) (by rw [rootOn_len]; omega))
      simp only [eLL] at hro
      simp only [eL] at hca
      have hlt : ((rotL (e.take i)).map ePt).length = i := by unfold rotL; rw [List.length_map, List.length_map, List.length_take]; omega
      have hle : (e.map ePt).length = e.length := List.length_map _
      have q1 := big_le (n := i + 1) (by omega)
      have q2 := big_mul (n := i + 1) (c := 32) (by omega) (by omega)
      have htk : rotL (e.take (i + 1)) = rotL (e.take i) ++ [(z.1, [canon (rootOn z.2)])] := by unfold rotL; rw [hz, List.take_succ_eq_append_getElem h, List.map_append]; rfl
      repeat' (first | with_reducible (first | refine Q1 ?_ | refine Q2 ?_ | refine Q3 ?_ | refine Q4 ?_ | refine Q5 ?_ | refine Q6 ?_ | refine Q7 ?_ | refine Q8 ?_ | refine Q9 ?_ | refine Qa ?_ | refine Qb ?_ | refine Qc ?_ | refine Qd ?_ | refine Qe ?_ | refine Qf ?_) | ((with_reducible refine Qo ?_ ?_); focus rfl) | ((with_reducible first | refine QT 14 (l := ?_) ?_ ?_ | refine QF 14 (l := ?_) ?_ ?_); rotate_left 1; focus (simp only [Zu, Nat.reduceSub, Nat.reduceBEq]; with_reducible rfl)) | ((with_reducible first | refine QS (cfg_ok 33) ((Tab.none.at' 62 hro).at' 61 hca) (s' := ?_) ?_ ?_ | refine QC (b := ?_) ?_ ?_); rotate_left 1; focus ((with_reducible refine QW ?_); simp only [Zg, seval, if_true, if_false, reduceCtorEq, Nat.reduceEqDiff, i1, i2, hg, hw, q1, q2, hlt, hle, Int.toNat_natCast]; with_reducible rfl)) | ((with_reducible refine QD (cfg_ok 33) ((Tab.none.at' 62 hro).at' 61 hca) mixed_ok (tr := ?_) (s' := ?_) ?_ ?_ ?_); rotate_left 2; (focus ((with_reducible refine QW ?_); simp only [Zg, Zd, seval, if_true, if_false, reduceCtorEq, Nat.reduceEqDiff, i1, i2, hg, hw, q1, q2, hlt, hle, Int.toNat_natCast]; with_reducible rfl)); focus ((with_reducible refine QK ?_); simp only [Zk]; kernel_rfl)))
      refine roundK.on (i + 1) ⟨h, by omega⟩ ?_
      rw [htk]
      (repeat' (first | with_reducible refine Qn | ((with_reducible refine Qr ?_ ?_); focus (first | with_reducible rfl | (simp only [Zz, Nat.reduceBEq, ePt, eL, List.map_cons, List.map_nil]; done) | rfl)) | ((with_reducible refine Qj (o' := ?_) ?_ ?_ ?_); rotate_left 1; focus rfl) | ((with_reducible refine Qw ?_ ?_); (focus (first | with_reducible rfl | (simp only [Zv, ePt, eL, List.map_cons, List.map_nil]; done))); focus (first | exact id | exact (fun h => nomatch h) | exact (fun _ => rfl)))))
    · have i1 : ((i : Int) < (e.length : Int)) = False := eq_false (by omega)
      obtain rfl : i = e.length := by omega
      rw [List.take_length]
      repeat' (first | with_reducible (first | refine Q1 ?_ | refine Q2 ?_ | refine Q3 ?_ | refine Q4 ?_ | refine Q5 ?_ | refine Q6 ?_ | refine Q7 ?_ | refine Q8 ?_ | refine Q9 ?_ | refine Qa ?_ | refine Qb ?_ | refine Qc ?_ | refine Qd ?_ | refine Qe ?_ | refine Qf ?_) | ((with_reducible refine Qo ?_ ?_); focus rfl) | ((with_reducible first | refine QT 14 (l := ?_) ?_ ?_ | refine QF 14 (l := ?_) ?_ ?_); rotate_left 1; focus (simp only [Zu, Nat.reduceSub, Nat.reduceBEq]; with_reducible rfl)) | ((with_reducible first | refine QS (cfg_ok 33) Tab.none (s' := ?_) ?_ ?_ | refine QC (b := ?_) ?_ ?_); rotate_left 1; focus ((with_reducible refine QW ?_); simp only [Zg, seval, if_true, if_false, reduceCtorEq, Nat.reduceEqDiff, i1, List.length_map]; with_reducible rfl)) | ((with_reducible refine QD (cfg_ok 33) Tab.none mixed_ok (tr := ?_) (s' := ?_) ?_ ?_ ?_); rotate_left 2; (focus ((with_reducible refine QW ?_); simp only [Zg, Zd, seval, if_true, if_false, reduceCtorEq, Nat.reduceEqDiff, i1, List.length_map]; with_reducible rfl)); focus ((with_reducible refine QK ?_); simp only [Zk]; kernel_rfl)))
      refine roundK.out () trivial ?_
      (repeat' (first | with_reducible refine Qn | ((with_reducible refine Qr ?_ ?_); focus (first | with_reducible rfl | (simp only [Zz, Nat.reduceBEq]; done) | rfl)) | ((with_reducible refine Qj (o' := ?_) ?_ ?_ ?_); rotate_left 1; focus rfl) | ((with_reducible refine Qw ?_ ?_); (focus (first | with_reducible rfl | (simp only [Zv]; done))); focus (first | exact id | exact (fun h => nomatch h) | exact (fun _ => rfl)))))
  · rintro _ _
    repeat' (first | with_reducible (first | refine Q1 ?_ | refine Q2 ?_ | refine Q3 ?_ | refine Q4 ?_ | refine Q5 ?_ | refine Q6 ?_ | refine Q7 ?_ | refine Q8 ?_ | refine Q9 ?_ | refine Qa ?_ | refine Qb ?_ | refine Qc ?_ | refine Qd ?_ | refine Qe ?_ | refine Qf ?_) | ((with_reducible refine Qo ?_ ?_); focus rfl) | ((with_reducible first | refine QT 14 (l := ?_) ?_ ?_ | refine QF 14 (l := ?_) ?_ ?_); rotate_left 1; focus (simp only [Zu, Nat.reduceSub, Nat.reduceBEq]; with_reducible rfl)) | ((with_reducible first | refine QS (cfg_ok 33) (Tab.none.at' 63 h4) (s' := ?_) ?_ ?_ | refine QC (b := ?_) ?_ ?_); rotate_left 1; focus ((with_reducible refine QW ?_); simp only [Zg, seval, if_true, if_false, reduceCtorEq, Nat.reduceEqDiff]; with_reducible rfl)) | ((with_reducible refine QD (cfg_ok 33) (Tab.none.at' 63 h4) mixed_ok (tr := ?_) (s' := ?_) ?_ ?_ ?_); rotate_left 2; (focus ((with_reducible refine QW ?_); simp only [Zg, Zd, seval, if_true, if_false, reduceCtorEq, Nat.reduceEqDiff]; with_reducible rfl)); focus ((with_reducible refine QK ?_); simp only [Zk]; kernel_rfl)))
    (refine Ends.mk (by simp) (rs := ?_) (ks := ?_) hres hrts ?_ ?_ ?_; rotate_left 2; (focus (simp only [Ze, Zg, seval, if_true, if_false, reduceCtorEq, Nat.reduceEqDiff, rotL]; with_reducible rfl)); (focus simp); focus (first | with_reducible rfl | (simp only [Zv, rotL]; done)))
set_option maxHeartbeats 2000000 in
theorem a_spec_RootElement (e : Elt) (hz : szP e) : ∃ b, AFn Tryz.prog 19 [[.sl 2 (e.map ePt)]] (· = [.own 2 ((rotOf e).1.map ePt) b, .val (.int (rotOf e).2)]) := by
  have h1 := a_l06Is e hz
  unfold rotOf
  by_cases hE : elB e = true
  rotate_left
  · have hE' : elB e = false := by simpa using hE
    rw [if_neg hE]
    rw [hE'] at h1
    refine ⟨true, ?_⟩
    refine AFn.of_runs (cfg_ok 34) Tryz.func19 rfl rfl rfl (by simp only [List.length_cons, List.length_nil]; decide) ?_
    have hres : Tryz.f19.results.toList = [.tmp 2, .tmp 3] := rfl
    have hrts : Tryz.f19.resultTypes.toList = [24, 2] := rfl
    simp only [argRegs, argAV1, eL, eI, eLL, eB, Nat.zero_add, Nat.reduceAdd]
    intro M
    refine RunK.of ?_
    repeat' (first | with_reducible (first | refine Q1 ?_ | refine Q2 ?_ | refine Q3 ?_ | refine Q4 ?_ | refine Q5 ?_ | refine Q6 ?_ | refine Q7 ?_ | refine Q8 ?_ | refine Q9 ?_ | refine Qa ?_ | refine Qb ?_ | refine Qc ?_ | refine Qd ?_ | refine Qe ?_ | refine Qf ?_) | ((with_reducible refine Qo ?_ ?_); focus rfl) | ((with_reducible first | refine QT 6 (l := ?_) ?_ ?_ | refine QF 6 (l := ?_) ?_ ?_); rotate_left 1; focus (simp only [Zu, Nat.reduceSub, Nat.reduceBEq]; with_reducible rfl)) | ((with_reducible first | refine QS (cfg_ok 34) (Tab.none.at' 48 h1) (s' := ?_) ?_ ?_ | refine QC (b := ?_) ?_ ?_); rotate_left 1; focus ((with_reducible refine QW ?_); simp only [Zg, seval, if_true, if_false, reduceCtorEq, Nat.reduceEqDiff]; with_reducible rfl)) | ((with_reducible refine QD (cfg_ok 34) (Tab.none.at' 48 h1) mixed_ok (tr := ?_) (s' := ?_) ?_ ?_ ?_); rotate_left 2; (focus ((with_reducible refine QW ?_); simp only [Zg, Zd, seval, if_true, if_false, reduceCtorEq, Nat.reduceEqDiff]; with_reducible rfl)); focus ((with_reducible refine QK ?_); simp only [Zk]; kernel_rfl)))
    (refine Ends.mk (by simp) (rs := ?_) (ks := ?_) hres hrts ?_ ?_ ?_; rotate_left 2; (focus (simp only [Ze, Zg, seval, if_true, if_false, reduceCtorEq, Nat.reduceEqDiff]; with_reducible rfl)); (focus simp); focus (first | with_reducible rfl | (simp only [Zv]; done)))
  rw [hE] at h1
  rw [if_pos hE]
  obtain ⟨hl, hnf, _, hfo⟩ := elB_spec hE
  have hrl : (rotL e).length = e.length := by unfold rotL; rw [List.length_map]
  have hok := rotL_ok hE
  have hal := addS_len (rotL e) []
  rw [hrl] at hal
  simp only [List.length_nil] at hal
  obtain ⟨b, h4⟩ := a_l06Own (sumS cmpF (rotL e)) (addS_okE OkE.nil hok) (by show (addS cmpF [] _).length ≤ _; omega)
  refine ⟨b, ?_⟩
  refine AFn.of_runs (cfg_ok 34) Tryz.func19 rfl rfl rfl (by simp only [List.length_cons, List.length_nil]; decide) ?_
  have hres : Tryz.f19.results.toList = [.tmp 2, .tmp 3] := rfl
  have hrts : Tryz.f19.resultTypes.toList = [24, 2] := rfl
  simp only [argRegs, argAV1, eL, eI, eLL, eB, Nat.zero_add, Nat.reduceAdd]
  intro M
  refine RunK.of ?_
  repeat' (first | with_reducible (first | refine Q1 ?_ | refine Q2 ?_ | refine Q3 ?_ | refine Q4 ?_ | refine Q5 ?_ | refine Q6 ?_ | refine Q7 ?_ | refine Q8 ?_ | refine Q9 ?_ | refine Qa ?_ | refine Qb ?_ | refine Qc ?_ | refine Qd ?_ | refine Qe ?_ | refine Qf ?_) | ((with_reducible refine Qo ?_ ?_); focus rfl) | ((with_reducible first | refine QT 6 (l := ?_) ?_ ?_ | refine QF 6 (l := ?_) ?_ ?_); rotate_left 1; focus (simp only [Zu, Nat.reduceSub, Nat.reduceBEq]; with_reducible rfl)) | ((with_reducible first | refine QS (cfg_ok 34) (Tab.none.at' 48 h1) (s' := ?_) ?_ ?_ | refine QC (b := ?_) ?_ ?_); rotate_left 1; focus ((with_reducible refine QW ?_); simp only [Zg, seval, if_true, if_false, reduceCtorEq, Nat.reduceEqDiff]; with_reducible rfl)) | ((with_reducible refine QD (cfg_ok 34) (Tab.none.at' 48 h1) mixed_ok (tr := ?_) (s' := ?_) ?_ ?_ ?_); rotate_left 2; (focus ((with_reducible refine QW ?_); simp only [Zg, Zd, seval, if_true, if_false, reduceCtorEq, Nat.reduceEqDiff]; with_reducible rfl)); focus ((with_reducible refine QK ?_); simp only [Zk]; kernel_rfl)))
  refine RunK.frz 4 ?_
  refine RunK.fits (s0 := ⟨[(0, .c (.val (.sl 2 (e.map ePt)))), (4, .c (.val (.sl 2 []))), (5, .c (.val (.int 0)))], []⟩) ?_ ?_
  · (repeat' (first | with_reducible refine Qn | ((with_reducible refine Qr ?_ ?_); focus (first | with_reducible rfl | (simp only [Zz, Nat.reduceBEq, St.frz, frzR, frzH, look, AV.frz, AC.frz, drop]; done) | rfl)) | ((with_reducible refine Qj (o' := ?_) ?_ ?_ ?_); rotate_left 1; focus rfl) | ((with_reducible refine Qw ?_ ?_); (focus (first | with_reducible rfl | (simp only [Zv, St.frz, frzR, frzH, look, AV.frz, AC.frz, drop]; done))); focus (first | exact id | exact (fun h => nomatch h) | exact (fun _ => rfl)))))
  refine RunK.loop (β := Nat) (γ := Unit) (fun i => ⟨[(0, .c (.val (.sl 2 (e.map ePt)))), (4, .c (.val (.sl 2 ((sumS cmpF ((rotL e).take i)).map ePt)))), (5, .c (.val (.int i)))], []⟩) (fun i => i ≤ e.length) (fun i => e.length - i)
    (fun _ => ⟨[(4, .c (.val (.sl 2 ((sumS cmpF (rotL e)).map ePt))))], []⟩) (fun _ => True) 0 (Nat.zero_le _) ?_ ?_ ?_
  · (repeat' (first | with_reducible refine Qn | ((with_reducible refine Qr ?_ ?_); focus (first | with_reducible rfl | (simp only [Zz, Nat.reduceBEq, List.take_zero, show sumS cmpF [] = [] from rfl, List.map_nil, Int.natCast_zero]; done) | rfl)) | ((with_reducible refine Qj (o' := ?_) ?_ ?_ ?_); rotate_left 1; focus rfl) | ((with_reducible refine Qw ?_ ?_); (focus (first | with_reducible rfl | (simp only [Zv, List.take_zero, show sumS cmpF [] = [] from rfl, List.map_nil, Int.natCast_zero]; done))); focus (first | exact id | exact (fun h => nomatch h) | exact (fun _ => rfl)))))
  · intro i hi
    have hi : i ≤ e.length := hi
    have hw := w64_succ (n := i) (by omega)
    by_cases h : i < e.length
    · have i1 : ((i : Int) < (e.length : Int)) = True := eq_true (by omega)
      have i2 : ((0 : Int) ≤ (i : Int)) = True := eq_true (by omega)
      obtain ⟨z, hz⟩ : ∃ z, z = e[i] := ⟨_, rfl⟩
      have hg : (e.map ePt)[i]? = some [.int z.1, .sl 1 (z.2.map eL)] := by rw [map_get h, hz]; rfl
      have hzm : z ∈ e := by rw [hz]; exact List.getElem_mem _
      have hzf := hfo z hzm
      have hzc := hnf.2 z hzm
      have hlv := forB_lev hzf
      have h8 := (forB_spec hzf).1
      have hro := AFn.valT (a_l03Root z.2 ((elB_okE hE).1 z hzm).2 hlv)
      have hsub : ∀ q ∈ (rotL e).take i, (0 ≤ q.1 ∧ q.1 < 10007) ∧ SmF q.2 := fun q hq => hok q (List.mem_of_mem_take hq)
      have hput := a_l06Put (sumS cmpF ((rotL e).take i)) z.1 [canon (rootOn z.2)] (by
        have := addS_len ((rotL e).take i) []
        rw [List.length_take] at this
        simp only [List.length_nil] at this
        show (addS cmpF [] _).length ≤ _; omega) (addS_okE OkE.nil hsub) (by omega) (rot_sm hzf).1
      have hst : sumS cmpF ((rotL e).take (i + 1)) = putS cmpF (sumS cmpF ((rotL e).take i)) z.1 [canon (rootOn z.2)] := by
        have hi' : i < (rotL e).length := by rw [hrl]; exact h
        have hgm : (rotL e)[i]'hi' = (z.1, [canon (rootOn z.2)]) := by rw [hz]; exact List.getElem_map _
        rw [List.take_succ_eq_append_getElem hi', hgm]
        exact addS_snoc _ _ _
      have hle : (e.map ePt).length = e.length := List.length_map _
      simp only [eI, eLL, List.map_cons, List.map_nil] at hro hput
      simp only [eL] at hput
      repeat' (first | with_reducible (first | refine Q1 ?_ | refine Q2 ?_ | refine Q3 ?_ | refine Q4 ?_ | refine Q5 ?_ | refine Q6 ?_ | refine Q7 ?_ | refine Q8 ?_ | refine Q9 ?_ | refine Qa ?_ | refine Qb ?_ | refine Qc ?_ | refine Qd ?_ | refine Qe ?_ | refine Qf ?_) | ((with_reducible refine Qo ?_ ?_); focus rfl) | ((with_reducible first | refine QT 6 (l := ?_) ?_ ?_ | refine QF 6 (l := ?_) ?_ ?_); rotate_left 1; focus (simp only [Zu, Nat.reduceSub, Nat.reduceBEq]; with_reducible rfl)) | ((with_reducible first | refine QS (cfg_ok 34) ((Tab.none.at' 60 hro).at' 59 hput) (s' := ?_) ?_ ?_ | refine QC (b := ?_) ?_ ?_); rotate_left 1; focus ((with_reducible refine QW ?_); simp only [Zg, seval, if_true, if_false, reduceCtorEq, Nat.reduceEqDiff, i1, i2, hg, hw, hle, Int.toNat_natCast]; with_reducible rfl)) | ((with_reducible refine QD (cfg_ok 34) ((Tab.none.at' 60 hro).at' 59 hput) mixed_ok (tr := ?_) (s' := ?_) ?_ ?_ ?_); rotate_left 2; (focus ((with_reducible refine QW ?_); simp only [Zg, Zd, seval, if_true, if_false, reduceCtorEq, Nat.reduceEqDiff, i1, i2, hg, hw, hle, Int.toNat_natCast]; with_reducible rfl)); focus ((with_reducible refine QK ?_); simp only [Zk]; kernel_rfl)))
      refine roundK.on (i + 1) ⟨h, by omega⟩ ?_
      rw [hst]
      (repeat' (first | with_reducible refine Qn | ((with_reducible refine Qr ?_ ?_); focus (first | with_reducible rfl | (simp only [Zz, Nat.reduceBEq]; done) | rfl)) | ((with_reducible refine Qj (o' := ?_) ?_ ?_ ?_); rotate_left 1; focus rfl) | ((with_reducible refine Qw ?_ ?_); (focus (first | with_reducible rfl | (simp only [Zv]; done))); focus (first | exact id | exact (fun h => nomatch h) | exact (fun _ => rfl)))))
    · have i1 : ((i : Int) < (e.length : Int)) = False := eq_false (by omega)
      obtain rfl : i = e.length := by omega
      rw [← hrl, List.take_length, hrl]
      repeat' (first | with_reducible (first | refine Q1 ?_ | refine Q2 ?_ | refine Q3 ?_ | refine Q4 ?_ | refine Q5 ?_ | refine Q6 ?_ | refine Q7 ?_ | refine Q8 ?_ | refine Q9 ?_ | refine Qa ?_ | refine Qb ?_ | refine Qc ?_ | refine Qd ?_ | refine Qe ?_ | refine Qf ?_) | ((with_reducible refine Qo ?_ ?_); focus rfl) | ((with_reducible first | refine QT 6 (l := ?_) ?_ ?_ | refine QF 6 (l := ?_) ?_ ?_); rotate_left 1; focus (simp only [Zu, Nat.reduceSub, Nat.reduceBEq]; with_reducible rfl)) | ((with_reducible first | refine QS (cfg_ok 34) Tab.none (s' := ?_) ?_ ?_ | refine QC (b := ?_) ?_ ?_); rotate_left 1; focus ((with_reducible refine QW ?_); simp only [Zg, seval, if_true, if_false, reduceCtorEq, Nat.reduceEqDiff, i1, List.length_map]; with_reducible rfl)) | ((with_reducible refine QD (cfg_ok 34) Tab.none mixed_ok (tr := ?_) (s' := ?_) ?_ ?_ ?_); rotate_left 2; (focus ((with_reducible refine QW ?_); simp only [Zg, Zd, seval, if_true, if_false, reduceCtorEq, Nat.reduceEqDiff, i1, List.length_map]; with_reducible rfl)); focus ((with_reducible refine QK ?_); simp only [Zk]; kernel_rfl)))
      refine roundK.out () trivial ?_
      (repeat' (first | with_reducible refine Qn | ((with_reducible refine Qr ?_ ?_); focus (first | with_reducible rfl | (simp only [Zz, Nat.reduceBEq]; done) | rfl)) | ((with_reducible refine Qj (o' := ?_) ?_ ?_ ?_); rotate_left 1; focus rfl) | ((with_reducible refine Qw ?_ ?_); (focus (first | with_reducible rfl | (simp only [Zv]; done))); focus (first | exact id | exact (fun h => nomatch h) | exact (fun _ => rfl)))))
  · rintro _ _
    repeat' (first | with_reducible (first | refine Q1 ?_ | refine Q2 ?_ | refine Q3 ?_ | refine Q4 ?_ | refine Q5 ?_ | refine Q6 ?_ | refine Q7 ?_ | refine Q8 ?_ | refine Q9 ?_ | refine Qa ?_ | refine Qb ?_ | refine Qc ?_ | refine Qd ?_ | refine Qe ?_ | refine Qf ?_) | ((with_reducible refine Qo ?_ ?_); focus rfl) | ((with_reducible first | refine QT 6 (l := ?_) ?_ ?_ | refine QF 6 (l := ?_) ?_ ?_); rotate_left 1; focus (simp only [Zu, Nat.reduceSub, Nat.reduceBEq]; with_reducible rfl)) | ((with_reducible first | refine QS (cfg_ok 34) (Tab.none.at' 50 h4) (s' := ?_) ?_ ?_ | refine QC (b := ?_) ?_ ?_); rotate_left 1; focus ((with_reducible refine QW ?_); simp only [Zg, seval, if_true, if_false, reduceCtorEq, Nat.reduceEqDiff]; with_reducible rfl)) | ((with_reducible refine QD (cfg_ok 34) (Tab.none.at' 50 h4) mixed_ok (tr := ?_) (s' := ?_) ?_ ?_ ?_); rotate_left 2; (focus ((with_reducible refine QW ?_); simp only [Zg, Zd, seval, if_true, if_false, reduceCtorEq, Nat.reduceEqDiff]; with_reducible rfl)); focus ((with_reducible refine QK ?_); simp only [Zk]; kernel_rfl)))
    (refine Ends.mk (by simp) (rs := ?_) (ks := ?_) hres hrts ?_ ?_ ?_; rotate_left 2; (focus (simp only [Ze, Zg, seval, if_true, if_false, reduceCtorEq, Nat.reduceEqDiff, rotL]; with_reducible rfl)); (focus simp); focus (first | with_reducible rfl | (simp only [Zv, rotL]; done)))
theorem k_impl_RootElement (v : Value) (e : Elt) (w : World) (h : Rd (RS RPart) w [v] e) (hz : szP e) : Calls Tryz.prog 20 #[v] w (RetOC (RS RPart) w (rotOf e).1 (rotOf e).2) :=
  AFn.oi encPt (a_impl_RootElement e hz) (args1 (arg_P h))
theorem k_spec_RootElement (v : Value) (e : Elt) (w : World) (h : Rd (RS RPart) w [v] e) (hz : szP e) : Calls Tryz.prog 19 #[v] w (RetGI (RS RPart) w (rotOf e).1 (rotOf e).2) := by
  obtain ⟨b, hb⟩ := a_spec_RootElement e hz
  exact AFn.gi encPt (by cases b <;> first | exact .inl rfl | exact .inr (.inl rfl)) hb (args1 (arg_P h))
end Go.Proofs.YtacbkjmkjpjhoaaGreat
