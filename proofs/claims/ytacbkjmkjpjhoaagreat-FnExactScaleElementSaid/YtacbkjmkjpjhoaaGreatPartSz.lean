/- Sizes of arguments that are lists of parts; how they are read; their codes. -/
import Derived.Test.YtacbkjmkjpjhoaaGreatPartArg
import Derived.Test.YtacbkjmkjpjhoaaGreatTabs
import Derived.Test.YtacbkjmkjpjhoaaGreatOpen
import Derived.ChangeSame
import Derived.Test.YtacbkjmkjpjhoaaGreatGs
set_option linter.unusedSimpArgs false
set_option linter.unusedVariables false
namespace Go.Proofs.YtacbkjmkjpjhoaaGreat
open Go.RowKit

/-- []Part's elements -/
def ePt (x : Int × List (List Int)) : List D := [.int x.1, .sl 1 (x.2.map eL)]
def codPt : Cod (Int × List (List Int)) := codP 1 codI codLL (fun _ => rfl)
theorem codPts_d (xs : List (Int × List (List Int))) : (codS 2 codPt).d [.sl 2 (xs.map ePt)] = some xs := (codS 2 codPt).de xs

/-- What is left. -/
def leftI (left : Int) (n : Nat) : Int := if left - n < 0 then -1 else left - n
theorem leftI_no {left : Int} {n : Nat} (h : left - n < 0) : leftI left n = -1 := by unfold leftI; rw [if_pos h]
theorem leftI_ok {left : Int} {n : Nat} (h : ¬ left - n < 0) : leftI left n = left - n := by unfold leftI; rw [if_neg h]

theorem a_szInt64S (xs : List Int) (left : Int) (h0 : 0 ≤ left) (h1 : left ≤ 1048576) : AFn Tryz.prog 145 [eL xs, eI left] (· = [.val (.int (leftI left xs.length))]) :=
  AFn.of_s (v := .int .i64 _) (enters_of Tryz.func145 rfl rfl) (fun _ _ => rdV_int.2 ⟨rfl, by unfold leftI In64; split <;> omega⟩) (fun w A vs ⟨v1, _, e1, h1', v2, _, e2, h2, e3⟩ => by
    subst e3; subst e2; subst e1
    rw [arg_int h2]
    refine c_laws_szInt64S v1 xs left _ w (Rd.of (rd1 h1')) h0 h1 ?_
    unfold leftI
    split
    · exact .inl ⟨‹_›, rfl⟩
    · exact .inr ⟨by omega, rfl⟩)

noncomputable def TSz : Tab Tryz.prog := Tab.none.add 145 (tab2 codL codI fun xs n => if 0 ≤ n ∧ n ≤ 1048576 then some [.val (.int (leftI n xs.length))] else none) (tab2_ok fun xs n rs h => by split at h; cases h; exact a_szInt64S xs n (‹0 ≤ n ∧ _›).1 (‹0 ≤ n ∧ _›).2; cases h)

set_option maxHeartbeats 2000000 in
theorem a_szInt64SS (f : List (List Int)) (left : Int) (h0 : 0 ≤ left) (h1 : left ≤ 1048576) (hl : f.length ≤ 9223372036854775807) : AFn Tryz.prog 95 [eLL f, eI left] (· = [.val (.int (leftI left (f.length + sumLen f)))]) := by
  refine AFn.of_runs (cfg_ok 27) Tryz.func95 rfl rfl rfl (by simp only [List.length_cons, List.length_nil]; decide) ?_
  have hres : Tryz.f95.results.toList = [.tmp 4] := rfl
  have hrts : Tryz.f95.resultTypes.toList = [3] := rfl
  simp only [argRegs, argAV1, eL, eI, eLL, eB, Nat.zero_add, Nat.reduceAdd]
  intro M
  refine RunK.of ?_
  have hw := w64_eq (n := left - (f.length : Int)) (by omega)
  by_cases hn : left - (f.length : Int) < 0
  · have i1 : (left - (f.length : Int) < 0) = True := eq_true hn
    rw [leftI_no (by omega)]
    repeat' (first | with_reducible (first | refine Q1 ?_ | refine Q2 ?_ | refine Q3 ?_ | refine Q4 ?_ | refine Q5 ?_ | refine Q6 ?_ | refine Q7 ?_ | refine Q8 ?_ | refine Q9 ?_ | refine Qa ?_ | refine Qb ?_ | refine Qc ?_ | refine Qd ?_ | refine Qe ?_ | refine Qf ?_) | ((with_reducible refine Qo ?_ ?_); focus rfl) | ((with_reducible first | refine QT 6 (l := ?_) ?_ ?_ | refine QF 6 (l := ?_) ?_ ?_); rotate_left 1; focus (simp only [Zu, Nat.reduceSub, Nat.reduceBEq]; with_reducible rfl)) | ((with_reducible first | refine QS (cfg_ok 27) TSz (s' := ?_) ?_ ?_ | refine QC (b := ?_) ?_ ?_); rotate_left 1; focus ((with_reducible refine QW ?_); simp only [Zg, Nat.reduceEqDiff, Nat.reduceLT, Nat.reduceLeDiff, reduceIte, if_true, if_false, reduceCtorEq, Nat.reduceAdd, Nat.reduceMul, Nat.reduceSub, Nat.reduceBEq, Nat.reduceBNe, Int.reduceLE, Int.reduceLT, Int.reduceNeg, Int.reduceAdd, Int.reduceSub, Int.reduceMul, Int.reduceToNat, Int.reduceEq, ite_true, ite_false, TSz, hw, i1, List.length_map]; with_reducible rfl)))
    (refine Ends.mk (by simp) (rs := ?_) (ks := ?_) hres hrts ?_ ?_ ?_; rotate_left 2; (focus (simp only [Ze, Zg, Nat.reduceEqDiff, Nat.reduceLT, Nat.reduceLeDiff, reduceIte, if_true, if_false, reduceCtorEq, Nat.reduceAdd, Nat.reduceMul, Nat.reduceSub, Nat.reduceBEq, Nat.reduceBNe, Int.reduceLE, Int.reduceLT, Int.reduceNeg, Int.reduceAdd, Int.reduceSub, Int.reduceMul, Int.reduceToNat, Int.reduceEq, ite_true, ite_false]; with_reducible rfl)); (focus simp); focus (first | with_reducible rfl | (simp only [Zv]; done)))
  · have i1 : (left - (f.length : Int) < 0) = False := eq_false hn
    repeat' (first | with_reducible (first | refine Q1 ?_ | refine Q2 ?_ | refine Q3 ?_ | refine Q4 ?_ | refine Q5 ?_ | refine Q6 ?_ | refine Q7 ?_ | refine Q8 ?_ | refine Q9 ?_ | refine Qa ?_ | refine Qb ?_ | refine Qc ?_ | refine Qd ?_ | refine Qe ?_ | refine Qf ?_) | ((with_reducible refine Qo ?_ ?_); focus rfl) | ((with_reducible first | refine QT 6 (l := ?_) ?_ ?_ | refine QF 6 (l := ?_) ?_ ?_); rotate_left 1; focus (simp only [Zu, Nat.reduceSub, Nat.reduceBEq]; with_reducible rfl)) | ((with_reducible first | refine QS (cfg_ok 27) TSz (s' := ?_) ?_ ?_ | refine QC (b := ?_) ?_ ?_); rotate_left 1; focus ((with_reducible refine QW ?_); simp only [Zg, Nat.reduceEqDiff, Nat.reduceLT, Nat.reduceLeDiff, reduceIte, if_true, if_false, reduceCtorEq, Nat.reduceAdd, Nat.reduceMul, Nat.reduceSub, Nat.reduceBEq, Nat.reduceBNe, Int.reduceLE, Int.reduceLT, Int.reduceNeg, Int.reduceAdd, Int.reduceSub, Int.reduceMul, Int.reduceToNat, Int.reduceEq, ite_true, ite_false, TSz, hw, i1, List.length_map]; with_reducible rfl)))
    refine RunK.loop (β := Nat) (γ := Unit) (fun i => ⟨[(0, .c (.val (.sl 1 (f.map eL)))), (1, .c (.val (.int (left - f.length - (sumLen (f.take i) : Nat))))), (5, .c (.val (.int i)))], []⟩) (fun i => i ≤ f.length ∧ 0 ≤ left - f.length - (sumLen (f.take i) : Nat)) (fun i => f.length - i)
      (fun _ => ⟨[(1, .c (.val (.int (left - f.length - (sumLen f : Nat)))))], []⟩) (fun _ => 0 ≤ left - f.length - (sumLen f : Nat)) 0 ⟨Nat.zero_le _, by simp [sumLen]; omega⟩ ?_ ?_ ?_
    · have e : left - (f.length : Int) - (sumLen (f.take 0) : Nat) = left - (f.length : Int) := by simp [sumLen]
      rw [e]
      (repeat' (first | with_reducible refine Qn | ((with_reducible refine Qr ?_ ?_); focus (first | with_reducible rfl | (simp only [Zz, Nat.reduceBEq]; done) | rfl)) | ((with_reducible refine Qj (o' := ?_) ?_ ?_ ?_); rotate_left 1; focus rfl) | ((with_reducible refine Qw ?_ ?_); (focus (first | with_reducible rfl | (simp only [Zv]; done))); focus (first | exact id | exact (fun h => nomatch h) | exact (fun _ => rfl)))))
    · rintro i ⟨hi, hpos⟩
      have hw2 := w64_succ (n := i) (by omega)
      by_cases h : i < f.length
      · have i2 : ((i : Int) < (f.length : Int)) = True := eq_true (by omega)
        have i3 : ((0 : Int) ≤ (i : Int)) = True := eq_true (by omega)
        have hst := sumLen_take_succ f i h
        have hle := sumLen_take f (i + 1)
        obtain ⟨q, hq⟩ : ∃ q : Int, q = left - f.length - (sumLen (f.take i) : Nat) := ⟨_, rfl⟩
        obtain ⟨t, ht⟩ : ∃ t, t = f[i] := ⟨_, rfl⟩
        have hg : (f.map eL)[i]? = some [.sl 1 (t.map eI)] := by rw [map_get h, ht]; rfl
        rw [← ht] at hst
        rw [← hq] at hpos
        have j1 : (0 ≤ q ∧ q ≤ 1048576) = True := eq_true ⟨hpos, by omega⟩
        by_cases hng : q - (t.length : Int) < 0
        · have e := leftI_no (left := q) (n := t.length) hng
          rw [leftI_no (by omega), ← hq]
          repeat' (first | with_reducible (first | refine Q1 ?_ | refine Q2 ?_ | refine Q3 ?_ | refine Q4 ?_ | refine Q5 ?_ | refine Q6 ?_ | refine Q7 ?_ | refine Q8 ?_ | refine Q9 ?_ | refine Qa ?_ | refine Qb ?_ | refine Qc ?_ | refine Qd ?_ | refine Qe ?_ | refine Qf ?_) | ((with_reducible refine Qo ?_ ?_); focus rfl) | ((with_reducible first | refine QT 6 (l := ?_) ?_ ?_ | refine QF 6 (l := ?_) ?_ ?_); rotate_left 1; focus (simp only [Zu, Nat.reduceSub, Nat.reduceBEq]; with_reducible rfl)) | ((with_reducible first | refine QS (cfg_ok 27) TSz (s' := ?_) ?_ ?_ | refine QC (b := ?_) ?_ ?_); rotate_left 1; focus ((with_reducible refine QW ?_); simp only [Zg, Nat.reduceEqDiff, Nat.reduceLT, Nat.reduceLeDiff, reduceIte, if_true, if_false, reduceCtorEq, Nat.reduceAdd, Nat.reduceMul, Nat.reduceSub, Nat.reduceBEq, Nat.reduceBNe, Int.reduceLE, Int.reduceLT, Int.reduceNeg, Int.reduceAdd, Int.reduceSub, Int.reduceMul, Int.reduceToNat, Int.reduceEq, ite_true, ite_false, TSz, i2, i3, hg, j1, e, Int.toNat_natCast, List.length_map]; with_reducible rfl)))
          refine roundK.ret ?_
          repeat' (first | with_reducible (first | refine Q1 ?_ | refine Q2 ?_ | refine Q3 ?_ | refine Q4 ?_ | refine Q5 ?_ | refine Q6 ?_ | refine Q7 ?_ | refine Q8 ?_ | refine Q9 ?_ | refine Qa ?_ | refine Qb ?_ | refine Qc ?_ | refine Qd ?_ | refine Qe ?_ | refine Qf ?_) | ((with_reducible refine Qo ?_ ?_); focus rfl) | ((with_reducible first | refine QT 6 (l := ?_) ?_ ?_ | refine QF 6 (l := ?_) ?_ ?_); rotate_left 1; focus (simp only [Zu, Nat.reduceSub, Nat.reduceBEq]; with_reducible rfl)) | ((with_reducible first | refine QS (cfg_ok 27) TSz (s' := ?_) ?_ ?_ | refine QC (b := ?_) ?_ ?_); rotate_left 1; focus ((with_reducible refine QW ?_); simp only [Zg, Nat.reduceEqDiff, Nat.reduceLT, Nat.reduceLeDiff, reduceIte, if_true, if_false, reduceCtorEq, Nat.reduceAdd, Nat.reduceMul, Nat.reduceSub, Nat.reduceBEq, Nat.reduceBNe, Int.reduceLE, Int.reduceLT, Int.reduceNeg, Int.reduceAdd, Int.reduceSub, Int.reduceMul, Int.reduceToNat, Int.reduceEq, ite_true, ite_false, TSz]; with_reducible rfl)))
          (refine Ends.mk (by simp) (rs := ?_) (ks := ?_) hres hrts ?_ ?_ ?_; rotate_left 2; (focus (simp only [Ze, Zg, Nat.reduceEqDiff, Nat.reduceLT, Nat.reduceLeDiff, reduceIte, if_true, if_false, reduceCtorEq, Nat.reduceAdd, Nat.reduceMul, Nat.reduceSub, Nat.reduceBEq, Nat.reduceBNe, Int.reduceLE, Int.reduceLT, Int.reduceNeg, Int.reduceAdd, Int.reduceSub, Int.reduceMul, Int.reduceToNat, Int.reduceEq, ite_true, ite_false]; with_reducible rfl)); (focus simp); focus (first | with_reducible rfl | (simp only [Zv]; done)))
        · have e := leftI_ok (left := q) (n := t.length) hng
          have j2 : (q - (t.length : Int) < 0) = False := eq_false hng
          rw [← hq]
          repeat' (first | with_reducible (first | refine Q1 ?_ | refine Q2 ?_ | refine Q3 ?_ | refine Q4 ?_ | refine Q5 ?_ | refine Q6 ?_ | refine Q7 ?_ | refine Q8 ?_ | refine Q9 ?_ | refine Qa ?_ | refine Qb ?_ | refine Qc ?_ | refine Qd ?_ | refine Qe ?_ | refine Qf ?_) | ((with_reducible refine Qo ?_ ?_); focus rfl) | ((with_reducible first | refine QT 6 (l := ?_) ?_ ?_ | refine QF 6 (l := ?_) ?_ ?_); rotate_left 1; focus (simp only [Zu, Nat.reduceSub, Nat.reduceBEq]; with_reducible rfl)) | ((with_reducible first | refine QS (cfg_ok 27) TSz (s' := ?_) ?_ ?_ | refine QC (b := ?_) ?_ ?_); rotate_left 1; focus ((with_reducible refine QW ?_); simp only [Zg, Nat.reduceEqDiff, Nat.reduceLT, Nat.reduceLeDiff, reduceIte, if_true, if_false, reduceCtorEq, Nat.reduceAdd, Nat.reduceMul, Nat.reduceSub, Nat.reduceBEq, Nat.reduceBNe, Int.reduceLE, Int.reduceLT, Int.reduceNeg, Int.reduceAdd, Int.reduceSub, Int.reduceMul, Int.reduceToNat, Int.reduceEq, ite_true, ite_false, TSz, i2, i3, hg, j1, j2, e, hw2, Int.toNat_natCast, List.length_map]; with_reducible rfl)))
          have e2 : left - (f.length : Int) - (sumLen (f.take (i + 1)) : Nat) = q - (t.length : Int) := by omega
          refine roundK.on (i + 1) ⟨⟨h, by omega⟩, by omega⟩ ?_
          rw [e2]
          (repeat' (first | with_reducible refine Qn | ((with_reducible refine Qr ?_ ?_); focus (first | with_reducible rfl | (simp only [Zz, Nat.reduceBEq]; done) | rfl)) | ((with_reducible refine Qj (o' := ?_) ?_ ?_ ?_); rotate_left 1; focus rfl) | ((with_reducible refine Qw ?_ ?_); (focus (first | with_reducible rfl | (simp only [Zv]; done))); focus (first | exact id | exact (fun h => nomatch h) | exact (fun _ => rfl)))))
      · have i2 : ((i : Int) < (f.length : Int)) = False := eq_false (by omega)
        have hall : f.take i = f := List.take_of_length_le (by omega)
        rw [hall] at hpos ⊢
        repeat' (first | with_reducible (first | refine Q1 ?_ | refine Q2 ?_ | refine Q3 ?_ | refine Q4 ?_ | refine Q5 ?_ | refine Q6 ?_ | refine Q7 ?_ | refine Q8 ?_ | refine Q9 ?_ | refine Qa ?_ | refine Qb ?_ | refine Qc ?_ | refine Qd ?_ | refine Qe ?_ | refine Qf ?_) | ((with_reducible refine Qo ?_ ?_); focus rfl) | ((with_reducible first | refine QT 6 (l := ?_) ?_ ?_ | refine QF 6 (l := ?_) ?_ ?_); rotate_left 1; focus (simp only [Zu, Nat.reduceSub, Nat.reduceBEq]; with_reducible rfl)) | ((with_reducible first | refine QS (cfg_ok 27) TSz (s' := ?_) ?_ ?_ | refine QC (b := ?_) ?_ ?_); rotate_left 1; focus ((with_reducible refine QW ?_); simp only [Zg, Nat.reduceEqDiff, Nat.reduceLT, Nat.reduceLeDiff, reduceIte, if_true, if_false, reduceCtorEq, Nat.reduceAdd, Nat.reduceMul, Nat.reduceSub, Nat.reduceBEq, Nat.reduceBNe, Int.reduceLE, Int.reduceLT, Int.reduceNeg, Int.reduceAdd, Int.reduceSub, Int.reduceMul, Int.reduceToNat, Int.reduceEq, ite_true, ite_false, TSz, i2, List.length_map]; with_reducible rfl)))
        refine roundK.out () hpos ?_
        (repeat' (first | with_reducible refine Qn | ((with_reducible refine Qr ?_ ?_); focus (first | with_reducible rfl | (simp only [Zz, Nat.reduceBEq]; done) | rfl)) | ((with_reducible refine Qj (o' := ?_) ?_ ?_ ?_); rotate_left 1; focus rfl) | ((with_reducible refine Qw ?_ ?_); (focus (first | with_reducible rfl | (simp only [Zv]; done))); focus (first | exact id | exact (fun h => nomatch h) | exact (fun _ => rfl)))))
    · rintro _ hpos
      have e : leftI left (f.length + sumLen f) = left - f.length - (sumLen f : Nat) := by rw [leftI_ok (by omega)]; omega
      rw [e]
      repeat' (first | with_reducible (first | refine Q1 ?_ | refine Q2 ?_ | refine Q3 ?_ | refine Q4 ?_ | refine Q5 ?_ | refine Q6 ?_ | refine Q7 ?_ | refine Q8 ?_ | refine Q9 ?_ | refine Qa ?_ | refine Qb ?_ | refine Qc ?_ | refine Qd ?_ | refine Qe ?_ | refine Qf ?_) | ((with_reducible refine Qo ?_ ?_); focus rfl) | ((with_reducible first | refine QT 6 (l := ?_) ?_ ?_ | refine QF 6 (l := ?_) ?_ ?_); rotate_left 1; focus (simp only [Zu, Nat.reduceSub, Nat.reduceBEq]; with_reducible rfl)) | ((with_reducible first | refine QS (cfg_ok 27) TSz (s' := ?_) ?_ ?_ | refine QC (b := ?_) ?_ ?_); rotate_left 1; focus ((with_reducible refine QW ?_); simp only [Zg, Nat.reduceEqDiff, Nat.reduceLT, Nat.reduceLeDiff, reduceIte, if_true, if_false, reduceCtorEq, Nat.reduceAdd, Nat.reduceMul, Nat.reduceSub, Nat.reduceBEq, Nat.reduceBNe, Int.reduceLE, Int.reduceLT, Int.reduceNeg, Int.reduceAdd, Int.reduceSub, Int.reduceMul, Int.reduceToNat, Int.reduceEq, ite_true, ite_false, TSz]; with_reducible rfl)))
      (refine Ends.mk (by simp) (rs := ?_) (ks := ?_) hres hrts ?_ ?_ ?_; rotate_left 2; (focus (simp only [Ze, Zg, Nat.reduceEqDiff, Nat.reduceLT, Nat.reduceLeDiff, reduceIte, if_true, if_false, reduceCtorEq, Nat.reduceAdd, Nat.reduceMul, Nat.reduceSub, Nat.reduceBEq, Nat.reduceBNe, Int.reduceLE, Int.reduceLT, Int.reduceNeg, Int.reduceAdd, Int.reduceSub, Int.reduceMul, Int.reduceToNat, Int.reduceEq, ite_true, ite_false]; with_reducible rfl)); (focus simp); focus (first | with_reducible rfl | (simp only [Zv]; done)))

theorem a_szPart (n : Int) (f : List (List Int)) (left : Int) (h0 : 0 ≤ left) (h1 : left ≤ 1048576) (hl : f.length ≤ 9223372036854775807) : AFn Tryz.prog 47 [ePt (n, f), eI left] (· = [.val (.int (leftI left (f.length + sumLen f)))]) := by
  have ha := a_szInt64SS f left h0 h1 hl
  simp only [eLL, eI] at ha
  refine AFn.of_runs (cfg_ok 12) Tryz.func47 rfl rfl rfl (by simp only [List.length_cons, List.length_nil]; decide) ?_
  have hres : Tryz.f47.results.toList = [.tmp 4] := rfl
  have hrts : Tryz.f47.resultTypes.toList = [3] := rfl
  simp only [argRegs, argAV1, eL, eI, eLL, eB, Nat.zero_add, Nat.reduceAdd, ePt]
  intro M
  refine RunK.of ?_
  by_cases hn : left - ((f.length + sumLen f : Nat) : Int) < 0
  · rw [leftI_no hn] at ha ⊢
    repeat' (first | with_reducible (first | refine Q1 ?_ | refine Q2 ?_ | refine Q3 ?_ | refine Q4 ?_ | refine Q5 ?_ | refine Q6 ?_ | refine Q7 ?_ | refine Q8 ?_ | refine Q9 ?_ | refine Qa ?_ | refine Qb ?_ | refine Qc ?_ | refine Qd ?_ | refine Qe ?_ | refine Qf ?_) | ((with_reducible refine Qo ?_ ?_); focus rfl) | ((with_reducible first | refine QT 5 (l := ?_) ?_ ?_ | refine QF 5 (l := ?_) ?_ ?_); rotate_left 1; focus (simp only [Zu, Nat.reduceSub, Nat.reduceBEq]; with_reducible rfl)) | ((with_reducible first | refine QS (cfg_ok 12) ((Tab.none.at' 95 ha)) (s' := ?_) ?_ ?_ | refine QC (b := ?_) ?_ ?_); rotate_left 1; focus ((with_reducible refine QW ?_); simp only [Zg, Nat.reduceEqDiff, Nat.reduceLT, Nat.reduceLeDiff, reduceIte, if_true, if_false, reduceCtorEq, Nat.reduceAdd, Nat.reduceMul, Nat.reduceSub, Nat.reduceBEq, Nat.reduceBNe, Int.reduceLE, Int.reduceLT, Int.reduceNeg, Int.reduceAdd, Int.reduceSub, Int.reduceMul, Int.reduceToNat, Int.reduceEq, ite_true, ite_false]; with_reducible rfl)))
    (refine Ends.mk (by simp) (rs := ?_) (ks := ?_) hres hrts ?_ ?_ ?_; rotate_left 2; (focus (simp only [Ze, Zg, Nat.reduceEqDiff, Nat.reduceLT, Nat.reduceLeDiff, reduceIte, if_true, if_false, reduceCtorEq, Nat.reduceAdd, Nat.reduceMul, Nat.reduceSub, Nat.reduceBEq, Nat.reduceBNe, Int.reduceLE, Int.reduceLT, Int.reduceNeg, Int.reduceAdd, Int.reduceSub, Int.reduceMul, Int.reduceToNat, Int.reduceEq, ite_true, ite_false]; with_reducible rfl)); (focus simp); focus (first | with_reducible rfl | (simp only [Zv]; done)))
  · rw [leftI_ok hn] at ha ⊢
    have i1 : (left - ((f.length + sumLen f : Nat) : Int) < 0) = False := eq_false hn
    repeat' (first | with_reducible (first | refine Q1 ?_ | refine Q2 ?_ | refine Q3 ?_ | refine Q4 ?_ | refine Q5 ?_ | refine Q6 ?_ | refine Q7 ?_ | refine Q8 ?_ | refine Q9 ?_ | refine Qa ?_ | refine Qb ?_ | refine Qc ?_ | refine Qd ?_ | refine Qe ?_ | refine Qf ?_) | ((with_reducible refine Qo ?_ ?_); focus rfl) | ((with_reducible first | refine QT 5 (l := ?_) ?_ ?_ | refine QF 5 (l := ?_) ?_ ?_); rotate_left 1; focus (simp only [Zu, Nat.reduceSub, Nat.reduceBEq]; with_reducible rfl)) | ((with_reducible first | refine QS (cfg_ok 12) ((Tab.none.at' 95 ha)) (s' := ?_) ?_ ?_ | refine QC (b := ?_) ?_ ?_); rotate_left 1; focus ((with_reducible refine QW ?_); simp only [Zg, Nat.reduceEqDiff, Nat.reduceLT, Nat.reduceLeDiff, reduceIte, if_true, if_false, reduceCtorEq, Nat.reduceAdd, Nat.reduceMul, Nat.reduceSub, Nat.reduceBEq, Nat.reduceBNe, Int.reduceLE, Int.reduceLT, Int.reduceNeg, Int.reduceAdd, Int.reduceSub, Int.reduceMul, Int.reduceToNat, Int.reduceEq, ite_true, ite_false, i1]; with_reducible rfl)))
    (refine Ends.mk (by simp) (rs := ?_) (ks := ?_) hres hrts ?_ ?_ ?_; rotate_left 2; (focus (simp only [Ze, Zg, Nat.reduceEqDiff, Nat.reduceLT, Nat.reduceLeDiff, reduceIte, if_true, if_false, reduceCtorEq, Nat.reduceAdd, Nat.reduceMul, Nat.reduceSub, Nat.reduceBEq, Nat.reduceBNe, Int.reduceLE, Int.reduceLT, Int.reduceNeg, Int.reduceAdd, Int.reduceSub, Int.reduceMul, Int.reduceToNat, Int.reduceEq, ite_true, ite_false]; with_reducible rfl)); (focus simp); focus (first | with_reducible rfl | (simp only [Zv]; done)))

/-- The sums of parts' sizes are less by one each. -/
theorem szN_take : ∀ (e : List (Int × List (List Int))) (i : Nat) (h : i < e.length), szN (e.take (i + 1)) = szN (e.take i) + (e[i].2.length + sumLen e[i].2)
  | p :: e, 0, h => by simp [szN]
  | p :: e, i + 1, h => by
    have := szN_take e i (by simpa using h)
    simp only [List.take_succ_cons, List.getElem_cons_succ, szN]
    omega
theorem szN_le : ∀ (e : List (Int × List (List Int))) (i : Nat), szN (e.take i) ≤ szN e
  | [], i => by simp
  | p :: e, 0 => by simp [szN]
  | p :: e, i + 1 => by
    have := szN_le e i
    simp only [List.take_succ_cons, szN]
    omega

noncomputable def TSzP : Tab Tryz.prog := Tab.none.add 47 (tab2 codPt codI fun p n => if (0 ≤ n ∧ n ≤ 1048576) ∧ p.2.length ≤ 9223372036854775807 then some [.val (.int (leftI n (p.2.length + sumLen p.2)))] else none) (tab2_ok fun p n rs h => by split at h; cases h; exact a_szPart p.1 p.2 n (‹(0 ≤ n ∧ _) ∧ _›).1.1 (‹(0 ≤ n ∧ _) ∧ _›).1.2 (‹(0 ≤ n ∧ _) ∧ _›).2; cases h)

set_option maxHeartbeats 2000000 in
theorem a_szPartS (e : List (Int × List (List Int))) (left : Int) (h0 : 0 ≤ left) (h1 : left ≤ 1048576) (hl : e.length ≤ 9223372036854775807) (hpl : ∀ p ∈ e, p.2.length ≤ 9223372036854775807) : AFn Tryz.prog 12 [[.sl 2 (e.map ePt)], eI left] (· = [.val (.int (leftI left (e.length + szN e)))]) := by
  refine AFn.of_runs (cfg_ok 27) Tryz.func12 rfl rfl rfl (by simp only [List.length_cons, List.length_nil]; decide) ?_
  have hres : Tryz.f12.results.toList = [.tmp 4] := rfl
  have hrts : Tryz.f12.resultTypes.toList = [3] := rfl
  simp only [argRegs, argAV1, eL, eI, eLL, eB, Nat.zero_add, Nat.reduceAdd]
  intro M
  refine RunK.of ?_
  have hw := w64_eq (n := left - (e.length : Int)) (by omega)
  by_cases hn : left - (e.length : Int) < 0
  · have i1 : (left - (e.length : Int) < 0) = True := eq_true hn
    rw [leftI_no (by omega)]
    repeat' (first | with_reducible (first | refine Q1 ?_ | refine Q2 ?_ | refine Q3 ?_ | refine Q4 ?_ | refine Q5 ?_ | refine Q6 ?_ | refine Q7 ?_ | refine Q8 ?_ | refine Q9 ?_ | refine Qa ?_ | refine Qb ?_ | refine Qc ?_ | refine Qd ?_ | refine Qe ?_ | refine Qf ?_) | ((with_reducible refine Qo ?_ ?_); focus rfl) | ((with_reducible first | refine QT 6 (l := ?_) ?_ ?_ | refine QF 6 (l := ?_) ?_ ?_); rotate_left 1; focus (simp only [Zu, Nat.reduceSub, Nat.reduceBEq]; with_reducible rfl)) | ((with_reducible first | refine QS (cfg_ok 27) TSzP (s' := ?_) ?_ ?_ | refine QC (b := ?_) ?_ ?_); rotate_left 1; focus ((with_reducible refine QW ?_); simp only [Zg, Nat.reduceEqDiff, Nat.reduceLT, Nat.reduceLeDiff, reduceIte, if_true, if_false, reduceCtorEq, Nat.reduceAdd, Nat.reduceMul, Nat.reduceSub, Nat.reduceBEq, Nat.reduceBNe, Int.reduceLE, Int.reduceLT, Int.reduceNeg, Int.reduceAdd, Int.reduceSub, Int.reduceMul, Int.reduceToNat, Int.reduceEq, ite_true, ite_false, TSzP, hw, i1, List.length_map]; with_reducible rfl)))
    (refine Ends.mk (by simp) (rs := ?_) (ks := ?_) hres hrts ?_ ?_ ?_; rotate_left 2; (focus (simp only [Ze, Zg, Nat.reduceEqDiff, Nat.reduceLT, Nat.reduceLeDiff, reduceIte, if_true, if_false, reduceCtorEq, Nat.reduceAdd, Nat.reduceMul, Nat.reduceSub, Nat.reduceBEq, Nat.reduceBNe, Int.reduceLE, Int.reduceLT, Int.reduceNeg, Int.reduceAdd, Int.reduceSub, Int.reduceMul, Int.reduceToNat, Int.reduceEq, ite_true, ite_false]; with_reducible rfl)); (focus simp); focus (first | with_reducible rfl | (simp only [Zv]; done)))
  · have i1 : (left - (e.length : Int) < 0) = False := eq_false hn
    repeat' (first | with_reducible (first | refine Q1 ?_ | refine Q2 ?_ | refine Q3 ?_ | refine Q4 ?_ | refine Q5 ?_ | refine Q6 ?_ | refine Q7 ?_ | refine Q8 ?_ | refine Q9 ?_ | refine Qa ?_ | refine Qb ?_ | refine Qc ?_ | refine Qd ?_ | refine Qe ?_ | refine Qf ?_) | ((with_reducible refine Qo ?_ ?_); focus rfl) | ((with_reducible first | refine QT 6 (l := ?_) ?_ ?_ | refine QF 6 (l := ?_) ?_ ?_); rotate_left 1; focus (simp only [Zu, Nat.reduceSub, Nat.reduceBEq]; with_reducible rfl)) | ((with_reducible first | refine QS (cfg_ok 27) TSzP (s' := ?_) ?_ ?_ | refine QC (b := ?_) ?_ ?_); rotate_left 1; focus ((with_reducible refine QW ?_); simp only [Zg, Nat.reduceEqDiff, Nat.reduceLT, Nat.reduceLeDiff, reduceIte, if_true, if_false, reduceCtorEq, Nat.reduceAdd, Nat.reduceMul, Nat.reduceSub, Nat.reduceBEq, Nat.reduceBNe, Int.reduceLE, Int.reduceLT, Int.reduceNeg, Int.reduceAdd, Int.reduceSub, Int.reduceMul, Int.reduceToNat, Int.reduceEq, ite_true, ite_false, TSzP, hw, i1, List.length_map]; with_reducible rfl)))
    refine RunK.loop (β := Nat) (γ := Unit) (fun i => ⟨[(0, .c (.val (.sl 2 (e.map ePt)))), (1, .c (.val (.int (left - e.length - (szN (e.take i) : Nat))))), (5, .c (.val (.int i)))], []⟩) (fun i => i ≤ e.length ∧ 0 ≤ left - (e.length : Int) - (szN (e.take i) : Nat)) (fun i => e.length - i)
      (fun _ => ⟨[(1, .c (.val (.int (left - e.length - (szN e : Nat)))))], []⟩) (fun _ => 0 ≤ left - (e.length : Int) - (szN e : Nat)) 0 ⟨Nat.zero_le _, by simp [szN]; omega⟩ ?_ ?_ ?_
    · have e2 : left - (e.length : Int) - (szN (e.take 0) : Nat) = left - (e.length : Int) := by simp [szN]
      rw [e2]
      (repeat' (first | with_reducible refine Qn | ((with_reducible refine Qr ?_ ?_); focus (first | with_reducible rfl | (simp only [Zz, Nat.reduceBEq]; done) | rfl)) | ((with_reducible refine Qj (o' := ?_) ?_ ?_ ?_); rotate_left 1; focus rfl) | ((with_reducible refine Qw ?_ ?_); (focus (first | with_reducible rfl | (simp only [Zv]; done))); focus (first | exact id | exact (fun h => nomatch h) | exact (fun _ => rfl)))))
    · rintro i ⟨hi, hpos⟩
      have hw2 := w64_succ (n := i) (by omega)
      by_cases h : i < e.length
      · have i2 : ((i : Int) < (e.length : Int)) = True := eq_true (by omega)
        have i3 : ((0 : Int) ≤ (i : Int)) = True := eq_true (by omega)
        have hst := szN_take e i h
        have hle := szN_le e (i + 1)
        obtain ⟨q, hq⟩ : ∃ q : Int, q = left - e.length - (szN (e.take i) : Nat) := ⟨_, rfl⟩
        obtain ⟨c, f, ht⟩ : ∃ c f, (c, f) = e[i] := ⟨_, _, rfl⟩
        have hpi := hpl e[i] (List.getElem_mem h)
        have hg : (e.map ePt)[i]? = some [.int c, .sl 1 (f.map eL)] := by rw [map_get h, ← ht]; rfl
        rw [← ht] at hst hpi
        simp only at hst hpi
        rw [← hq] at hpos
        have hsz := a_szPart c f q hpos (by omega) hpi
        simp only [ePt, eI] at hsz
        by_cases hng : q - ((f.length + sumLen f : Nat) : Int) < 0
        · rw [leftI_no hng] at hsz
          rw [leftI_no (by omega), ← hq]
          repeat' (first | with_reducible (first | refine Q1 ?_ | refine Q2 ?_ | refine Q3 ?_ | refine Q4 ?_ | refine Q5 ?_ | refine Q6 ?_ | refine Q7 ?_ | refine Q8 ?_ | refine Q9 ?_ | refine Qa ?_ | refine Qb ?_ | refine Qc ?_ | refine Qd ?_ | refine Qe ?_ | refine Qf ?_) | ((with_reducible refine Qo ?_ ?_); focus rfl) | ((with_reducible first | refine QT 6 (l := ?_) ?_ ?_ | refine QF 6 (l := ?_) ?_ ?_); rotate_left 1; focus (simp only [Zu, Nat.reduceSub, Nat.reduceBEq]; with_reducible rfl)) | ((with_reducible first | refine QS (cfg_ok 27) ((Tab.none.at' 47 hsz)) (s' := ?_) ?_ ?_ | refine QC (b := ?_) ?_ ?_); rotate_left 1; focus ((with_reducible refine QW ?_); simp only [Zg, Nat.reduceEqDiff, Nat.reduceLT, Nat.reduceLeDiff, reduceIte, if_true, if_false, reduceCtorEq, Nat.reduceAdd, Nat.reduceMul, Nat.reduceSub, Nat.reduceBEq, Nat.reduceBNe, Int.reduceLE, Int.reduceLT, Int.reduceNeg, Int.reduceAdd, Int.reduceSub, Int.reduceMul, Int.reduceToNat, Int.reduceEq, ite_true, ite_false, i2, i3, hg, Int.toNat_natCast, List.length_map]; with_reducible rfl)))
          refine roundK.ret ?_
          repeat' (first | with_reducible (first | refine Q1 ?_ | refine Q2 ?_ | refine Q3 ?_ | refine Q4 ?_ | refine Q5 ?_ | refine Q6 ?_ | refine Q7 ?_ | refine Q8 ?_ | refine Q9 ?_ | refine Qa ?_ | refine Qb ?_ | refine Qc ?_ | refine Qd ?_ | refine Qe ?_ | refine Qf ?_) | ((with_reducible refine Qo ?_ ?_); focus rfl) | ((with_reducible first | refine QT 6 (l := ?_) ?_ ?_ | refine QF 6 (l := ?_) ?_ ?_); rotate_left 1; focus (simp only [Zu, Nat.reduceSub, Nat.reduceBEq]; with_reducible rfl)) | ((with_reducible first | refine QS (cfg_ok 27) Tab.none (s' := ?_) ?_ ?_ | refine QC (b := ?_) ?_ ?_); rotate_left 1; focus ((with_reducible refine QW ?_); simp only [Zg, Nat.reduceEqDiff, Nat.reduceLT, Nat.reduceLeDiff, reduceIte, if_true, if_false, reduceCtorEq, Nat.reduceAdd, Nat.reduceMul, Nat.reduceSub, Nat.reduceBEq, Nat.reduceBNe, Int.reduceLE, Int.reduceLT, Int.reduceNeg, Int.reduceAdd, Int.reduceSub, Int.reduceMul, Int.reduceToNat, Int.reduceEq, ite_true, ite_false]; with_reducible rfl)))
          (refine Ends.mk (by simp) (rs := ?_) (ks := ?_) hres hrts ?_ ?_ ?_; rotate_left 2; (focus (simp only [Ze, Zg, Nat.reduceEqDiff, Nat.reduceLT, Nat.reduceLeDiff, reduceIte, if_true, if_false, reduceCtorEq, Nat.reduceAdd, Nat.reduceMul, Nat.reduceSub, Nat.reduceBEq, Nat.reduceBNe, Int.reduceLE, Int.reduceLT, Int.reduceNeg, Int.reduceAdd, Int.reduceSub, Int.reduceMul, Int.reduceToNat, Int.reduceEq, ite_true, ite_false]; with_reducible rfl)); (focus simp); focus (first | with_reducible rfl | (simp only [Zv]; done)))
        · rw [leftI_ok hng] at hsz
          have j2 : (q - ((f.length + sumLen f : Nat) : Int) < 0) = False := eq_false hng
          rw [← hq]
          repeat' (first | with_reducible (first | refine Q1 ?_ | refine Q2 ?_ | refine Q3 ?_ | refine Q4 ?_ | refine Q5 ?_ | refine Q6 ?_ | refine Q7 ?_ | refine Q8 ?_ | refine Q9 ?_ | refine Qa ?_ | refine Qb ?_ | refine Qc ?_ | refine Qd ?_ | refine Qe ?_ | refine Qf ?_) | ((with_reducible refine Qo ?_ ?_); focus rfl) | ((with_reducible first | refine QT 6 (l := ?_) ?_ ?_ | refine QF 6 (l := ?_) ?_ ?_); rotate_left 1; focus (simp only [Zu, Nat.reduceSub, Nat.reduceBEq]; with_reducible rfl)) | ((with_reducible first | refine QS (cfg_ok 27) ((Tab.none.at' 47 hsz)) (s' := ?_) ?_ ?_ | refine QC (b := ?_) ?_ ?_); rotate_left 1; focus ((with_reducible refine QW ?_); simp only [Zg, Nat.reduceEqDiff, Nat.reduceLT, Nat.reduceLeDiff, reduceIte, if_true, if_false, reduceCtorEq, Nat.reduceAdd, Nat.reduceMul, Nat.reduceSub, Nat.reduceBEq, Nat.reduceBNe, Int.reduceLE, Int.reduceLT, Int.reduceNeg, Int.reduceAdd, Int.reduceSub, Int.reduceMul, Int.reduceToNat, Int.reduceEq, ite_true, ite_false, i2, i3, hg, j2, hw2, Int.toNat_natCast, List.length_map]; with_reducible rfl)))
          have e2 : left - (e.length : Int) - (szN (e.take (i + 1)) : Nat) = q - ((f.length + sumLen f : Nat) : Int) := by omega
          refine roundK.on (i + 1) ⟨⟨h, by omega⟩, by omega⟩ ?_
          rw [e2]
          (repeat' (first | with_reducible refine Qn | ((with_reducible refine Qr ?_ ?_); focus (first | with_reducible rfl | (simp only [Zz, Nat.reduceBEq]; done) | rfl)) | ((with_reducible refine Qj (o' := ?_) ?_ ?_ ?_); rotate_left 1; focus rfl) | ((with_reducible refine Qw ?_ ?_); (focus (first | with_reducible rfl | (simp only [Zv]; done))); focus (first | exact id | exact (fun h => nomatch h) | exact (fun _ => rfl)))))
      · have i2 : ((i : Int) < (e.length : Int)) = False := eq_false (by omega)
        have hall : e.take i = e := List.take_of_length_le (by omega)
        rw [hall] at hpos ⊢
        repeat' (first | with_reducible (first | refine Q1 ?_ | refine Q2 ?_ | refine Q3 ?_ | refine Q4 ?_ | refine Q5 ?_ | refine Q6 ?_ | refine Q7 ?_ | refine Q8 ?_ | refine Q9 ?_ | refine Qa ?_ | refine Qb ?_ | refine Qc ?_ | refine Qd ?_ | refine Qe ?_ | refine Qf ?_) | ((with_reducible refine Qo ?_ ?_); focus rfl) | ((with_reducible first | refine QT 6 (l := ?_) ?_ ?_ | refine QF 6 (l := ?_) ?_ ?_); rotate_left 1; focus (simp only [Zu, Nat.reduceSub, Nat.reduceBEq]; with_reducible rfl)) | ((with_reducible first | refine QS (cfg_ok 27) Tab.none (s' := ?_) ?_ ?_ | refine QC (b := ?_) ?_ ?_); rotate_left 1; focus ((with_reducible refine QW ?_); simp only [Zg, Nat.reduceEqDiff, Nat.reduceLT, Nat.reduceLeDiff, reduceIte, if_true, if_false, reduceCtorEq, Nat.reduceAdd, Nat.reduceMul, Nat.reduceSub, Nat.reduceBEq, Nat.reduceBNe, Int.reduceLE, Int.reduceLT, Int.reduceNeg, Int.reduceAdd, Int.reduceSub, Int.reduceMul, Int.reduceToNat, Int.reduceEq, ite_true, ite_false, i2, List.length_map]; with_reducible rfl)))
        refine roundK.out () hpos ?_
        (repeat' (first | with_reducible refine Qn | ((with_reducible refine Qr ?_ ?_); focus (first | with_reducible rfl | (simp only [Zz, Nat.reduceBEq]; done) | rfl)) | ((with_reducible refine Qj (o' := ?_) ?_ ?_ ?_); rotate_left 1; focus rfl) | ((with_reducible refine Qw ?_ ?_); (focus (first | with_reducible rfl | (simp only [Zv]; done))); focus (first | exact id | exact (fun h => nomatch h) | exact (fun _ => rfl)))))
    · rintro _ hpos
      have e2 : leftI left (e.length + szN e) = left - e.length - (szN e : Nat) := by rw [leftI_ok (by omega)]; omega
      rw [e2]
      repeat' (first | with_reducible (first | refine Q1 ?_ | refine Q2 ?_ | refine Q3 ?_ | refine Q4 ?_ | refine Q5 ?_ | refine Q6 ?_ | refine Q7 ?_ | refine Q8 ?_ | refine Q9 ?_ | refine Qa ?_ | refine Qb ?_ | refine Qc ?_ | refine Qd ?_ | refine Qe ?_ | refine Qf ?_) | ((with_reducible refine Qo ?_ ?_); focus rfl) | ((with_reducible first | refine QT 6 (l := ?_) ?_ ?_ | refine QF 6 (l := ?_) ?_ ?_); rotate_left 1; focus (simp only [Zu, Nat.reduceSub, Nat.reduceBEq]; with_reducible rfl)) | ((with_reducible first | refine QS (cfg_ok 27) Tab.none (s' := ?_) ?_ ?_ | refine QC (b := ?_) ?_ ?_); rotate_left 1; focus ((with_reducible refine QW ?_); simp only [Zg, Nat.reduceEqDiff, Nat.reduceLT, Nat.reduceLeDiff, reduceIte, if_true, if_false, reduceCtorEq, Nat.reduceAdd, Nat.reduceMul, Nat.reduceSub, Nat.reduceBEq, Nat.reduceBNe, Int.reduceLE, Int.reduceLT, Int.reduceNeg, Int.reduceAdd, Int.reduceSub, Int.reduceMul, Int.reduceToNat, Int.reduceEq, ite_true, ite_false]; with_reducible rfl)))
      (refine Ends.mk (by simp) (rs := ?_) (ks := ?_) hres hrts ?_ ?_ ?_; rotate_left 2; (focus (simp only [Ze, Zg, Nat.reduceEqDiff, Nat.reduceLT, Nat.reduceLeDiff, reduceIte, if_true, if_false, reduceCtorEq, Nat.reduceAdd, Nat.reduceMul, Nat.reduceSub, Nat.reduceBEq, Nat.reduceBNe, Int.reduceLE, Int.reduceLT, Int.reduceNeg, Int.reduceAdd, Int.reduceSub, Int.reduceMul, Int.reduceToNat, Int.reduceEq, ite_true, ite_false]; with_reducible rfl)); (focus simp); focus (first | with_reducible rfl | (simp only [Zv]; done)))

theorem arg_P {w : World} {u : Value} {xs : List (Int × List (List Int))} (h : Rd (RS RPart) w [u] xs) : relArg (· < w.heap.size) w [.sl 2 (xs.map ePt)] u := ((encS (encP encI (encS (encS encI)))).rdV (x := xs) rfl).1 h

/-- The size of an argument. -/
theorem sz_P (v : Value) (xs : List (Int × List (List Int))) (left : Int) (w : World) (h : Rd (RS RPart) w [v] xs) (h0 : 0 ≤ left) (h1 : left ≤ 1048576) :
    Calls Tryz.prog 12 #[v, .int .i64 left] w fun e w' => ∃ r, e = .returned (.int .i64 r) ∧ ((r < 0 ∧ True) ∨ (0 ≤ r ∧ r ≤ 1048576 ∧ szP xs)) ∧ Below w.heap.size w w' := by
  obtain ⟨oa, cap, hv, m1, m2⟩ := h.val
  unfold maxLen at m2
  have hpl : ∀ p ∈ xs, p.2.length ≤ 9223372036854775807 := fun p hp => by
    obtain ⟨i, hi, rfl⟩ := List.getElem_of_mem hp
    obtain ⟨b, off, cap, s, _, _, _, _, _, hr⟩ := h.partAt (S := RS (RS RI)) rfl i hi
    obtain ⟨o1, c1, _, l1, l2⟩ := hr.val
    unfold maxLen at l2
    omega
  have ha := AFn.one (v := .int .i64 _) (fun A w u hu => (rdV_int.1 hu).1) (a_szPartS xs left h0 h1 (by omega) hpl) (args2 (arg_P h) (arg_I (by unfold In64; omega)))
  refine ha.mono ?_
  rintro e w' ⟨rfl, hb⟩
  refine ⟨_, rfl, ?_, hb⟩
  by_cases hn : left - (xs.length + szN xs : Nat) < 0
  · rw [leftI_no hn]; exact .inl ⟨by decide, trivial⟩
  · rw [leftI_ok hn]; exact .inr ⟨by omega, by omega, by unfold szP; omega⟩

set_option maxRecDepth 20000 in
theorem opPart : Opens Tryz.prog RPart 65 := by
  intro H enc w base spare held fuel cs x h
  obtain ⟨y0, y1, n, _, hl, h0, h1⟩ := Go.ChangeShapes.trod_struct2 Tryz.underlying65 h
  have c0 : Tryz.prog.cellsOf 2 = 1 := by kernel_rfl
  have c1 : Tryz.prog.cellsOf 50 = 1 := by kernel_rfl
  have hl2 : cs.length = 2 := by rw [hl]; kernel_rfl
  match cs, hl2 with
  | [a, b], _ =>
    simp only [c0, c1, List.drop_zero, List.drop_succ_cons, List.take_succ_cons, List.take_zero] at h0 h1
    obtain ⟨y, hy⟩ := opI64 _ _ _ _ _ _ _ _ _ h0
    obtain ⟨z, hz⟩ := opI64SS _ _ _ _ _ _ _ _ _ h1
    exact ⟨(y, z), [a], [b], rfl, hy, hz⟩
theorem opPartS : Opens Tryz.prog (RS RPart) 22 := Opens.slice Tryz.underlying22 (by kernel_rfl) opPart
end Go.Proofs.YtacbkjmkjpjhoaaGreat
