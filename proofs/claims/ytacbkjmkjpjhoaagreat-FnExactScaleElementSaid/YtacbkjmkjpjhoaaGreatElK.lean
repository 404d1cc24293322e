/- IsElement: contracts for the laws. -/
import Derived.Test.YtacbkjmkjpjhoaaGreatElW
import Derived.Test.YtacbkjmkjpjhoaaGreatElWS
import Derived.Test.YtacbkjmkjpjhoaaGreatGs
set_option linter.unusedSimpArgs false
set_option linter.unusedVariables false
namespace Go.Proofs.YtacbkjmkjpjhoaaGreat
open Go.RowKit

theorem k_impl_IsElement (v : Value) (e : Elt) (w : World) (h : Rd (RS RPart) w [v] e) (hz : szP e) : Calls Tryz.prog 34 #[v] w (RetV w (.bool (elB e))) :=
  AFn.one (v := .bool _) (fun _ _ _ hu => rdV_bool.1 hu) (a_impl_IsElement e hz) (args1 (arg_P h))
theorem a_spec_IsElement (e : Elt) (hz : szP e) : AFn Tryz.prog 35 [[.sl 2 (e.map ePt)]] (· = [.val (.bool (elB e))]) := by
  have ha := a_l06Is e hz
  refine AFn.of_runs (cfg_ok 5) Tryz.func35 rfl rfl rfl (by simp only [List.length_cons, List.length_nil]; decide) ?_
  have hres : Tryz.f35.results.toList = [.tmp 2] := rfl
  have hrts : Tryz.f35.resultTypes.toList = [4] := rfl
  simp only [argRegs, argAV1, eL, eI, eLL, eB, Nat.zero_add, Nat.reduceAdd]
  intro M
  refine RunK.of ?_
  repeat' (first | with_reducible (first | refine Q1 ?_ | refine Q2 ?_ | refine Q3 ?_ | refine Q4 ?_ | refine Q5 ?_ | refine Q6 ?_ | refine Q7 ?_ | refine Q8 ?_ | refine Q9 ?_ | refine Qa ?_ | refine Qb ?_ | refine Qc ?_ | refine Qd ?_ | refine Qe ?_ | refine Qf ?_) | ((with_reducible refine Qo ?_ ?_); focus rfl) | ((with_reducible first | refine QT 3 (l := ?_) ?_ ?_ | refine QF 3 (l := ?_) ?_ ?_); rotate_left 1; focus (simp only [Zu, Nat.reduceSub, Nat.reduceBEq]; with_reducible rfl)) | ((with_reducible first | refine QS (cfg_ok 5) ((Tab.none.at' 48 ha)) (s' := ?_) ?_ ?_ | refine QC (b := ?_) ?_ ?_); rotate_left 1; focus ((with_reducible refine QW ?_); simp only [Zg, Nat.reduceEqDiff, Nat.reduceLT, Nat.reduceLeDiff, reduceIte, if_true, if_false, reduceCtorEq, Nat.reduceAdd, Nat.reduceMul, Nat.reduceSub, Nat.reduceBEq, Nat.reduceBNe, Int.reduceLE, Int.reduceLT, Int.reduceNeg, Int.reduceAdd, Int.reduceSub, Int.reduceMul, Int.reduceToNat, Int.reduceEq, ite_true, ite_false]; with_reducible rfl)))
  (refine Ends.mk (by simp) (rs := ?_) (ks := ?_) hres hrts ?_ ?_ ?_; rotate_left 2; (focus (simp only [Ze, Zg, Nat.reduceEqDiff, Nat.reduceLT, Nat.reduceLeDiff, reduceIte, if_true, if_false, reduceCtorEq, Nat.reduceAdd, Nat.reduceMul, Nat.reduceSub, Nat.reduceBEq, Nat.reduceBNe, Int.reduceLE, Int.reduceLT, Int.reduceNeg, Int.reduceAdd, Int.reduceSub, Int.reduceMul, Int.reduceToNat, Int.reduceEq, ite_true, ite_false]; with_reducible rfl)); (focus simp); focus (first | with_reducible rfl | (simp only [Zv]; done)))
theorem k_spec_IsElement (v : Value) (e : Elt) (w : World) (h : Rd (RS RPart) w [v] e) (hz : szP e) : Calls Tryz.prog 35 #[v] w (RetV w (.bool (elB e))) :=
  AFn.one (v := .bool _) (fun _ _ _ hu => rdV_bool.1 hu) (a_spec_IsElement e hz) (args1 (arg_P h))

end Go.Proofs.YtacbkjmkjpjhoaaGreat
