/- slices.IndexFunc and slices.DeleteFunc at rows of parts. -/
import Derived.Test.YtacbkjmkjpjhoaaGreatDels
import Derived.Test.YtacbkjmkjpjhoaaGreatDelP
import Derived.Test.YtacbkjmkjpjhoaaGreatGs
set_option linter.unusedSimpArgs false
set_option linter.unusedVariables false
namespace Go.Proofs.YtacbkjmkjpjhoaaGreat
open Go.RowKit

set_option maxHeartbeats 2000000 in
theorem a_IndexFuncPt {α : Type} (e : α → List D) (d : α → D) (c0 : α → Int) (f : α → List (List Int)) (p : α → Bool) (g : FuncId) (he : ∀ x, e x = [.int (c0 x), d x]) (hun : ∀ x, (d x).un = .sl 1 ((f x).map eL)) (hp : ∀ x, AFn Tryz.prog g [[.int (c0 x), .sl 1 ((f x).map eL)]] (· = [.val (.bool (p x))])) (xs : List α) (hl : xs.length ≤ 1000000000) :
    AFn Tryz.prog 152 [[.sl 2 (xs.map e)], [.raw (.func (.func g) #[] #[])]] (· = [.val (.int (idxI (fIdx p xs)))]) := by
  refine AFn.of_runs (cfg_ok 19) Tryz.func152 rfl rfl rfl (by simp only [List.length_cons, List.length_nil]; decide) ?_
  have hres : Tryz.f152.results.toList = [.tmp 4] := rfl
  have hrts : Tryz.f152.resultTypes.toList = [3] := rfl
  simp only [argRegs, argAV1, eL, eI, eLL, eB, Nat.zero_add, Nat.reduceAdd]
  intro M
  refine RunK.of ?_
  have hle : (xs.map e).length = xs.length := by simp
  repeat' (first | with_reducible (first | refine Q1 ?_ | refine Q2 ?_ | refine Q3 ?_ | refine Q4 ?_ | refine Q5 ?_ | refine Q6 ?_ | refine Q7 ?_ | refine Q8 ?_ | refine Q9 ?_ | refine Qa ?_ | refine Qb ?_ | refine Qc ?_ | refine Qd ?_ | refine Qe ?_ | refine Qf ?_) | ((with_reducible refine Qo ?_ ?_); focus rfl) | ((with_reducible first | refine QT 9 (l := ?_) ?_ ?_ | refine QF 9 (l := ?_) ?_ ?_); rotate_left 1; focus (simp only [Zu, Nat.reduceSub, Nat.reduceBEq]; with_reducible rfl)) | ((with_reducible first | refine QS (cfg_ok 19) Tab.none (s' := ?_) ?_ ?_ | refine QC (b := ?_) ?_ ?_); rotate_left 1; focus ((with_reducible refine QW ?_); simp only [Zg, Nat.reduceEqDiff, Nat.reduceLT, Nat.reduceLeDiff, reduceIte, if_true, if_false, reduceCtorEq, Nat.reduceAdd, Nat.reduceMul, Nat.reduceSub, Nat.reduceBEq, Nat.reduceBNe, Int.reduceLE, Int.reduceLT, Int.reduceNeg, Int.reduceAdd, Int.reduceSub, Int.reduceMul, Int.reduceToNat, Int.reduceEq, ite_true, ite_false, hle]; with_reducible rfl)))
  refine RunK.loop (β := Nat) (γ := Unit) (fun i => ⟨[(0, .c (.val (.sl 2 (xs.map e)))), (1, .c (.val (.raw (.func (.func g) #[] #[])))), (7, .c (.val (.int xs.length))), (8, .c (.val (.int i)))], []⟩) (fun i => i ≤ xs.length ∧ ∀ x ∈ xs.take i, p x = false) (fun i => xs.length - i)
    (fun _ => ⟨[], []⟩) (fun _ => ∀ x ∈ xs, p x = false) 0 ⟨Nat.zero_le _, by simp⟩ ?_ ?_ ?_
  · (repeat' (first | with_reducible refine Qn | ((with_reducible refine Qr ?_ ?_); focus (first | with_reducible rfl | (simp only [Zz, Nat.reduceBEq]; done) | rfl)) | ((with_reducible refine Qj (o' := ?_) ?_ ?_ ?_); rotate_left 1; focus rfl) | ((with_reducible refine Qw ?_ ?_); (focus (first | with_reducible rfl | (simp only [Zv]; done))); focus (first | exact id | exact (fun h => nomatch h) | exact (fun _ => rfl)))))
  · rintro i ⟨hi, hlow⟩
    have hw := w64_succ (n := i) (by omega)
    by_cases h : i < xs.length
    · have hx := hp xs[i]
      have hj : (xs.map e)[i]? = some [.int (c0 xs[i]), d xs[i]] := by rw [map_get h, he]
      have i1 : ((i : Int) < (xs.length : Int)) = True := eq_true (by omega)
      have i2 : ((0 : Int) ≤ (i : Int)) = True := eq_true (by omega)
      by_cases hpx : p xs[i] = true
      · repeat' (first | with_reducible (first | refine Q1 ?_ | refine Q2 ?_ | refine Q3 ?_ | refine Q4 ?_ | refine Q5 ?_ | refine Q6 ?_ | refine Q7 ?_ | refine Q8 ?_ | refine Q9 ?_ | refine Qa ?_ | refine Qb ?_ | refine Qc ?_ | refine Qd ?_ | refine Qe ?_ | refine Qf ?_) | ((with_reducible refine Qo ?_ ?_); focus rfl) | ((with_reducible first | refine QT 9 (l := ?_) ?_ ?_ | refine QF 9 (l := ?_) ?_ ?_); rotate_left 1; focus (simp only [Zu, Nat.reduceSub, Nat.reduceBEq]; with_reducible rfl)) | ((with_reducible first | refine QS (cfg_ok 19) (Tab.none.at' g hx) (s' := ?_) ?_ ?_ | refine QC (b := ?_) ?_ ?_); rotate_left 1; focus ((with_reducible refine QW ?_); simp only [Zg, Nat.reduceEqDiff, Nat.reduceLT, Nat.reduceLeDiff, reduceIte, if_true, if_false, reduceCtorEq, Nat.reduceAdd, Nat.reduceMul, Nat.reduceSub, Nat.reduceBEq, Nat.reduceBNe, Int.reduceLE, Int.reduceLT, Int.reduceNeg, Int.reduceAdd, Int.reduceSub, Int.reduceMul, Int.reduceToNat, Int.reduceEq, ite_true, ite_false, hle, i1, i2, hj, hun, argV_un (hun _), cellD_un (hun _), hpx, hw, eL, Int.toNat_natCast]; with_reducible rfl)))
        refine roundK.ret ?_
        repeat' (first | with_reducible (first | refine Q1 ?_ | refine Q2 ?_ | refine Q3 ?_ | refine Q4 ?_ | refine Q5 ?_ | refine Q6 ?_ | refine Q7 ?_ | refine Q8 ?_ | refine Q9 ?_ | refine Qa ?_ | refine Qb ?_ | refine Qc ?_ | refine Qd ?_ | refine Qe ?_ | refine Qf ?_) | ((with_reducible refine Qo ?_ ?_); focus rfl) | ((with_reducible first | refine QT 9 (l := ?_) ?_ ?_ | refine QF 9 (l := ?_) ?_ ?_); rotate_left 1; focus (simp only [Zu, Nat.reduceSub, Nat.reduceBEq]; with_reducible rfl)) | ((with_reducible first | refine QS (cfg_ok 19) Tab.none (s' := ?_) ?_ ?_ | refine QC (b := ?_) ?_ ?_); rotate_left 1; focus ((with_reducible refine QW ?_); simp only [Zg, Nat.reduceEqDiff, Nat.reduceLT, Nat.reduceLeDiff, reduceIte, if_true, if_false, reduceCtorEq, Nat.reduceAdd, Nat.reduceMul, Nat.reduceSub, Nat.reduceBEq, Nat.reduceBNe, Int.reduceLE, Int.reduceLT, Int.reduceNeg, Int.reduceAdd, Int.reduceSub, Int.reduceMul, Int.reduceToNat, Int.reduceEq, ite_true, ite_false]; with_reducible rfl)))
        rw [fIdx_at h hpx hlow]
        (refine Ends.mk (by simp) (rs := ?_) (ks := ?_) hres hrts ?_ ?_ ?_; rotate_left 2; (focus (simp only [Ze, Zg, Nat.reduceEqDiff, Nat.reduceLT, Nat.reduceLeDiff, reduceIte, if_true, if_false, reduceCtorEq, Nat.reduceAdd, Nat.reduceMul, Nat.reduceSub, Nat.reduceBEq, Nat.reduceBNe, Int.reduceLE, Int.reduceLT, Int.reduceNeg, Int.reduceAdd, Int.reduceSub, Int.reduceMul, Int.reduceToNat, Int.reduceEq, ite_true, ite_false, idxI]; with_reducible rfl)); (focus simp); focus (first | with_reducible rfl | (simp only [Zv, idxI]; done)))
      · have hpx' : p xs[i] = false := by simpa using hpx
        repeat' (first | with_reducible (first | refine Q1 ?_ | refine Q2 ?_ | refine Q3 ?_ | refine Q4 ?_ | refine Q5 ?_ | refine Q6 ?_ | refine Q7 ?_ | refine Q8 ?_ | refine Q9 ?_ | refine Qa ?_ | refine Qb ?_ | refine Qc ?_ | refine Qd ?_ | refine Qe ?_ | refine Qf ?_) | ((with_reducible refine Qo ?_ ?_); focus rfl) | ((with_reducible first | refine QT 9 (l := ?_) ?_ ?_ | refine QF 9 (l := ?_) ?_ ?_); rotate_left 1; focus (simp only [Zu, Nat.reduceSub, Nat.reduceBEq]; with_reducible rfl)) | ((with_reducible first | refine QS (cfg_ok 19) (Tab.none.at' g hx) (s' := ?_) ?_ ?_ | refine QC (b := ?_) ?_ ?_); rotate_left 1; focus ((with_reducible refine QW ?_); simp only [Zg, Nat.reduceEqDiff, Nat.reduceLT, Nat.reduceLeDiff, reduceIte, if_true, if_false, reduceCtorEq, Nat.reduceAdd, Nat.reduceMul, Nat.reduceSub, Nat.reduceBEq, Nat.reduceBNe, Int.reduceLE, Int.reduceLT, Int.reduceNeg, Int.reduceAdd, Int.reduceSub, Int.reduceMul, Int.reduceToNat, Int.reduceEq, ite_true, ite_false, hle, i1, i2, hj, hun, argV_un (hun _), cellD_un (hun _), hpx', hw, eL, Int.toNat_natCast]; with_reducible rfl)))
        refine roundK.on (i + 1) ⟨⟨h, fun x hx => ?_⟩, by omega⟩ ?_
        · rw [List.take_succ_eq_append_getElem h, List.mem_append, List.mem_singleton] at hx
          rcases hx with hx | rfl
          · exact hlow x hx
          · exact hpx'
        · (repeat' (first | with_reducible refine Qn | ((with_reducible refine Qr ?_ ?_); focus (first | with_reducible rfl | (simp only [Zz, Nat.reduceBEq]; done) | rfl)) | ((with_reducible refine Qj (o' := ?_) ?_ ?_ ?_); rotate_left 1; focus rfl) | ((with_reducible refine Qw ?_ ?_); (focus (first | with_reducible rfl | (simp only [Zv]; done))); focus (first | exact id | exact (fun h => nomatch h) | exact (fun _ => rfl)))))
    · have i1 : ((i : Int) < (xs.length : Int)) = False := eq_false (by omega)
      repeat' (first | with_reducible (first | refine Q1 ?_ | refine Q2 ?_ | refine Q3 ?_ | refine Q4 ?_ | refine Q5 ?_ | refine Q6 ?_ | refine Q7 ?_ | refine Q8 ?_ | refine Q9 ?_ | refine Qa ?_ | refine Qb ?_ | refine Qc ?_ | refine Qd ?_ | refine Qe ?_ | refine Qf ?_) | ((with_reducible refine Qo ?_ ?_); focus rfl) | ((with_reducible first | refine QT 9 (l := ?_) ?_ ?_ | refine QF 9 (l := ?_) ?_ ?_); rotate_left 1; focus (simp only [Zu, Nat.reduceSub, Nat.reduceBEq]; with_reducible rfl)) | ((with_reducible first | refine QS (cfg_ok 19) Tab.none (s' := ?_) ?_ ?_ | refine QC (b := ?_) ?_ ?_); rotate_left 1; focus ((with_reducible refine QW ?_); simp only [Zg, Nat.reduceEqDiff, Nat.reduceLT, Nat.reduceLeDiff, reduceIte, if_true, if_false, reduceCtorEq, Nat.reduceAdd, Nat.reduceMul, Nat.reduceSub, Nat.reduceBEq, Nat.reduceBNe, Int.reduceLE, Int.reduceLT, Int.reduceNeg, Int.reduceAdd, Int.reduceSub, Int.reduceMul, Int.reduceToNat, Int.reduceEq, ite_true, ite_false, hle, i1]; with_reducible rfl)))
      refine roundK.out () (fun x hx => hlow x (by rw [List.take_of_length_le (by omega)]; exact hx)) ?_
      (repeat' (first | with_reducible refine Qn | ((with_reducible refine Qr ?_ ?_); focus (first | with_reducible rfl | (simp only [Zz, Nat.reduceBEq]; done) | rfl)) | ((with_reducible refine Qj (o' := ?_) ?_ ?_ ?_); rotate_left 1; focus rfl) | ((with_reducible refine Qw ?_ ?_); (focus (first | with_reducible rfl | (simp only [Zv]; done))); focus (first | exact id | exact (fun h => nomatch h) | exact (fun _ => rfl)))))
  · rintro _ hno
    repeat' (first | with_reducible (first | refine Q1 ?_ | refine Q2 ?_ | refine Q3 ?_ | refine Q4 ?_ | refine Q5 ?_ | refine Q6 ?_ | refine Q7 ?_ | refine Q8 ?_ | refine Q9 ?_ | refine Qa ?_ | refine Qb ?_ | refine Qc ?_ | refine Qd ?_ | refine Qe ?_ | refine Qf ?_) | ((with_reducible refine Qo ?_ ?_); focus rfl) | ((with_reducible first | refine QT 9 (l := ?_) ?_ ?_ | refine QF 9 (l := ?_) ?_ ?_); rotate_left 1; focus (simp only [Zu, Nat.reduceSub, Nat.reduceBEq]; with_reducible rfl)) | ((with_reducible first | refine QS (cfg_ok 19) Tab.none (s' := ?_) ?_ ?_ | refine QC (b := ?_) ?_ ?_); rotate_left 1; focus ((with_reducible refine QW ?_); simp only [Zg, Nat.reduceEqDiff, Nat.reduceLT, Nat.reduceLeDiff, reduceIte, if_true, if_false, reduceCtorEq, Nat.reduceAdd, Nat.reduceMul, Nat.reduceSub, Nat.reduceBEq, Nat.reduceBNe, Int.reduceLE, Int.reduceLT, Int.reduceNeg, Int.reduceAdd, Int.reduceSub, Int.reduceMul, Int.reduceToNat, Int.reduceEq, ite_true, ite_false]; with_reducible rfl)))
    rw [fIdx_none.2 hno]
    (refine Ends.mk (by simp) (rs := ?_) (ks := ?_) hres hrts ?_ ?_ ?_; rotate_left 2; (focus (simp only [Ze, Zg, Nat.reduceEqDiff, Nat.reduceLT, Nat.reduceLeDiff, reduceIte, if_true, if_false, reduceCtorEq, Nat.reduceAdd, Nat.reduceMul, Nat.reduceSub, Nat.reduceBEq, Nat.reduceBNe, Int.reduceLE, Int.reduceLT, Int.reduceNeg, Int.reduceAdd, Int.reduceSub, Int.reduceMul, Int.reduceToNat, Int.reduceEq, ite_true, ite_false, idxI]; with_reducible rfl)); (focus simp); focus (first | with_reducible rfl | (simp only [Zv, idxI]; done)))

set_option maxHeartbeats 4000000 in
theorem a_DeleteFuncPt {α : Type} (e : α → List D) (d : α → D) (c0 : α → Int) (f : α → List (List Int)) (p : α → Bool) (g : FuncId) (he : ∀ x, e x = [.int (c0 x), d x]) (hun : ∀ x, (d x).un = .sl 1 ((f x).map eL)) (hp : ∀ x, AFn Tryz.prog g [[.int (c0 x), .sl 1 ((f x).map eL)]] (· = [.val (.bool (p x))])) (xs : List α) (hl : xs.length ≤ 1000000000) :
    AOw Tryz.prog 105 [] 2 (xs.map e) [[.raw (.func (.func g) #[] #[])]] (· = [.own 2 ((keepF p xs).map e) false]) := by
  have hidx := a_IndexFuncPt e d c0 f p g he hun hp xs hl
  rcases hfi : fIdx p xs with _ | i0
  · rw [hfi] at hidx
    have hk : keepF p xs = xs := List.filter_eq_self.2 (fun x hx => by rw [fIdx_none.1 hfi x hx]; rfl)
    rw [hk]
    refine AOw.of_runs (cfg_ok 42) Tryz.func105 rfl rfl rfl (by simp only [List.length_cons, List.length_nil]; decide) ?_
    have hres : Tryz.f105.results.toList = [.tmp 4] := rfl
    have hrts : Tryz.f105.resultTypes.toList = [24] := rfl
    simp only [List.length_cons, List.length_nil, List.nil_append, List.cons_append, argRegs, argAV1, eL, eI, eLL, eB, Nat.zero_add, Nat.reduceAdd]
    intro M
    refine RunK.of ?_
    repeat' (first | with_reducible (first | refine Q1 ?_ | refine Q2 ?_ | refine Q3 ?_ | refine Q4 ?_ | refine Q5 ?_ | refine Q6 ?_ | refine Q7 ?_ | refine Q8 ?_ | refine Q9 ?_ | refine Qa ?_ | refine Qb ?_ | refine Qc ?_ | refine Qd ?_ | refine Qe ?_ | refine Qf ?_) | ((with_reducible refine Qo ?_ ?_); focus rfl) | ((with_reducible first | refine QT 8 (l := ?_) ?_ ?_ | refine QF 8 (l := ?_) ?_ ?_); rotate_left 1; focus (simp only [Zu, Nat.reduceSub, Nat.reduceBEq]; with_reducible rfl)) | ((with_reducible first | refine QS (cfg_ok 42) (Tab.none.at' 152 hidx) (s' := ?_) ?_ ?_ | refine QC (b := ?_) ?_ ?_); rotate_left 1; focus ((with_reducible refine QW ?_); simp only [Zg, Nat.reduceEqDiff, Nat.reduceLT, Nat.reduceLeDiff, reduceIte, if_true, if_false, reduceCtorEq, Nat.reduceAdd, Nat.reduceMul, Nat.reduceSub, Nat.reduceBEq, Nat.reduceBNe, Int.reduceLE, Int.reduceLT, Int.reduceNeg, Int.reduceAdd, Int.reduceSub, Int.reduceMul, Int.reduceToNat, Int.reduceEq, ite_true, ite_false, idxI]; with_reducible rfl)))
    (refine Ends.mk (by simp) (rs := ?_) (ks := ?_) hres hrts ?_ ?_ ?_; rotate_left 2; (focus (simp only [Ze, Zg, Nat.reduceEqDiff, Nat.reduceLT, Nat.reduceLeDiff, reduceIte, if_true, if_false, reduceCtorEq, Nat.reduceAdd, Nat.reduceMul, Nat.reduceSub, Nat.reduceBEq, Nat.reduceBNe, Int.reduceLE, Int.reduceLT, Int.reduceNeg, Int.reduceAdd, Int.reduceSub, Int.reduceMul, Int.reduceToNat, Int.reduceEq, ite_true, ite_false]; with_reducible rfl)); (focus simp); focus (first | with_reducible rfl | (simp only [Zv]; done)))
  · rw [hfi] at hidx
    obtain ⟨hi0, hpi, hlow⟩ := fIdx_some hfi
    refine AOw.of_runs (cfg_ok 42) Tryz.func105 rfl rfl rfl (by simp only [List.length_cons, List.length_nil]; decide) ?_
    have hres : Tryz.f105.results.toList = [.tmp 4] := rfl
    have hrts : Tryz.f105.resultTypes.toList = [24] := rfl
    simp only [List.length_cons, List.length_nil, List.nil_append, List.cons_append, argRegs, argAV1, eL, eI, eLL, eB, Nat.zero_add, Nat.reduceAdd]
    intro M
    refine RunK.of ?_
    have hne : ((i0 : Int) == -1) = false := beq_eq_false_iff_ne.2 (by omega)
    have hw0 := w64_succ (n := i0) (by omega)
    repeat' (first | with_reducible (first | refine Q1 ?_ | refine Q2 ?_ | refine Q3 ?_ | refine Q4 ?_ | refine Q5 ?_ | refine Q6 ?_ | refine Q7 ?_ | refine Q8 ?_ | refine Q9 ?_ | refine Qa ?_ | refine Qb ?_ | refine Qc ?_ | refine Qd ?_ | refine Qe ?_ | refine Qf ?_) | ((with_reducible refine Qo ?_ ?_); focus rfl) | ((with_reducible first | refine QT 8 (l := ?_) ?_ ?_ | refine QF 8 (l := ?_) ?_ ?_); rotate_left 1; focus (simp only [Zu, Nat.reduceSub, Nat.reduceBEq]; with_reducible rfl)) | ((with_reducible first | refine QS (cfg_ok 42) (Tab.none.at' 152 hidx) (s' := ?_) ?_ ?_ | refine QC (b := ?_) ?_ ?_); rotate_left 1; focus ((with_reducible refine QW ?_); simp only [Zg, Nat.reduceEqDiff, Nat.reduceLT, Nat.reduceLeDiff, reduceIte, if_true, if_false, reduceCtorEq, Nat.reduceAdd, Nat.reduceMul, Nat.reduceSub, Nat.reduceBEq, Nat.reduceBNe, Int.reduceLE, Int.reduceLT, Int.reduceNeg, Int.reduceAdd, Int.reduceSub, Int.reduceMul, Int.reduceToNat, Int.reduceEq, ite_true, ite_false, idxI, hne, hw0]; with_reducible rfl)))
    refine RunK.loop (β := Nat × List (List D)) (γ := List (List D)) (fun x => ⟨[(0, .c (.own 0 xs.length)), (1, .c (.val (.raw (.func (.func g) #[] #[])))), (5, .c (.val (.int (keepF p (xs.take x.1)).length))), (6, .c (.val (.int x.1)))], [(0, .row 2 x.2 false)]⟩)
      (fun x => x.1 ≤ xs.length ∧ x.2.length = xs.length ∧ (∀ r ∈ x.2, r.length = 2) ∧ x.2.take (keepF p (xs.take x.1)).length = (keepF p (xs.take x.1)).map e ∧ x.2.drop x.1 = (xs.drop x.1).map e) (fun x => xs.length - x.1)
      (fun L => ⟨[(0, .c (.own 0 xs.length)), (5, .c (.val (.int (keepF p xs).length)))], [(0, .row 2 L false)]⟩) (fun L => L.length = xs.length ∧ L.take (keepF p xs).length = (keepF p xs).map e) (i0 + 1, xs.map e) ⟨by omega, by simp, ?_, ?_, by rw [List.map_drop]⟩ ?_ ?_ ?_
    · intro r hr
      obtain ⟨x, _, rfl⟩ := List.mem_map.1 hr
      rw [he]; rfl
    · have h1 : keepF p (xs.take (i0 + 1)) = xs.take i0 := by
        rw [List.take_succ_eq_append_getElem hi0]
        unfold keepF
        rw [List.filter_append, List.filter_eq_self.2 (fun x hx => by rw [hlow x hx]; rfl)]
        simp [hpi]
      show (xs.map e).take (keepF p (xs.take (i0 + 1))).length = (keepF p (xs.take (i0 + 1))).map e
      rw [h1, ← List.map_take, List.length_take, Nat.min_eq_left (Nat.le_of_lt hi0)]
    · have h1 : (keepF p (xs.take (i0 + 1))).length = i0 := by
        rw [List.take_succ_eq_append_getElem hi0]
        unfold keepF
        rw [List.filter_append, List.filter_eq_self.2 (fun x hx => by rw [hlow x hx]; rfl)]
        simp [hpi]; omega
      (repeat' (first | with_reducible refine Qn | ((with_reducible refine Qr ?_ ?_); focus (first | with_reducible rfl | (simp only [Zz, Nat.reduceBEq, h1]; done) | rfl)) | ((with_reducible refine Qj (o' := ?_) ?_ ?_ ?_); rotate_left 1; focus rfl) | ((with_reducible refine Qw ?_ ?_); (focus (first | with_reducible rfl | (simp only [Zv, h1]; done))); focus (first | exact id | exact (fun h => nomatch h) | exact (fun _ => rfl)))))
    · rintro ⟨j, L⟩ ⟨hj, hL, hone, htk, hdr⟩
      have hj : j ≤ xs.length := hj
      have hL : L.length = xs.length := hL
      have htk : L.take (keepF p (xs.take j)).length = (keepF p (xs.take j)).map e := htk
      have hdr : L.drop j = (xs.drop j).map e := hdr
      have hw := w64_succ (n := j) (by omega)
      have hcl : (keepF p (xs.take j)).length ≤ j := by
        have := List.length_filter_le (fun x => !p x) (xs.take j)
        unfold keepF
        rw [List.length_take] at this
        omega
      have hwc := w64_succ (n := (keepF p (xs.take j)).length) (by omega)
      by_cases h : j < xs.length
      · have hx := hp xs[j]
        have hLj : L[j]? = some [.int (c0 xs[j]), d xs[j]] := by
          have : (L.drop j)[0]? = ((xs.drop j).map e)[0]? := by rw [hdr]
          rw [List.getElem?_drop, List.getElem?_map, List.getElem?_drop] at this
          simpa [h, he] using this
        have i1 : ((j : Int) < (xs.length : Int)) = True := eq_true (by omega)
        have i2 : ((0 : Int) ≤ (j : Int)) = True := eq_true (by omega)
        have hsucc : keepF p (xs.take (j + 1)) = if p xs[j] = true then keepF p (xs.take j) else keepF p (xs.take j) ++ [xs[j]] := by
          rw [List.take_succ_eq_append_getElem h]
          unfold keepF
          rw [List.filter_append]
          by_cases hpx : p xs[j] = true <;> simp [hpx]
        by_cases hpx : p xs[j] = true
        · rw [if_pos hpx] at hsucc
          repeat' (first | with_reducible (first | refine Q1 ?_ | refine Q2 ?_ | refine Q3 ?_ | refine Q4 ?_ | refine Q5 ?_ | refine Q6 ?_ | refine Q7 ?_ | refine Q8 ?_ | refine Q9 ?_ | refine Qa ?_ | refine Qb ?_ | refine Qc ?_ | refine Qd ?_ | refine Qe ?_ | refine Qf ?_) | ((with_reducible refine Qo ?_ ?_); focus rfl) | ((with_reducible first | refine QT 8 (l := ?_) ?_ ?_ | refine QF 8 (l := ?_) ?_ ?_); rotate_left 1; focus (simp only [Zu, Nat.reduceSub, Nat.reduceBEq]; with_reducible rfl)) | ((with_reducible first | refine QS (cfg_ok 42) (Tab.none.at' g hx) (s' := ?_) ?_ ?_ | refine QC (b := ?_) ?_ ?_); rotate_left 1; focus ((with_reducible refine QW ?_); simp only [Zg, Nat.reduceEqDiff, Nat.reduceLT, Nat.reduceLeDiff, reduceIte, if_true, if_false, reduceCtorEq, Nat.reduceAdd, Nat.reduceMul, Nat.reduceSub, Nat.reduceBEq, Nat.reduceBNe, Int.reduceLE, Int.reduceLT, Int.reduceNeg, Int.reduceAdd, Int.reduceSub, Int.reduceMul, Int.reduceToNat, Int.reduceEq, ite_true, ite_false, hL, i1, i2, hLj, hun, argV_un (hun _), cellD_un (hun _), hpx, hw, eL, Int.toNat_natCast]; with_reducible rfl)))
          refine roundK.on (j + 1, L) ⟨⟨h, hL, hone, ?_, ?_⟩, by show xs.length - (j + 1) < xs.length - j; omega⟩ ?_
          · rw [hsucc]; exact htk
          · show L.drop (j + 1) = (xs.drop (j + 1)).map e
            rw [← List.drop_drop, hdr, ← List.map_drop, List.drop_drop]
          · (repeat' (first | with_reducible refine Qn | ((with_reducible refine Qr ?_ ?_); focus (first | with_reducible rfl | (simp only [Zz, Nat.reduceBEq, hsucc]; done) | rfl)) | ((with_reducible refine Qj (o' := ?_) ?_ ?_ ?_); rotate_left 1; focus rfl) | ((with_reducible refine Qw ?_ ?_); (focus (first | with_reducible rfl | (simp only [Zv, hsucc]; done))); focus (first | exact id | exact (fun h => nomatch h) | exact (fun _ => rfl)))))
        · have hpx' : p xs[j] = false := by simpa using hpx
          rw [if_neg hpx] at hsucc
          obtain ⟨c, hc⟩ : ∃ c, c = (keepF p (xs.take j)).length := ⟨_, rfl⟩
          have hcs : (keepF p (xs.take (j + 1))).length = c + 1 := by rw [hsucc, hc]; simp
          rw [← hc] at hwc hcl htk
          have hcL : c < L.length := by omega
          obtain ⟨y, y2, hy⟩ : ∃ y y2, L[c] = [y, y2] := by
            have := hone L[c] (List.getElem_mem _)
            match L[c], this with
            | [y, y2], _ => exact ⟨y, y2, rfl⟩
          have hLc : L[c]? = some [y, y2] := by rw [List.getElem?_eq_getElem hcL, hy]
          have i3 : ((c : Int) < (xs.length : Int)) = True := eq_true (by omega)
          have i4 : ((0 : Int) ≤ (c : Int)) = True := eq_true (by omega)
          rw [← hc]
          repeat' (first | with_reducible (first | refine Q1 ?_ | refine Q2 ?_ | refine Q3 ?_ | refine Q4 ?_ | refine Q5 ?_ | refine Q6 ?_ | refine Q7 ?_ | refine Q8 ?_ | refine Q9 ?_ | refine Qa ?_ | refine Qb ?_ | refine Qc ?_ | refine Qd ?_ | refine Qe ?_ | refine Qf ?_) | ((with_reducible refine Qo ?_ ?_); focus rfl) | ((with_reducible first | refine QT 8 (l := ?_) ?_ ?_ | refine QF 8 (l := ?_) ?_ ?_); rotate_left 1; focus (simp only [Zu, Nat.reduceSub, Nat.reduceBEq]; with_reducible rfl)) | ((with_reducible first | refine QS (cfg_ok 42) (Tab.none.at' g hx) (s' := ?_) ?_ ?_ | refine QC (b := ?_) ?_ ?_); rotate_left 1; focus ((with_reducible refine QW ?_); simp only [Zg, Nat.reduceEqDiff, Nat.reduceLT, Nat.reduceLeDiff, reduceIte, if_true, if_false, reduceCtorEq, Nat.reduceAdd, Nat.reduceMul, Nat.reduceSub, Nat.reduceBEq, Nat.reduceBNe, Int.reduceLE, Int.reduceLT, Int.reduceNeg, Int.reduceAdd, Int.reduceSub, Int.reduceMul, Int.reduceToNat, Int.reduceEq, ite_true, ite_false, hL, i1, i2, i3, i4, hLj, hLc, hun, argV_un (hun _), cellD_un (hun _), hpx', hw, hwc, eL, Int.toNat_natCast]; with_reducible rfl)))
          refine roundK.on (j + 1, L.set c [.int (c0 xs[j]), d xs[j]]) ⟨⟨h, by simpa using hL, ?_, ?_, ?_⟩, by show xs.length - (j + 1) < xs.length - j; omega⟩ ?_
          · intro r hr
            rcases List.mem_or_eq_of_mem_set hr with hr | rfl
            · exact hone r hr
            · rfl
          · show (L.set c [.int (c0 xs[j]), d xs[j]]).take (keepF p (xs.take (j + 1))).length = (keepF p (xs.take (j + 1))).map e
            rw [hcs, hsucc, List.map_append, List.take_succ_eq_append_getElem (by simpa using hcL), List.take_set_of_le (Nat.le_refl _), htk]
            simp [he]
          · show (L.set c [.int (c0 xs[j]), d xs[j]]).drop (j + 1) = (xs.drop (j + 1)).map e
            rw [List.drop_set_of_lt (by omega), ← List.drop_drop, hdr, ← List.map_drop, List.drop_drop]
          · (repeat' (first | with_reducible refine Qn | ((with_reducible refine Qr ?_ ?_); focus (first | with_reducible rfl | (simp only [Zz, Nat.reduceBEq, hcs]; done) | rfl)) | ((with_reducible refine Qj (o' := ?_) ?_ ?_ ?_); rotate_left 1; focus rfl) | ((with_reducible refine Qw ?_ ?_); (focus (first | with_reducible rfl | (simp only [Zv, hcs]; done))); focus (first | exact id | exact (fun h => nomatch h) | exact (fun _ => rfl)))))
      · have i1 : ((j : Int) < (xs.length : Int)) = False := eq_false (by omega)
        have hall : xs.take j = xs := List.take_of_length_le (by omega)
        rw [hall] at htk ⊢
        repeat' (first | with_reducible (first | refine Q1 ?_ | refine Q2 ?_ | refine Q3 ?_ | refine Q4 ?_ | refine Q5 ?_ | refine Q6 ?_ | refine Q7 ?_ | refine Q8 ?_ | refine Q9 ?_ | refine Qa ?_ | refine Qb ?_ | refine Qc ?_ | refine Qd ?_ | refine Qe ?_ | refine Qf ?_) | ((with_reducible refine Qo ?_ ?_); focus rfl) | ((with_reducible first | refine QT 8 (l := ?_) ?_ ?_ | refine QF 8 (l := ?_) ?_ ?_); rotate_left 1; focus (simp only [Zu, Nat.reduceSub, Nat.reduceBEq]; with_reducible rfl)) | ((with_reducible first | refine QS (cfg_ok 42) Tab.none (s' := ?_) ?_ ?_ | refine QC (b := ?_) ?_ ?_); rotate_left 1; focus ((with_reducible refine QW ?_); simp only [Zg, Nat.reduceEqDiff, Nat.reduceLT, Nat.reduceLeDiff, reduceIte, if_true, if_false, reduceCtorEq, Nat.reduceAdd, Nat.reduceMul, Nat.reduceSub, Nat.reduceBEq, Nat.reduceBNe, Int.reduceLE, Int.reduceLT, Int.reduceNeg, Int.reduceAdd, Int.reduceSub, Int.reduceMul, Int.reduceToNat, Int.reduceEq, ite_true, ite_false, hL, i1]; with_reducible rfl)))
        refine roundK.out L ⟨hL, htk⟩ ?_
        (repeat' (first | with_reducible refine Qn | ((with_reducible refine Qr ?_ ?_); focus (first | with_reducible rfl | (simp only [Zz, Nat.reduceBEq]; done) | rfl)) | ((with_reducible refine Qj (o' := ?_) ?_ ?_ ?_); rotate_left 1; focus rfl) | ((with_reducible refine Qw ?_ ?_); (focus (first | with_reducible rfl | (simp only [Zv]; done))); focus (first | exact id | exact (fun h => nomatch h) | exact (fun _ => rfl)))))
    · rintro L ⟨hL, htk⟩
      have hcl : (keepF p xs).length ≤ xs.length := List.length_filter_le _ _
      obtain ⟨c, hc⟩ : ∃ c, c = (keepF p xs).length := ⟨_, rfl⟩
      rw [← hc] at htk hcl ⊢
      have i1 : ((c : Int) ≤ (xs.length : Int)) = True := eq_true (by omega)
      have i2 : ((0 : Int) ≤ (c : Int)) = True := eq_true (by omega)
      have i3 : ((xs.length : Int) ≤ (xs.length : Int)) = True := eq_true (by omega)
      have htn : ((xs.length : Int)).toNat = xs.length := Int.toNat_natCast _
      repeat' (first | with_reducible (first | refine Q1 ?_ | refine Q2 ?_ | refine Q3 ?_ | refine Q4 ?_ | refine Q5 ?_ | refine Q6 ?_ | refine Q7 ?_ | refine Q8 ?_ | refine Q9 ?_ | refine Qa ?_ | refine Qb ?_ | refine Qc ?_ | refine Qd ?_ | refine Qe ?_ | refine Qf ?_) | ((with_reducible refine Qo ?_ ?_); focus rfl) | ((with_reducible first | refine QT 8 (l := ?_) ?_ ?_ | refine QF 8 (l := ?_) ?_ ?_); rotate_left 1; focus (simp only [Zu, Nat.reduceSub, Nat.reduceBEq]; with_reducible rfl)) | ((with_reducible first | refine QS (cfg_ok 42) Tab.none (s' := ?_) ?_ ?_ | refine QC (b := ?_) ?_ ?_); rotate_left 1; focus ((with_reducible refine QW ?_); simp only [Zg, Nat.reduceEqDiff, Nat.reduceLT, Nat.reduceLeDiff, reduceIte, if_true, if_false, reduceCtorEq, Nat.reduceAdd, Nat.reduceMul, Nat.reduceSub, Nat.reduceBEq, Nat.reduceBNe, Int.reduceLE, Int.reduceLT, Int.reduceNeg, Int.reduceAdd, Int.reduceSub, Int.reduceMul, Int.reduceToNat, Int.reduceEq, ite_true, ite_false]; with_reducible rfl)))
      refine RunK.regCut (cfg_ok 42) Tab.none 3 (s1 := ?_) ?_ ?_
      rotate_left 1
      focus (refine Work.mk ?_; simp only [Zg, Nat.reduceEqDiff, Nat.reduceLT, Nat.reduceLeDiff, reduceIte, if_true, if_false, reduceCtorEq, Nat.reduceAdd, Nat.reduceMul, Nat.reduceSub, Nat.reduceBEq, Nat.reduceBNe, Int.reduceLE, Int.reduceLT, Int.reduceNeg, Int.reduceAdd, Int.reduceSub, Int.reduceMul, Int.reduceToNat, Int.reduceEq, ite_true, ite_false, hL, i1, i2, i3, Int.toNat_natCast]; with_reducible rfl)
      simp only [List.toList_toArray, List.drop_succ_cons, List.drop_zero]
      refine ROps.clear (cfg_ok 42) (x := .tmp 38) (t := 24) (i := ⟨54, [.int 0, .sl 1 []], 32⟩) (key := 0) (j := c) (m := xs.length - c) rfl rfl rfl rfl rfl rfl rfl (by rw [hL]; omega) ?_
      refine ROps.nil ?_
      repeat' (first | with_reducible (first | refine Q1 ?_ | refine Q2 ?_ | refine Q3 ?_ | refine Q4 ?_ | refine Q5 ?_ | refine Q6 ?_ | refine Q7 ?_ | refine Q8 ?_ | refine Q9 ?_ | refine Qa ?_ | refine Qb ?_ | refine Qc ?_ | refine Qd ?_ | refine Qe ?_ | refine Qf ?_) | ((with_reducible refine Qo ?_ ?_); focus rfl) | ((with_reducible first | refine QT 8 (l := ?_) ?_ ?_ | refine QF 8 (l := ?_) ?_ ?_); rotate_left 1; focus (simp only [Zu, Nat.reduceSub, Nat.reduceBEq]; with_reducible rfl)) | ((with_reducible first | refine QS (cfg_ok 42) Tab.none (s' := ?_) ?_ ?_ | refine QC (b := ?_) ?_ ?_); rotate_left 1; focus ((with_reducible refine QW ?_); simp only [Zg, Nat.reduceEqDiff, Nat.reduceLT, Nat.reduceLeDiff, reduceIte, if_true, if_false, reduceCtorEq, Nat.reduceAdd, Nat.reduceMul, Nat.reduceSub, Nat.reduceBEq, Nat.reduceBNe, Int.reduceLE, Int.reduceLT, Int.reduceNeg, Int.reduceAdd, Int.reduceSub, Int.reduceMul, Int.reduceToNat, Int.reduceEq, ite_true, ite_false]; with_reducible rfl)))
      refine RunK.regCut (cfg_ok 42) Tab.none 2 (s1 := ?_) ?_ ?_
      rotate_left 1
      focus (refine Work.mk ?_; simp only [Zg, Nat.reduceEqDiff, Nat.reduceLT, Nat.reduceLeDiff, reduceIte, if_true, if_false, reduceCtorEq, Nat.reduceAdd, Nat.reduceMul, Nat.reduceSub, Nat.reduceBEq, Nat.reduceBNe, Int.reduceLE, Int.reduceLT, Int.reduceNeg, Int.reduceAdd, Int.reduceSub, Int.reduceMul, Int.reduceToNat, Int.reduceEq, ite_true, ite_false]; with_reducible rfl)
      simp only [List.toList_toArray, List.drop_succ_cons, List.drop_zero]
      refine ROps.trunc (cfg_ok 42) (x := .tmp 39) (hi := .tmp 40) (t := 24) (i := ⟨54, [.int 0, .sl 1 []], 32⟩) (d := 41) (key := 0) (m := xs.length) (n := c) rfl rfl rfl (by decide) rfl rfl rfl rfl (by simp [hL]; omega) (fun q u hq hu => ?_) ?_
      · simp only [look] at hu
        split at hu
        · rename_i e; exact absurd e.symm hq
        · cases hu
      · have ht2 : (L.take c ++ List.replicate (xs.length - c) [D.int 0, D.sl 1 []]).take c = (keepF p xs).map e := by
          rw [List.take_append_of_le_length (by rw [List.length_take]; omega), List.take_take, Nat.min_self, htk]
        rw [ht2]
        refine ROps.opsT (cfg_ok 42) (T := Tab.none) (s' := ?_) ?_ ?_
        rotate_left 1
        focus (simp only [Zg, Nat.reduceEqDiff, Nat.reduceLT, Nat.reduceLeDiff, reduceIte, if_true, if_false, reduceCtorEq, Nat.reduceAdd, Nat.reduceMul, Nat.reduceSub, Nat.reduceBEq, Nat.reduceBNe, Int.reduceLE, Int.reduceLT, Int.reduceNeg, Int.reduceAdd, Int.reduceSub, Int.reduceMul, Int.reduceToNat, Int.reduceEq, ite_true, ite_false]; with_reducible rfl)
        repeat' (first | with_reducible (first | refine Q1 ?_ | refine Q2 ?_ | refine Q3 ?_ | refine Q4 ?_ | refine Q5 ?_ | refine Q6 ?_ | refine Q7 ?_ | refine Q8 ?_ | refine Q9 ?_ | refine Qa ?_ | refine Qb ?_ | refine Qc ?_ | refine Qd ?_ | refine Qe ?_ | refine Qf ?_) | ((with_reducible refine Qo ?_ ?_); focus rfl) | ((with_reducible first | refine QT 8 (l := ?_) ?_ ?_ | refine QF 8 (l := ?_) ?_ ?_); rotate_left 1; focus (simp only [Zu, Nat.reduceSub, Nat.reduceBEq]; with_reducible rfl)) | ((with_reducible first | refine QS (cfg_ok 42) Tab.none (s' := ?_) ?_ ?_ | refine QC (b := ?_) ?_ ?_); rotate_left 1; focus ((with_reducible refine QW ?_); simp only [Zg, Nat.reduceEqDiff, Nat.reduceLT, Nat.reduceLeDiff, reduceIte, if_true, if_false, reduceCtorEq, Nat.reduceAdd, Nat.reduceMul, Nat.reduceSub, Nat.reduceBEq, Nat.reduceBNe, Int.reduceLE, Int.reduceLT, Int.reduceNeg, Int.reduceAdd, Int.reduceSub, Int.reduceMul, Int.reduceToNat, Int.reduceEq, ite_true, ite_false]; with_reducible rfl)))
        (refine Ends.mk (by simp) (rs := ?_) (ks := ?_) hres hrts ?_ ?_ ?_; rotate_left 2; (focus (simp only [Ze, Zg, Nat.reduceEqDiff, Nat.reduceLT, Nat.reduceLeDiff, reduceIte, if_true, if_false, reduceCtorEq, Nat.reduceAdd, Nat.reduceMul, Nat.reduceSub, Nat.reduceBEq, Nat.reduceBNe, Int.reduceLE, Int.reduceLT, Int.reduceNeg, Int.reduceAdd, Int.reduceSub, Int.reduceMul, Int.reduceToNat, Int.reduceEq, ite_true, ite_false]; with_reducible rfl)); (focus simp); focus (first | with_reducible rfl | (simp only [Zv]; done)))
end Go.Proofs.YtacbkjmkjpjhoaaGreat
