/- Lemmas (9). -/
import Derived.Test.YtacbkjmkjpjhoaaGreatZA4
import Derived.Test.YtacbkjmkjpjhoaaGreatZA6
import Derived.Test.YtacbkjmkjpjhoaaGreatZA7
import Derived.Test.YtacbkjmkjpjhoaaGreatZA8
set_option linter.unusedSimpArgs false
set_option linter.unusedVariables false
namespace Go.Proofs.YtacbkjmkjpjhoaaGreat
open Go.RowKit
set_option maxHeartbeats 2000000 in
theorem a_IndexFuncPt {α : Type} (e : α → List D) (d : α → D) (c0 : α → Int) (f : α → List (List Int)) (p : α → Bool) (g : FuncId) (he : ∀ x, e x = [.int (c0 x), d x]) (hun : ∀ x, (d x).un = .sl 1 ((f x).map eL)) (hp : ∀ x, AFn Tryz.prog g [[.int (c0 x), .sl 1 ((f x).map eL)]] (· = [.val (.bool (p x))])) (xs : List α) (hl : xs.length ≤ 1000000000) :
    AFn Tryz.prog 152 [[.sl 2 (xs.map e)], [.raw (.func (.func g) #[] #[])]] (· = [.val (.int (idxI (fIdx p xs)))]) := by
  refine AFn.of_runs (cfg_ok 19) Tryz.func152 rfl rfl rfl (by simp only [List.length_cons, List.length_nil]; decide) ?_
  have hres : Tryz.f152.results.toList = [.tmp 4] := rfl
  have hrts : Tryz.f152.resultTypes.toList = [3] := rfl
  simp only [argRegs, argAV1, eL, eI, eLL, eB, Nat.zero_add, Nat.reduceAdd]
  intro M
  refine RunK.of ?_
  have hle : (xs.map e).length = xs.length := by simp
  repeat' (first | with_reducible (first | refine Q1 ?_ | refine Q2 ?_ | refine Q3 ?_ | refine Q4 ?_ | refine Q5 ?_ | refine Q6 ?_ | refine Q7 ?_ | refine Q8 ?_ | refine Q9 ?_ | refine Qa ?_ | refine Qb ?_ | refine Qc ?_ | refine Qd ?_ | refine Qe ?_ | refine Qf ?_) | ((with_reducible refine Qo ?_ ?_); focus rfl) | ((with_reducible first | refine QT 9 (l := ?_) ?_ ?_ | refine QF 9 (l := ?_) ?_ ?_); rotate_left 1; focus (simp only [Zu, Nat.reduceSub, Nat.reduceBEq]; with_reducible rfl)) | ((with_reducible first | refine QS (cfg_ok 19) Tab.none (s' := ?_) ?_ ?_ | refine QC (b := ?_) ?_ ?_); rotate_left 1; focus ((with_reducible refine QW ?_); simp only [Zg, seval, if_true, if_false, reduceCtorEq, Nat.reduceEqDiff, hle]; with_reducible rfl)))
  refine RunK.loop (β := Nat) (γ := Unit) (fun i => ⟨[(0, .c (.val (.sl 2 (xs.map e)))), (1, .c (.val (.raw (.func (.func g) #[] #[])))), (7, .c (.val (.int xs.length))), (8, .c (.val (.int i)))], []⟩) (fun i => i ≤ xs.length ∧ ∀ x ∈ xs.take i, p x = false) (fun i => xs.length - i)
    (fun _ => ⟨[], []⟩) (fun _ => ∀ x ∈ xs, p x = false) 0 ⟨Nat.zero_le _, by simp⟩ ?_ ?_ ?_
  · (repeat' (first | with_reducible refine Qn | ((with_reducible refine Qr ?_ ?_); focus (first | with_reducible rfl | (simp only [Zz, Nat.reduceBEq]; done) | rfl)) | ((with_reducible refine Qj (o' := ?_) ?_ ?_ ?_); rotate_left 1; focus rfl) | ((with_reducible refine Qw ?_ ?_); (focus (first | with_reducible rfl | (simp only [Zv]; done))); focus (first | exact id | exact (fun h => nomatch h) | exact (fun _ => rfl)))))
  · rintro i ⟨hi, hlow⟩
    have hw := w64_succ (n := i) (by omega)
    by_cases h : i < xs.length
    · have hx := hp xs[i]
      have hj : (xs.map e)[i]? = some [.int (c0 xs[i]), d xs[i]] := by rw [map_get h, he]
      have i1 : ((i : Int) < (xs.length : Int)) = True := eq_true (by omega)
      have i2 : ((0 : Int) ≤ (i : Int)) = True := eq_true (by omega)
      by_cases hpx : p xs[i] = true
      · repeat' (first | with_reducible (first | refine Q1 ?_ | refine Q2 ?_ | refine Q3 ?_ | refine Q4 ?_ | refine Q5 ?_ | refine Q6 ?_ | refine Q7 ?_ | refine Q8 ?_ | refine Q9 ?_ | refine Qa ?_ | refine Qb ?_ | refine Qc ?_ | refine Qd ?_ | refine Qe ?_ | refine Qf ?_) | ((with_reducible refine Qo ?_ ?_); focus rfl) | ((with_reducible first | refine QT 9 (l := ?_) ?_ ?_ | refine QF 9 (l := ?_) ?_ ?_); rotate_left 1; focus (simp only [Zu, Nat.reduceSub, Nat.reduceBEq]; with_reducible rfl)) | ((with_reducible first | refine QS (cfg_ok 19) (Tab.none.at' g hx) (s' := ?_) ?_ ?_ | refine QC (b := ?_) ?_ ?_); rotate_left 1; focus ((with_reducible refine QW ?_); simp only [Zg, seval, if_true, if_false, reduceCtorEq, Nat.reduceEqDiff, hle, i1, i2, hj, hun, argV_un (hun _), cellD_un (hun _), hpx, hw, eL, Int.toNat_natCast]; with_reducible rfl)))
        refine roundK.ret ?_
        repeat' (first | with_reducible (first | refine Q1 ?_ | refine Q2 ?_ | refine Q3 ?_ | refine Q4 ?_ | refine Q5 ?_ | refine Q6 ?_ | refine Q7 ?_ | refine Q8 ?_ | refine Q9 ?_ | refine Qa ?_ | refine Qb ?_ | refine Qc ?_ | refine Qd ?_ | refine Qe ?_ | refine Qf ?_) | ((with_reducible refine Qo ?_ ?_); focus rfl) | ((with_reducible first | refine QT 9 (l := ?_) ?_ ?_ | refine QF 9 (l := ?_) ?_ ?_); rotate_left 1; focus (simp only [Zu, Nat.reduceSub, Nat.reduceBEq]; with_reducible rfl)) | ((with_reducible first | refine QS (cfg_ok 19) Tab.none (s' := ?_) ?_ ?_ | refine QC (b := ?_) ?_ ?_); rotate_left 1; focus ((with_reducible refine QW ?_); simp only [Zg, seval, if_true, if_false, reduceCtorEq, Nat.reduceEqDiff]; with_reducible rfl)))
        rw [fIdx_at h hpx hlow]
        (refine Ends.mk (by simp) (rs := ?_) (ks := ?_) hres hrts ?_ ?_ ?_; rotate_left 2; (focus (simp only [Ze, Zg, seval, if_true, if_false, reduceCtorEq, Nat.reduceEqDiff, idxI]; with_reducible rfl)); (focus simp); focus (first | with_reducible rfl | (simp only [Zv, idxI]; done)))
      · have hpx' : p xs[i] = false := by simpa using hpx
        repeat' (first | with_reducible (first | refine Q1 ?_ | refine Q2 ?_ | refine Q3 ?_ | refine Q4 ?_ | refine Q5 ?_ | refine Q6 ?_ | refine Q7 ?_ | refine Q8 ?_ | refine Q9 ?_ | refine Qa ?_ | refine Qb ?_ | refine Qc ?_ | refine Qd ?_ | refine Qe ?_ | refine Qf ?_) | ((with_reducible refine Qo ?_ ?_); focus rfl) | ((with_reducible first | refine QT 9 (l := ?_) ?_ ?_ | refine QF 9 (l := ?_) ?_ ?_); rotate_left 1; focus (simp only [Zu, Nat.reduceSub, Nat.reduceBEq]; with_reducible rfl)) | ((with_reducible first | refine QS (cfg_ok 19) (Tab.none.at' g hx) (s' := ?_) ?_ ?_ | refine QC (b := ?_) ?_ ?_); rotate_left 1; focus ((with_reducible refine QW ?_); simp only [Zg, seval, if_true, if_false, reduceCtorEq, Nat.reduceEqDiff, hle, i1, i2, hj, hun, argV_un (hun _), cellD_un (hun _), hpx', hw, eL, Int.toNat_natCast]; with_reducible rfl)))
        refine roundK.on (i + 1) ⟨⟨h, fun x hx => ?_⟩, by omega⟩ ?_
        · rw [List.take_succ_eq_append_getElem h, List.mem_append, List.mem_singleton] at hx
          rcases hx with hx | rfl
          · exact hlow x hx
          · exact hpx'
        · (repeat' (first | with_reducible refine Qn | ((with_reducible refine Qr ?_ ?_); focus (first | with_reducible rfl | (simp only [Zz, Nat.reduceBEq]; done) | rfl)) | ((with_reducible refine Qj (o' := ?_) ?_ ?_ ?_); rotate_left 1; focus rfl) | ((with_reducible refine Qw ?_ ?_); (focus (first | with_reducible rfl | (simp only [Zv]; done))); focus (first | exact id | exact (fun h => nomatch h) | exact (fun _ => rfl)))))
    · have i1 : ((i : Int) < (xs.length : Int)) = False := eq_false (by omega)
      repeat' (first | with_reducible (first | refine Q1 ?_ | refine Q2 ?_ | refine Q3 ?_ | refine Q4 ?_ | refine Q5 ?_ | refine Q6 ?_ | refine Q7 ?_ | refine Q8 ?_ | refine Q9 ?_ | refine Qa ?_ | refine Qb ?_ | refine Qc ?_ | refine Qd ?_ | refine Qe ?_ | refine Qf ?_) | ((with_reducible refine Qo ?_ ?_); focus rfl) | ((with_reducible first | refine QT 9 (l := ?_) ?_ ?_ | refine QF 9 (l := ?_) ?_ ?_); rotate_left 1; focus (simp only [Zu, Nat.reduceSub, Nat.reduceBEq]; with_reducible rfl)) | ((with_reducible first | refine QS (cfg_ok 19) Tab.none (s' := ?_) ?_ ?_ | refine QC (b := ?_) ?_ ?_); rotate_left 1; focus ((with_reducible refine QW ?_); simp only [Zg, seval, if_true, if_false, reduceCtorEq, Nat.reduceEqDiff, hle, i1]; with_reducible rfl)))
      refine roundK.out () (fun x hx => hlow x (by rw [List.take_of_length_le (by omega)]; exact hx)) ?_
      (repeat' (first | with_reducible refine Qn | ((with_reducible refine Qr ?_ ?_); focus (first | with_reducible rfl | (simp only [Zz, Nat.reduceBEq]; done) | rfl)) | ((with_reducible refine Qj (o' := ?_) ?_ ?_ ?_); rotate_left 1; focus rfl) | ((with_reducible refine Qw ?_ ?_); (focus (first | with_reducible rfl | (simp only [Zv]; done))); focus (first | exact id | exact (fun h => nomatch h) | exact (fun _ => rfl)))))
  · rintro _ hno
    repeat' (first | with_reducible (first | refine Q1 ?_ | refine Q2 ?_ | refine Q3 ?_ | refine Q4 ?_ | refine Q5 ?_ | refine Q6 ?_ | refine Q7 ?_ | refine Q8 ?_ | refine Q9 ?_ | refine Qa ?_ | refine Qb ?_ | refine Qc ?_ | refine Qd ?_ | refine Qe ?_ | refine Qf ?_) | ((with_reducible refine Qo ?_ ?_); focus rfl) | ((with_reducible first | refine QT 9 (l := ?_) ?_ ?_ | refine QF 9 (l := ?_) ?_ ?_); rotate_left 1; focus (simp only [Zu, Nat.reduceSub, Nat.reduceBEq]; with_reducible rfl)) | ((with_reducible first | refine QS (cfg_ok 19) Tab.none (s' := ?_) ?_ ?_ | refine QC (b := ?_) ?_ ?_); rotate_left 1; focus ((with_reducible refine QW ?_); simp only [Zg, seval, if_true, if_false, reduceCtorEq, Nat.reduceEqDiff]; with_reducible rfl)))
    rw [fIdx_none.2 hno]
    (refine Ends.mk (by simp) (rs := ?_) (ks := ?_) hres hrts ?_ ?_ ?_; rotate_left 2; (focus (simp only [Ze, Zg, seval, if_true, if_false, reduceCtorEq, Nat.reduceEqDiff, idxI]; with_reducible rfl)); (focus simp); focus (first | with_reducible rfl | (simp only [Zv, idxI]; done)))
set_option maxHeartbeats 4000000 in
theorem a_DeleteFuncPt {α : Type} (e : α → List D) (d : α → D) (c0 : α → Int) (f : α → List (List Int)) (p : α → Bool) (g : FuncId) (he : ∀ x, e x = [.int (c0 x), d x]) (hun : ∀ x, (d x).un = .sl 1 ((f x).map eL)) (hp : ∀ x, AFn Tryz.prog g [[.int (c0 x), .sl 1 ((f x).map eL)]] (· = [.val (.bool (p x))])) (xs : List α) (hl : xs.length ≤ 1000000000) :
    AOw Tryz.prog 105 [] 2 (xs.map e) [[.raw (.func (.func g) #[] #[])]] (· = [.own 2 ((keepF p xs).map e) false]) := by
  have hidx := a_IndexFuncPt e d c0 f p g he hun hp xs hl
  rcases hfi : fIdx p xs with _ | i0
  · rw [hfi] at hidx
    have hk : keepF p xs = xs := List.filter_eq_self.2 (fun x hx => by rw [fIdx_none.1 hfi x hx]; rfl)
    rw [hk]
    refine AOw.of_runs (cfg_ok 42) Tryz.func105 rfl rfl rfl (by simp only [List.length_cons, List.length_nil]; decide) ?_
    have hres : Tryz.f105.results.toList = [.tmp 4] := rfl
    have hrts : Tryz.f105.resultTypes.toList = [24] := rfl
    simp only [List.length_cons, List.length_nil, List.nil_append, List.cons_append, argRegs, argAV1, eL, eI, eLL, eB, Nat.zero_add, Nat.reduceAdd]
    intro M
    refine RunK.of ?_
    repeat' (first | with_reducible (first | refine Q1 ?_ | refine Q2 ?_ | refine Q3 ?_ | refine Q4 ?_ | refine Q5 ?_ | refine Q6 ?_ | refine Q7 ?_ | refine Q8 ?_ | refine Q9 ?_ | refine Qa ?_ | refine Qb ?_ | refine Qc ?_ | refine Qd ?_ | refine Qe ?_ | refine Qf ?_) | ((with_reducible refine Qo ?_ ?_); focus rfl) | ((with_reducible first | refine QT 8 (l := ?_) ?_ ?_ | refine QF 8 (l := ?_) ?_ ?_); rotate_left 1; focus (simp only [Zu, Nat.reduceSub, Nat.reduceBEq]; with_reducible rfl)) | ((with_reducible first | refine QS (cfg_ok 42) (Tab.none.at' 152 hidx) (s' := ?_) ?_ ?_ | refine QC (b := ?_) ?_ ?_); rotate_left 1; focus ((with_reducible refine QW ?_); simp only [Zg, seval, if_true, if_false, reduceCtorEq, Nat.reduceEqDiff, idxI]; with_reducible rfl)))
    (refine Ends.mk (by simp) (rs := ?_) (ks := ?_) hres hrts ?_ ?_ ?_; rotate_left 2; (focus (simp only [Ze, Zg, seval, if_true, if_false, reduceCtorEq, Nat.reduceEqDiff]; with_reducible rfl)); (focus simp); focus (first | with_reducible rfl | (simp only [Zv]; done)))
  · rw [hfi] at hidx
    obtain ⟨hi0, hpi, hlow⟩ := fIdx_some hfi
    refine AOw.of_runs (cfg_ok 42) Tryz.func105 rfl rfl rfl (by simp only [List.length_cons, List.length_nil]; decide) ?_
    have hres : Tryz.f105.results.toList = [.tmp 4] := rfl
    have hrts : Tryz.f105.resultTypes.toList = [24] := rfl
    simp only [List.length_cons, List.length_nil, List.nil_append, List.cons_append, argRegs, argAV1, eL, eI, eLL, eB, Nat.zero_add, Nat.reduceAdd]
    intro M
    refine RunK.of ?_
    have hne : ((i0 : Int) == -1) = false := beq_eq_false_iff_ne.2 (by omega)
    have hw0 := w64_succ (n := i0) (by omega)
    repeat' (first | with_reducible (first | refine Q1 ?_ | refine Q2 ?_ | refine Q3 ?_ | refine Q4 ?_ | refine Q5 ?_ | refine Q6 ?_ | refine Q7 ?_ | refine Q8 ?_ | refine Q9 ?_ | refine Qa ?_ | refine Qb ?_ | refine Qc ?_ | refine Qd ?_ | refine Qe ?_ | refine Qf ?_) | ((with_reducible refine Qo ?_ ?_); focus rfl) | ((with_reducible first | refine QT 8 (l := ?_) ?_ ?_ | refine QF 8 (l := ?_) ?_ ?_); rotate_left 1; focus (simp only [Zu, Nat.reduceSub, Nat.reduceBEq]; with_reducible rfl)) | ((with_reducible first | refine QS (cfg_ok 42) (Tab.none.at' 152 hidx) (s' := ?_) ?_ ?_ | refine QC (b := ?_) ?_ ?_); rotate_left 1; focus ((with_reducible refine QW ?_); simp only [Zg, seval, if_true, if_false, reduceCtorEq, Nat.reduceEqDiff, idxI, hne, hw0]; with_reducible rfl)))
    refine RunK.loop (β := Nat × List (List D)) (γ := List (List D)) (fun x => ⟨[(0, .c (.own 0 xs.length)), (1, .c (.val (.raw (.func (.func g) #[] #[])))), (5, .c (.val (.int (keepF p (xs.take x.1)).length))), (6, .c (.val (.int x.1)))], [(0, .row 2 x.2 false)]⟩)
      (fun x => x.1 ≤ xs.length ∧ x.2.length = xs.length ∧ (∀ r ∈ x.2, r.length = 2) ∧ x.2.take (keepF p (xs.take x.1)).length = (keepF p (xs.take x.1)).map e ∧ x.2.drop x.1 = (xs.drop x.1).map e) (fun x => xs.length - x.1)
      (fun L => ⟨[(0, .c (.own 0 xs.length)), (5, .c (.val (.int (keepF p xs).length)))], [(0, .row 2 L false)]⟩) (fun L => L.length = xs.length ∧ L.take (keepF p xs).length = (keepF p xs).map e) (i0 + 1, xs.map e) ⟨by omega, by simp, ?_, ?_, by rw [List.map_drop]⟩ ?_ ?_ ?_
    · intro r hr
      obtain ⟨x, _, rfl⟩ := List.mem_map.1 hr
      rw [he]; rfl
    · have h1 : keepF p (xs.take (i0 + 1)) = xs.take i0 := by
        rw [List.take_succ_eq_append_getElem hi0]
        unfold keepF
        rw [List.filter_append, List.filter_eq_self.2 (fun x hx => by rw [hlow x hx]; rfl)]
        simp [hpi]
      show (xs.map e).take (keepF p (xs.take (i0 + 1))).length = (keepF p (xs.take (i0 + 1))).map e
      rw [h1, ← List.map_take, List.length_take, Nat.min_eq_left (Nat.le_of_lt hi0)]
    · have h1 : (keepF p (xs.take (i0 + 1))).length = i0 := by
        rw [List.take_succ_eq_append_getElem hi0]
        unfold keepF
        rw [List.filter_append, List.filter_eq_self.2 (fun x hx => by rw [hlow x hx]; rfl)]
        simp [hpi]; omega
      (repeat' (first | with_reducible refine Qn | ((with_reducible refine Qr ?_ ?_); focus (first | with_reducible rfl | (simp only [Zz, Nat.reduceBEq, h1]; done) | rfl)) | ((with_reducible refine Qj (o' := ?_) ?_ ?_ ?_); rotate_left 1; focus rfl) | ((with_reducible refine Qw ?_ ?_); (focus (first | with_reducible rfl | (simp only [Zv, h1]; done))); focus (first | exact id | exact (fun h => nomatch h) | exact (fun _ => rfl)))))
    · rintro ⟨j, L⟩ ⟨hj, hL, hone, htk, hdr⟩
      have hj : j ≤ xs.length := hj
      have hL : L.length = xs.length := hL
      have htk : L.take (keepF p (xs.take j)).length = (keepF p (xs.take j)).map e := htk
      have hdr : L.drop j = (xs.drop j).map e := hdr
      have hw := w64_succ (n := j) (by omega)
      have hcl : (keepF p (xs.take j)).length ≤ j := by
        have := List.length_filter_le (fun x => !p x) (xs.take j)
        unfold keepF
        rw [List.length_take] at this
        omega
      have hwc := w64_succ (n := (keepF p (xs.take j)).length) (by omega)
      by_cases h : j < xs.length
      · have hx := hp xs[j]
        have hLj : L[j]? = some [.int (c0 xs[j]), d xs[j]] := by
          have : (L.drop j)[0]? = ((xs.drop j).map e)[0]? := by rw [hdr]
          rw [List.getElem?_drop, List.getElem?_map, List.getElem?_drop] at this
          simpa [h, he] using this
        have i1 : ((j : Int) < (xs.length : Int)) = True := eq_true (by omega)
        have i2 : ((0 : Int) ≤ (j : Int)) = True := eq_true (by omega)
        have hsucc : keepF p (xs.take (j + 1)) = if p xs[j] = true then keepF p (xs.take j) else keepF p (xs.take j) ++ [xs[j]] := by
          rw [List.take_succ_eq_append_getElem h]
          unfold keepF
          rw [List.filter_append]
          by_cases hpx : p xs[j] = true <;> simp [hpx]
        by_cases hpx : p xs[j] = true
        · rw [if_pos hpx] at hsucc
          repeat' (first | with_reducible (first | refine Q1 ?_ | refine Q2 ?_ | refine Q3 ?_ | refine Q4 ?_ | refine Q5 ?_ | refine Q6 ?_ | refine Q7 ?_ | refine Q8 ?_ | refine Q9 ?_ | refine Qa ?_ | refine Qb ?_ | refine Qc ?_ | refine Qd ?_ | refine Qe ?_ | refine Qf ?_) | ((with_reducible refine Qo ?_ ?_); focus rfl) | ((with_reducible first | refine QT 8 (l := ?_) ?_ ?_ | refine QF 8 (l := ?_) ?_ ?_); rotate_left 1; focus (simp only [Zu, Nat.reduceSub, Nat.reduceBEq]; with_reducible rfl)) | ((with_reducible first | refine QS (cfg_ok 42) (Tab.none.at' g hx) (s' := ?_) ?_ ?_ | refine QC (b := ?_) ?_ ?_); rotate_left 1; focus ((with_reducible refine QW ?_); simp only [Zg, seval, if_true, if_false, reduceCtorEq, Nat.reduceEqDiff, hL, i1, i2, hLj, hun, argV_un (hun _), cellD_un (hun _), hpx, hw, eL, Int.toNat_natCast]; with_reducible rfl)))
          refine roundK.on (j + 1, L) ⟨⟨h, hL, hone, ?_, ?_⟩, by show xs.length - (j + 1) < xs.length - j; omega⟩ ?_
          · rw [hsucc]; exact htk
          · show L.drop (j + 1) = (xs.drop (j + 1)).map e
            rw [← List.drop_drop, hdr, ← List.map_drop, List.drop_drop]
          · (repeat' (first | with_reducible refine Qn | ((with_reducible refine Qr ?_ ?_); focus (first | with_reducible rfl | (simp only [Zz, Nat.reduceBEq, hsucc]; done) | rfl)) | ((with_reducible refine Qj (o' := ?_) ?_ ?_ ?_); rotate_left 1; focus rfl) | ((with_reducible refine Qw ?_ ?_); (focus (first | with_reducible rfl | (simp only [Zv, hsucc]; done))); focus (first | exact id | exact (fun h => nomatch h) | exact (fun _ => rfl)))))
        · have hpx' : p xs[j] = false := by simpa using hpx
          rw [if_neg hpx] at hsucc
          obtain ⟨c, hc⟩ : ∃ c, c = (keepF p (xs.take j)).length := ⟨_, rfl⟩
          have hcs : (keepF p (xs.take (j + 1))).length = c + 1 := by rw [hsucc, hc]; simp
          rw [← hc] at hwc hcl htk
          have hcL : c < L.length := by omega
          obtain ⟨y, y2, hy⟩ : ∃ y y2, L[c] = [y, y2] := by
            have := hone L[c] (List.getElem_mem _)
            match L[c], this with
            | [y, y2], _ => exact ⟨y, y2, rfl⟩
          have hLc : L[c]? = some [y, y2] := by rw [List.getElem?_eq_getElem hcL, hy]
          have i3 : ((c : Int) < (xs.length : Int)) = True := eq_true (by omega)
          have i4 : ((0 : Int) ≤ (c : Int)) = True := eq_true (by omega)
          rw [← hc]
          repeat' (first | with_reducible (first | refine Q1 ?_ | refine Q2 ?_ | refine Q3 ?_ | refine Q4 ?_ | refine Q5 ?_ | refine Q6 ?_ | refine Q7 ?_ | refine Q8 ?_ | refine Q9 ?_ | refine Qa ?_ | refine Qb ?_ | refine Qc ?_ | refine Qd ?_ | refine Qe ?_ | refine Qf ?_) | ((with_reducible refine Qo ?_ ?_); focus rfl) | ((with_reducible first | refine QT 8 (l := ?_) ?_ ?_ | refine QF 8 (l := ?_) ?_ ?_); rotate_left 1; focus (simp only [Zu, Nat.reduceSub, Nat.reduceBEq]; with_reducible rfl)) | ((with_reducible first | refine QS (cfg_ok 42) (Tab.none.at' g hx) (s' := ?_) ?_ ?_ | refine QC (b := ?_) ?_ ?_); rotate_left 1; focus ((with_reducible refine QW ?_); simp only [Zg, seval, if_true, if_false, reduceCtorEq, Nat.reduceEqDiff, hL, i1, i2, i3, i4, hLj, hLc, hun, argV_un (hun _), cellD_un (hun _), hpx', hw, hwc, eL, Int.toNat_natCast]; with_reducible rfl)))
          refine roundK.on (j + 1, L.set c [.int (c0 xs[j]), d xs[j]]) ⟨⟨h, by simpa using hL, ?_, ?_, ?_⟩, by show xs.length - (j + 1) < xs.length - j; omega⟩ ?_
          · intro r hr
            rcases List.mem_or_eq_of_mem_set hr with hr | rfl
            · exact hone r hr
            · rfl
          · show (L.set c [.int (c0 xs[j]), d xs[j]]).take (keepF p (xs.take (j + 1))).length = (keepF p (xs.take (j + 1))).map e
            rw [hcs, hsucc, List.map_append, List.take_succ_eq_append_getElem (by simpa using hcL), List.take_set_of_le (Nat.le_refl _), htk]
            simp [he]
          · show (L.set c [.int (c0 xs[j]), d xs[j]]).drop (j + 1) = (xs.drop (j + 1)).map e
            rw [List.drop_set_of_lt (by omega), ← List.drop_drop, hdr, ← List.map_drop, List.drop_drop]
          · (repeat' (first | with_reducible refine Qn | ((with_reducible refine Qr ?_ ?_); focus (first | with_reducible rfl | (simp only [Zz, Nat.reduceBEq, hcs]; done) | rfl)) | ((with_reducible refine Qj (o' := ?_) ?_ ?_ ?_); rotate_left 1; focus rfl) | ((with_reducible refine Qw ?_ ?_); (focus (first | with_reducible rfl | (simp only [Zv, hcs]; done))); focus (first | exact id | exact (fun h => nomatch h) | exact (fun _ => rfl)))))
      · have i1 : ((j : Int) < (xs.length : Int)) = False := eq_false (by omega)
        have hall : xs.take j = xs := List.take_of_length_le (by omega)
        rw [hall] at htk ⊢
        repeat' (first | with_reducible (first | refine Q1 ?_ | refine Q2 ?_ | refine Q3 ?_ | refine Q4 ?_ | refine Q5 ?_ | refine Q6 ?_ | refine Q7 ?_ | refine Q8 ?_ | refine Q9 ?_ | refine Qa ?_ | refine Qb ?_ | refine Qc ?_ | refine Qd ?_ | refine Qe ?_ | refine Qf ?_) | ((with_reducible refine Qo ?_ ?_); focus rfl) | ((with_reducible first | refine QT 8 (l := ?_) ?_ ?_ | refine QF 8 (l := ?_) ?_ ?_); rotate_left 1; focus (simp only [Zu, Nat.reduceSub, Nat.reduceBEq]; with_reducible rfl)) | ((with_reducible first | refine QS (cfg_ok 42) Tab.none (s' := ?_) ?_ ?_ | refine QC (b := ?_) ?_ ?_); rotate_left 1; focus ((with_reducible refine QW ?_); simp only [Zg, seval, if_true, if_false, reduceCtorEq, Nat.reduceEqDiff, hL, i1]; with_reducible rfl)))
        refine roundK.out L ⟨hL, htk⟩ ?_
        (repeat' (first | with_reducible refine Qn | ((with_reducible refine Qr ?_ ?_); focus (first | with_reducible rfl | (simp only [Zz, Nat.reduceBEq]; done) | rfl)) | ((with_reducible refine Qj (o' := ?_) ?_ ?_ ?_); rotate_left 1; focus rfl) | ((with_reducible refine Qw ?_ ?_); (focus (first | with_reducible rfl | (simp only [Zv]; done))); focus (first | exact id | exact (fun h => nomatch h) | exact (fun _ => rfl)))))
    · rintro L ⟨hL, htk⟩
      have hcl : (keepF p xs).length ≤ xs.length := List.length_filter_le _ _
      obtain ⟨c, hc⟩ : ∃ c, c = (keepF p xs).length := ⟨_, rfl⟩
      rw [← hc] at htk hcl ⊢
      have i1 : ((c : Int) ≤ (xs.length : Int)) = True := eq_true (by omega)
      have i2 : ((0 : Int) ≤ (c : Int)) = True := eq_true (by omega)
      have i3 : ((xs.length : Int) ≤ (xs.length : Int)) = True := eq_true (by omega)
      have htn : ((xs.length : Int)).toNat = xs.length := Int.toNat_natCast _
      repeat' (first | with_reducible (first | refine Q1 ?_ | refine Q2 ?_ | refine Q3 ?_ | refine Q4 ?_ | refine Q5 ?_ | refine Q6 ?_ | refine Q7 ?_ | refine Q8 ?_ | refine Q9 ?_ | refine Qa ?_ | refine Qb ?_ | refine Qc ?_ | refine Qd ?_ | refine Qe ?_ | refine Qf ?_) | ((with_reducible refine Qo ?_ ?_); focus rfl) | ((with_reducible first | refine QT 8 (l := ?_) ?_ ?_ | refine QF 8 (l := ?_) ?_ ?_); rotate_left 1; focus (simp only [Zu, Nat.reduceSub, Nat.reduceBEq]; with_reducible rfl)) | ((with_reducible first | refine QS (cfg_ok 42) Tab.none (s' := ?_) ?_ ?_ | refine QC (b := ?_) ?_ ?_); rotate_left 1; focus ((with_reducible refine QW ?_); simp only [Zg, seval, if_true, if_false, reduceCtorEq, Nat.reduceEqDiff]; with_reducible rfl)))
      refine RunK.regCut (cfg_ok 42) Tab.none 3 (s1 := ?_) ?_ ?_
      rotate_left 1
      focus (refine Work.mk ?_; simp only [Zg, seval, if_true, if_false, reduceCtorEq, Nat.reduceEqDiff, hL, i1, i2, i3, Int.toNat_natCast]; with_reducible rfl)
      simp only [List.toList_toArray, List.drop_succ_cons, List.drop_zero]
      refine ROps.clear (cfg_ok 42) (x := .tmp 38) (t := 24) (i := ⟨54, [.int 0, .sl 1 []], 32⟩) (key := 0) (j := c) (m := xs.length - c) rfl rfl rfl rfl rfl rfl rfl (by rw [hL]; omega) ?_
      refine ROps.nil ?_
      repeat' (first | with_reducible (first | refine Q1 ?_ | refine Q2 ?_ | refine Q3 ?_ | refine Q4 ?_ | refine Q5 ?_ | refine Q6 ?_ | refine Q7 ?_ | refine Q8 ?_ | refine Q9 ?_ | refine Qa ?_ | refine Qb ?_ | refine Qc ?_ | refine Qd ?_ | refine Qe ?_ | refine Qf ?_) | ((with_reducible refine Qo ?_ ?_); focus rfl) | ((with_reducible first | refine QT 8 (l := ?_) ?_ ?_ | refine QF 8 (l := ?_) ?_ ?_); rotate_left 1; focus (simp only [Zu, Nat.reduceSub, Nat.reduceBEq]; with_reducible rfl)) | ((with_reducible first | refine QS (cfg_ok 42) Tab.none (s' := ?_) ?_ ?_ | refine QC (b := ?_) ?_ ?_); rotate_left 1; focus ((with_reducible refine QW ?_); simp only [Zg, seval, if_true, if_false, reduceCtorEq, Nat.reduceEqDiff]; with_reducible rfl)))
      refine RunK.regCut (cfg_ok 42) Tab.none 2 (s1 := ?_) ?_ ?_
      rotate_left 1
      focus (refine Work.mk ?_; simp only [Zg, seval, if_true, if_false, reduceCtorEq, Nat.reduceEqDiff]; with_reducible rfl)
      simp only [List.toList_toArray, List.drop_succ_cons, List.drop_zero]
      refine ROps.trunc (cfg_ok 42) (x := .tmp 39) (hi := .tmp 40) (t := 24) (i := ⟨54, [.int 0, .sl 1 []], 32⟩) (d := 41) (key := 0) (m := xs.length) (n := c) rfl rfl rfl (by decide) rfl rfl rfl rfl (by simp [hL]; omega) (fun q u hq hu => ?_) ?_
      · simp only [look] at hu
        split at hu
        · rename_i e; exact absurd e.symm hq
        · cases hu
      · have ht2 : (L.take c ++ List.replicate (xs.length - c) [D.int 0, D.sl 1 []]).take c = (keepF p xs).map e := by
          rw [List.take_append_of_le_length (by rw [List.length_take]; omega), List.take_take, Nat.min_self, htk]
        rw [ht2]
        refine ROps.opsT (cfg_ok 42) (T := Tab.none) (s' := ?_) ?_ ?_
        rotate_left 1
        focus (simp only [Zg, seval, if_true, if_false, reduceCtorEq, Nat.reduceEqDiff]; with_reducible rfl)
        repeat' (first | with_reducible (first | refine Q1 ?_ | refine Q2 ?_ | refine Q3 ?_ | refine Q4 ?_ | refine Q5 ?_ | refine Q6 ?_ | refine Q7 ?_ | refine Q8 ?_ | refine Q9 ?_ | refine Qa ?_ | refine Qb ?_ | refine Qc ?_ | refine Qd ?_ | refine Qe ?_ | refine Qf ?_) | ((with_reducible refine Qo ?_ ?_); focus rfl) | ((with_reducible first | refine QT 8 (l := ?_) ?_ ?_ | refine QF 8 (l := ?_) ?_ ?_); rotate_left 1; focus (simp only [Zu, Nat.reduceSub, Nat.reduceBEq]; with_reducible rfl)) | ((with_reducible first | refine QS (cfg_ok 42) Tab.none (s' := ?_) ?_ ?_ | refine QC (b := ?_) ?_ ?_); rotate_left 1; focus ((with_reducible refine QW ?_); simp only [Zg, seval, if_true, if_false, reduceCtorEq, Nat.reduceEqDiff]; with_reducible rfl)))
        (refine Ends.mk (by simp) (rs := ?_) (ks := ?_) hres hrts ?_ ?_ ?_; rotate_left 2; (focus (simp only [Ze, Zg, seval, if_true, if_false, reduceCtorEq, Nat.reduceEqDiff]; with_reducible rfl)); (focus simp); focus (first | with_reducible rfl | (simp only [Zv]; done)))
end Go.Proofs.YtacbkjmkjpjhoaaGreat
namespace Go.Proofs.YtacbkjmkjpjhoaaGreat
open Go.RowKit
theorem tmod_mP (n : Int) : ((n.tmod 10007) + 10007).tmod 10007 = mP n := by
  have h1 : n.tmod 10007 = if 0 ≤ n then n % 10007 else -((-n) % 10007) := by
    split
    · rename_i h; exact Int.tmod_eq_emod_of_nonneg h
    · rename_i h
      have := Int.neg_tmod (-n) 10007
      rw [Int.neg_neg] at this
      rw [this, Int.tmod_eq_emod_of_nonneg (by omega)]
  rw [h1]
  unfold mP
  split
  · rw [Int.tmod_eq_emod_of_nonneg (by omega)]; omega
  · rw [Int.tmod_eq_emod_of_nonneg (by omega)]; omega
theorem tmod_bd (n : Int) : -10007 < n.tmod 10007 ∧ n.tmod 10007 < 10007 := by
  have h1 : n.tmod 10007 = if 0 ≤ n then n % 10007 else -((-n) % 10007) := by
    split
    · rename_i h; exact Int.tmod_eq_emod_of_nonneg h
    · rename_i h
      have := Int.neg_tmod (-n) 10007
      rw [Int.neg_neg] at this
      rw [this, Int.tmod_eq_emod_of_nonneg (by omega)]
  rw [h1]; split <;> omega
theorem z10007 : ((10007 : Int) = 0) = False := eq_false (by decide)
theorem a_num (n : Int) : AFn Tryz.prog 75 [eI n] (· = [.val (.int (mP n))]) := by
  have hb := tmod_bd n
  have hw : w64 (n.tmod 10007 + 10007) = n.tmod 10007 + 10007 := w64_eq (by omega)
  rw [← tmod_mP n]
  refine AFn.of_runs (cfg_ok 7) Tryz.func75 rfl rfl rfl (by simp only [List.length_cons, List.length_nil]; decide) ?_
  have hres : Tryz.f75.results.toList = [.tmp 2] := rfl
  have hrts : Tryz.f75.resultTypes.toList = [2] := rfl
  simp only [argRegs, argAV1, eL, eI, eLL, eB, Nat.zero_add, Nat.reduceAdd]
  intro M
  refine RunK.of ?_
  repeat' (first | with_reducible (first | refine Q1 ?_ | refine Q2 ?_ | refine Q3 ?_ | refine Q4 ?_ | refine Q5 ?_ | refine Q6 ?_ | refine Q7 ?_ | refine Q8 ?_ | refine Q9 ?_ | refine Qa ?_ | refine Qb ?_ | refine Qc ?_ | refine Qd ?_ | refine Qe ?_ | refine Qf ?_) | ((with_reducible refine Qo ?_ ?_); focus rfl) | ((with_reducible first | refine QT 3 (l := ?_) ?_ ?_ | refine QF 3 (l := ?_) ?_ ?_); rotate_left 1; focus (simp only [Zu, Nat.reduceSub, Nat.reduceBEq]; with_reducible rfl)) | ((with_reducible first | refine QS (cfg_ok 7) Tab.none (s' := ?_) ?_ ?_ | refine QC (b := ?_) ?_ ?_); rotate_left 1; focus ((with_reducible refine QW ?_); simp only [Zg, seval, if_true, if_false, reduceCtorEq, Nat.reduceEqDiff, hw, z10007]; with_reducible rfl)))
  (refine Ends.mk (by simp) (rs := ?_) (ks := ?_) hres hrts ?_ ?_ ?_; rotate_left 2; (focus (simp only [Ze, Zg, seval, if_true, if_false, reduceCtorEq, Nat.reduceEqDiff]; with_reducible rfl)); (focus simp); focus (first | with_reducible rfl | (simp only [Zv]; done)))
theorem a_l01Mod (n : Int) : AFn Tryz.prog 71 [eI n] (· = [.val (.int (mP n))]) := by
  have hb := tmod_bd n
  have hw : w64 (n.tmod 10007 + 10007) = n.tmod 10007 + 10007 := w64_eq (by omega)
  rw [← tmod_mP n]
  refine AFn.of_runs (cfg_ok 7) Tryz.func71 rfl rfl rfl (by simp only [List.length_cons, List.length_nil]; decide) ?_
  have hres : Tryz.f71.results.toList = [.tmp 2] := rfl
  have hrts : Tryz.f71.resultTypes.toList = [2] := rfl
  simp only [argRegs, argAV1, eL, eI, eLL, eB, Nat.zero_add, Nat.reduceAdd]
  intro M
  refine RunK.of ?_
  repeat' (first | with_reducible (first | refine Q1 ?_ | refine Q2 ?_ | refine Q3 ?_ | refine Q4 ?_ | refine Q5 ?_ | refine Q6 ?_ | refine Q7 ?_ | refine Q8 ?_ | refine Q9 ?_ | refine Qa ?_ | refine Qb ?_ | refine Qc ?_ | refine Qd ?_ | refine Qe ?_ | refine Qf ?_) | ((with_reducible refine Qo ?_ ?_); focus rfl) | ((with_reducible first | refine QT 3 (l := ?_) ?_ ?_ | refine QF 3 (l := ?_) ?_ ?_); rotate_left 1; focus (simp only [Zu, Nat.reduceSub, Nat.reduceBEq]; with_reducible rfl)) | ((with_reducible first | refine QS (cfg_ok 7) Tab.none (s' := ?_) ?_ ?_ | refine QC (b := ?_) ?_ ?_); rotate_left 1; focus ((with_reducible refine QW ?_); simp only [Zg, seval, if_true, if_false, reduceCtorEq, Nat.reduceEqDiff, hw, z10007]; with_reducible rfl)))
  (refine Ends.mk (by simp) (rs := ?_) (ks := ?_) hres hrts ?_ ?_ ?_; rotate_left 2; (focus (simp only [Ze, Zg, seval, if_true, if_false, reduceCtorEq, Nat.reduceEqDiff]; with_reducible rfl)); (focus simp); focus (first | with_reducible rfl | (simp only [Zv]; done)))
noncomputable def TMod : Tab Tryz.prog := Tab.none.add 71 (tab1 codI fun n => some [.val (.int (mP n))]) (tab1_ok fun n rs h => by cases h; exact a_l01Mod n)
theorem a_l01Add (a b : Int) (h : -9223372036854775808 ≤ a + b ∧ a + b ≤ 9223372036854775807) : AFn Tryz.prog 110 [eI a, eI b] (· = [.val (.int (mP (a + b)))]) := by
  have hw := w64_eq h
  refine AFn.of_runs (cfg_ok 9) Tryz.func110 rfl rfl rfl (by simp only [List.length_cons, List.length_nil]; decide) ?_
  have hres : Tryz.f110.results.toList = [.tmp 4] := rfl
  have hrts : Tryz.f110.resultTypes.toList = [2] := rfl
  simp only [argRegs, argAV1, eL, eI, eLL, eB, Nat.zero_add, Nat.reduceAdd]
  intro M
  refine RunK.of ?_
  repeat' (first | with_reducible (first | refine Q1 ?_ | refine Q2 ?_ | refine Q3 ?_ | refine Q4 ?_ | refine Q5 ?_ | refine Q6 ?_ | refine Q7 ?_ | refine Q8 ?_ | refine Q9 ?_ | refine Qa ?_ | refine Qb ?_ | refine Qc ?_ | refine Qd ?_ | refine Qe ?_ | refine Qf ?_) | ((with_reducible refine Qo ?_ ?_); focus rfl) | ((with_reducible first | refine QT 5 (l := ?_) ?_ ?_ | refine QF 5 (l := ?_) ?_ ?_); rotate_left 1; focus (simp only [Zu, Nat.reduceSub, Nat.reduceBEq]; with_reducible rfl)) | ((with_reducible first | refine QS (cfg_ok 9) TMod (s' := ?_) ?_ ?_ | refine QC (b := ?_) ?_ ?_); rotate_left 1; focus ((with_reducible refine QW ?_); simp only [Zg, seval, if_true, if_false, reduceCtorEq, Nat.reduceEqDiff, TMod, hw]; with_reducible rfl)))
  (refine Ends.mk (by simp) (rs := ?_) (ks := ?_) hres hrts ?_ ?_ ?_; rotate_left 2; (focus (simp only [Ze, Zg, seval, if_true, if_false, reduceCtorEq, Nat.reduceEqDiff]; with_reducible rfl)); (focus simp); focus (first | with_reducible rfl | (simp only [Zv]; done)))
theorem a_l01Mul (a b : Int) (h : -9223372036854775808 ≤ a * b ∧ a * b ≤ 9223372036854775807) : AFn Tryz.prog 70 [eI a, eI b] (· = [.val (.int (mP (a * b)))]) := by
  have hw := w64_eq h
  refine AFn.of_runs (cfg_ok 9) Tryz.func70 rfl rfl rfl (by simp only [List.length_cons, List.length_nil]; decide) ?_
  have hres : Tryz.f70.results.toList = [.tmp 4] := rfl
  have hrts : Tryz.f70.resultTypes.toList = [2] := rfl
  simp only [argRegs, argAV1, eL, eI, eLL, eB, Nat.zero_add, Nat.reduceAdd]
  intro M
  refine RunK.of ?_
  repeat' (first | with_reducible (first | refine Q1 ?_ | refine Q2 ?_ | refine Q3 ?_ | refine Q4 ?_ | refine Q5 ?_ | refine Q6 ?_ | refine Q7 ?_ | refine Q8 ?_ | refine Q9 ?_ | refine Qa ?_ | refine Qb ?_ | refine Qc ?_ | refine Qd ?_ | refine Qe ?_ | refine Qf ?_) | ((with_reducible refine Qo ?_ ?_); focus rfl) | ((with_reducible first | refine QT 5 (l := ?_) ?_ ?_ | refine QF 5 (l := ?_) ?_ ?_); rotate_left 1; focus (simp only [Zu, Nat.reduceSub, Nat.reduceBEq]; with_reducible rfl)) | ((with_reducible first | refine QS (cfg_ok 9) TMod (s' := ?_) ?_ ?_ | refine QC (b := ?_) ?_ ?_); rotate_left 1; focus ((with_reducible refine QW ?_); simp only [Zg, seval, if_true, if_false, reduceCtorEq, Nat.reduceEqDiff, TMod, hw]; with_reducible rfl)))
  (refine Ends.mk (by simp) (rs := ?_) (ks := ?_) hres hrts ?_ ?_ ?_; rotate_left 2; (focus (simp only [Ze, Zg, seval, if_true, if_false, reduceCtorEq, Nat.reduceEqDiff]; with_reducible rfl)); (focus simp); focus (first | with_reducible rfl | (simp only [Zv]; done)))
end Go.Proofs.YtacbkjmkjpjhoaaGreat
namespace Go.Proofs.YtacbkjmkjpjhoaaGreat
abbrev Elt := List (Int × List (List Int))
def canT (t : List Int) : Bool := lev8 t && decide (canon t = t)
def okT (f : List (List Int)) (i : Nat) : Bool := canT (f.getD i []) && (decide (i = 0) || decide (cmpT (f.getD (i - 1) []) (f.getD i []) ≤ 0))
def forB (f : List (List Int)) : Bool := decide (sumLen f ≤ 8) && (List.range f.length).all (okT f)
def okP (e : Elt) (i : Nat) : Bool :=
  decide (1 ≤ (e.getD i (0, [])).1) && decide ((e.getD i (0, [])).1 < 10007) && forB (e.getD i (0, [])).2 && (decide (i = 0) || decide (cmpF (e.getD (i - 1) (0, [])).2 (e.getD i (0, [])).2 < 0))
def elB (e : Elt) : Bool := decide (e.length ≤ 300) && (List.range e.length).all (okP e)
theorem all_range {n : Nat} {p : Nat → Bool} : (List.range n).all p = true ↔ ∀ i < n, p i = true := by
  rw [List.all_eq_true]
  exact ⟨fun h i hi => h i (List.mem_range.2 hi), fun h i hi => h i (List.mem_range.1 hi)⟩
theorem all_range_no {n i : Nat} {p : Nat → Bool} (hi : i < n) (h : p i = false) : (List.range n).all p = false := by
  rcases hq : (List.range n).all p with _ | _
  · rfl
  · rw [all_range.1 hq i hi] at h; cases h
theorem adj_pairwise {α : Type} {r : α → α → Prop} (ht : ∀ a b d, r a b → r b d → r a d) : ∀ {l : List α}, (∀ i (h : i + 1 < l.length), r l[i] l[i + 1]) → l.Pairwise r
  | [], _ => List.Pairwise.nil
  | [a], _ => List.pairwise_singleton _ _
  | a :: b :: l, h => by
    have ih := adj_pairwise ht (l := b :: l) (fun i hi => h (i + 1) (by simp at hi ⊢; omega))
    refine List.pairwise_cons.2 ⟨fun x hx => ?_, ih⟩
    have h0 : r a b := h 0 (by simp)
    rcases List.mem_cons.1 hx with rfl | hx
    · exact h0
    · exact ht a b x h0 ((List.pairwise_cons.1 ih).1 x hx)
theorem getD_at {α : Type} {l : List α} {d : α} {i : Nat} (h : i < l.length) : l.getD i d = l[i] := by
  rw [List.getD_eq_getElem?_getD, List.getElem?_eq_getElem h]; rfl
theorem forB_spec {f : List (List Int)} (h : forB f = true) : sumLen f ≤ 8 ∧ (∀ t ∈ f, canT t = true) ∧ f.Pairwise fun a b => cmpT a b ≤ 0 := by
  unfold forB at h
  rw [Bool.and_eq_true, all_range] at h
  refine ⟨of_decide_eq_true h.1, fun t ht => ?_, adj_pairwise (fun a b d => cmpT_cmp.trans a b d) (fun i hi => ?_)⟩
  · obtain ⟨i, hi, rfl⟩ := List.getElem_of_mem ht
    have := h.2 i hi
    unfold okT at this
    rw [Bool.and_eq_true, getD_at hi] at this
    exact this.1
  · have := h.2 (i + 1) hi
    unfold okT at this
    rw [Bool.and_eq_true, Bool.or_eq_true, getD_at hi, Nat.add_sub_cancel, getD_at (show i < f.length by omega)] at this
    rcases this.2 with h1 | h1
    · have := of_decide_eq_true h1; omega
    · exact of_decide_eq_true h1
theorem elB_spec {e : Elt} (h : elB e = true) : e.length ≤ 300 ∧ NfS cmpF e ∧ SrtF e ∧ ∀ p ∈ e, forB p.2 = true := by
  unfold elB at h
  rw [Bool.and_eq_true, all_range] at h
  have hall : ∀ p ∈ e, (1 ≤ p.1 ∧ p.1 < 10007) ∧ forB p.2 = true := fun p hp => by
    obtain ⟨i, hi, rfl⟩ := List.getElem_of_mem hp
    have := h.2 i hi
    unfold okP at this
    rw [getD_at hi] at this
    simp only [Bool.and_eq_true, decide_eq_true_eq] at this
    exact ⟨this.1.1, this.1.2⟩
  refine ⟨of_decide_eq_true h.1, ⟨adj_pairwise (r := fun p q : Int × List (List Int) => cmpF p.2 q.2 < 0) (fun a b d h1 h2 => cmpF_cmp.lt_tr h1 h2) (fun i hi => ?_), fun p hp => (hall p hp).1⟩, fun p hp => (forB_spec (hall p hp).2).2.2, fun p hp => (hall p hp).2⟩
  have := h.2 (i + 1) hi
  unfold okP at this
  rw [getD_at hi, Nat.add_sub_cancel, getD_at (show i < e.length by omega)] at this
  simp only [Bool.and_eq_true, Bool.or_eq_true, decide_eq_true_eq] at this
  rcases this.2 with h1 | h1
  · omega
  · exact h1
theorem putS_skip {κ : Type} {c : κ → κ → Int} {k : Int} {x : κ} (hk : k ≠ 0) (M : List (Int × κ)) : ∀ {L : List (Int × κ)}, (∀ q ∈ L, 0 < c x q.2) → putS c (L ++ M) k x = L ++ putS c M k x
  | [], _ => rfl
  | (a, y) :: L, h => by
    have h0 : 0 < c x y := h (a, y) (by simp)
    show putS c ((a, y) :: (L ++ M)) k x = _
    conv => lhs; unfold putS
    rw [if_neg hk, if_neg (by omega), if_neg (by omega), putS_skip hk M (fun q hq => h q (by simp [hq]))]
    rfl
theorem putS_zero {κ : Type} {c : κ → κ → Int} {x : κ} (L : List (Int × κ)) : putS c L 0 x = L := by
  cases L <;> simp [putS]
def degE (e : Elt) : Int := match e.getLast? with
  | none => -1
  | some p => sumLen p.2
def limS (L : Elt) : Elt × Int := if L.length ≤ 300 ∧ ∀ p ∈ L, sumLen p.2 ≤ 8 then (L, 0) else ([], 3)
def addOf (d e : Elt) : Elt × Int := if (elB d && elB e) = true then limS (sumS cmpF (d ++ e)) else ([], 1)
def timOf (d e : Elt) : Elt × Int := if (elB d && elB e) = true then limS (sumS cmpF (prodL d e)) else ([], 1)
def rotOf (e : Elt) : Elt × Int := if elB e = true then limS (sumS cmpF (e.map fun p => (p.1, [canon (rootOn p.2)]))) else ([], 1)
end Go.Proofs.YtacbkjmkjpjhoaaGreat
namespace Go.Proofs.YtacbkjmkjpjhoaaGreat
open Go.RowKit
theorem forB_tree' {f : List (List Int)} (h : forB f = true) : (∀ t ∈ f, 1 ≤ t.length) ∧ sumLen f ≤ 8 := by
  obtain ⟨h1, h2, _⟩ := forB_spec h
  refine ⟨fun t ht => ?_, h1⟩
  have := h2 t ht
  unfold canT at this
  rw [Bool.and_eq_true] at this
  exact (lev8_lev this.1).pos
theorem len_le_sum1 : ∀ f : List (List Int), (∀ t ∈ f, 1 ≤ t.length) → f.length ≤ sumLen f
  | [], _ => by simp
  | b :: bs, h => by
    have ih := len_le_sum1 bs (fun c hc => h c (by simp [hc]))
    have := h b (by simp)
    simp only [sumLen, List.map_cons, List.sum_cons, List.length_cons] at ih ⊢
    omega
theorem forB_short {f : List (List Int)} (h : forB f = true) : f.length ≤ 8 := by
  obtain ⟨h1, h2⟩ := forB_tree' h
  have := len_le_sum1 f h1
  omega
end Go.Proofs.YtacbkjmkjpjhoaaGreat
namespace Go.Proofs.YtacbkjmkjpjhoaaGreat
open Go.RowKit
theorem a_impl_IsTree (t : List Int) : AFn Tryz.prog 135 [eL t] (· = [.val (.bool (canT t))]) := by
  have h1 := a_impl_IsLevels t
  unfold canT
  cases h8 : lev8 t
  · rw [h8] at h1
    rw [Bool.false_and]
    refine AFn.of_runs (cfg_ok 11) Tryz.func135 rfl rfl rfl (by simp only [List.length_cons, List.length_nil]; decide) ?_
    have hres : Tryz.f135.results.toList = [.tmp 2] := rfl
    have hrts : Tryz.f135.resultTypes.toList = [4] := rfl
    simp only [argRegs, argAV1, eL, eI, eLL, eB, Nat.zero_add, Nat.reduceAdd]
    intro M
    refine RunK.of ?_
    repeat' (first | with_reducible (first | refine Q1 ?_ | refine Q2 ?_ | refine Q3 ?_ | refine Q4 ?_ | refine Q5 ?_ | refine Q6 ?_ | refine Q7 ?_ | refine Q8 ?_ | refine Q9 ?_ | refine Qa ?_ | refine Qb ?_ | refine Qc ?_ | refine Qd ?_ | refine Qe ?_ | refine Qf ?_) | ((with_reducible refine Qo ?_ ?_); focus rfl) | ((with_reducible first | refine QT 3 (l := ?_) ?_ ?_ | refine QF 3 (l := ?_) ?_ ?_); rotate_left 1; focus (simp only [Zu, Nat.reduceSub, Nat.reduceBEq]; with_reducible rfl)) | ((with_reducible first | refine QS (cfg_ok 11) (Tab.none.at' 89 h1) (s' := ?_) ?_ ?_ | refine QC (b := ?_) ?_ ?_); rotate_left 1; focus ((with_reducible refine QW ?_); simp only [Zg, seval, if_true, if_false, reduceCtorEq, Nat.reduceEqDiff, eL]; with_reducible rfl)))
    (refine Ends.mk (by simp) (rs := ?_) (ks := ?_) hres hrts ?_ ?_ ?_; rotate_left 2; (focus (simp only [Ze, Zg, seval, if_true, if_false, reduceCtorEq, Nat.reduceEqDiff]; with_reducible rfl)); (focus simp); focus (first | with_reducible rfl | (simp only [Zv]; done)))
  · rw [h8] at h1
    rw [Bool.true_and]
    have h2 := a_canonical t (lev8_lev h8) (lev8_len h8)
    have h3 := a_slicesEqual (canon t) t
    refine AFn.of_runs (cfg_ok 11) Tryz.func135 rfl rfl rfl (by simp only [List.length_cons, List.length_nil]; decide) ?_
    have hres : Tryz.f135.results.toList = [.tmp 2] := rfl
    have hrts : Tryz.f135.resultTypes.toList = [4] := rfl
    simp only [argRegs, argAV1, eL, eI, eLL, eB, Nat.zero_add, Nat.reduceAdd]
    intro M
    refine RunK.of ?_
    repeat' (first | with_reducible (first | refine Q1 ?_ | refine Q2 ?_ | refine Q3 ?_ | refine Q4 ?_ | refine Q5 ?_ | refine Q6 ?_ | refine Q7 ?_ | refine Q8 ?_ | refine Q9 ?_ | refine Qa ?_ | refine Qb ?_ | refine Qc ?_ | refine Qd ?_ | refine Qe ?_ | refine Qf ?_) | ((with_reducible refine Qo ?_ ?_); focus rfl) | ((with_reducible first | refine QT 3 (l := ?_) ?_ ?_ | refine QF 3 (l := ?_) ?_ ?_); rotate_left 1; focus (simp only [Zu, Nat.reduceSub, Nat.reduceBEq]; with_reducible rfl)) | ((with_reducible first | refine QS (cfg_ok 11) (((Tab.none.at' 89 h1).at' 61 h2).at' 180 h3) (s' := ?_) ?_ ?_ | refine QC (b := ?_) ?_ ?_); rotate_left 1; focus ((with_reducible refine QW ?_); simp only [Zg, seval, if_true, if_false, reduceCtorEq, Nat.reduceEqDiff, eL]; with_reducible rfl)))
    (refine Ends.mk (by simp) (rs := ?_) (ks := ?_) hres hrts ?_ ?_ ?_; rotate_left 2; (focus (simp only [Ze, Zg, seval, if_true, if_false, reduceCtorEq, Nat.reduceEqDiff]; with_reducible rfl)); (focus simp); focus (first | with_reducible rfl | (simp only [Zv]; done)))
theorem a_spec_IsTree (t : List Int) (hsz : t.length ≤ 1048576) : AFn Tryz.prog 146 [eL t] (· = [.val (.bool (canT t))]) := by
  have h1 := a_spec_l03Is t hsz
  unfold canT
  cases h8 : lev8 t
  · rw [h8] at h1
    rw [Bool.false_and]
    refine AFn.of_runs (cfg_ok 11) Tryz.func146 rfl rfl rfl (by simp only [List.length_cons, List.length_nil]; decide) ?_
    have hres : Tryz.f146.results.toList = [.tmp 2] := rfl
    have hrts : Tryz.f146.resultTypes.toList = [4] := rfl
    simp only [argRegs, argAV1, eL, eI, eLL, eB, Nat.zero_add, Nat.reduceAdd]
    intro M
    refine RunK.of ?_
    repeat' (first | with_reducible (first | refine Q1 ?_ | refine Q2 ?_ | refine Q3 ?_ | refine Q4 ?_ | refine Q5 ?_ | refine Q6 ?_ | refine Q7 ?_ | refine Q8 ?_ | refine Q9 ?_ | refine Qa ?_ | refine Qb ?_ | refine Qc ?_ | refine Qd ?_ | refine Qe ?_ | refine Qf ?_) | ((with_reducible refine Qo ?_ ?_); focus rfl) | ((with_reducible first | refine QT 3 (l := ?_) ?_ ?_ | refine QF 3 (l := ?_) ?_ ?_); rotate_left 1; focus (simp only [Zu, Nat.reduceSub, Nat.reduceBEq]; with_reducible rfl)) | ((with_reducible first | refine QS (cfg_ok 11) (Tab.none.at' 186 h1) (s' := ?_) ?_ ?_ | refine QC (b := ?_) ?_ ?_); rotate_left 1; focus ((with_reducible refine QW ?_); simp only [Zg, seval, if_true, if_false, reduceCtorEq, Nat.reduceEqDiff, eL]; with_reducible rfl)))
    (refine Ends.mk (by simp) (rs := ?_) (ks := ?_) hres hrts ?_ ?_ ?_; rotate_left 2; (focus (simp only [Ze, Zg, seval, if_true, if_false, reduceCtorEq, Nat.reduceEqDiff]; with_reducible rfl)); (focus simp); focus (first | with_reducible rfl | (simp only [Zv]; done)))
  · rw [h8] at h1
    rw [Bool.true_and]
    have h2 := a_l03Canon t (lev8_lev h8) (lev8_len h8)
    have h3 := a_l01Same (canon t) t
    refine AFn.of_runs (cfg_ok 11) Tryz.func146 rfl rfl rfl (by simp only [List.length_cons, List.length_nil]; decide) ?_
    have hres : Tryz.f146.results.toList = [.tmp 2] := rfl
    have hrts : Tryz.f146.resultTypes.toList = [4] := rfl
    simp only [argRegs, argAV1, eL, eI, eLL, eB, Nat.zero_add, Nat.reduceAdd]
    intro M
    refine RunK.of ?_
    repeat' (first | with_reducible (first | refine Q1 ?_ | refine Q2 ?_ | refine Q3 ?_ | refine Q4 ?_ | refine Q5 ?_ | refine Q6 ?_ | refine Q7 ?_ | refine Q8 ?_ | refine Q9 ?_ | refine Qa ?_ | refine Qb ?_ | refine Qc ?_ | refine Qd ?_ | refine Qe ?_ | refine Qf ?_) | ((with_reducible refine Qo ?_ ?_); focus rfl) | ((with_reducible first | refine QT 3 (l := ?_) ?_ ?_ | refine QF 3 (l := ?_) ?_ ?_); rotate_left 1; focus (simp only [Zu, Nat.reduceSub, Nat.reduceBEq]; with_reducible rfl)) | ((with_reducible first | refine QS (cfg_ok 11) (((Tab.none.at' 186 h1).at' 111 h2).at' 187 h3) (s' := ?_) ?_ ?_ | refine QC (b := ?_) ?_ ?_); rotate_left 1; focus ((with_reducible refine QW ?_); simp only [Zg, seval, if_true, if_false, reduceCtorEq, Nat.reduceEqDiff, eL]; with_reducible rfl)))
    (refine Ends.mk (by simp) (rs := ?_) (ks := ?_) hres hrts ?_ ?_ ?_; rotate_left 2; (focus (simp only [Ze, Zg, seval, if_true, if_false, reduceCtorEq, Nat.reduceEqDiff]; with_reducible rfl)); (focus simp); focus (first | with_reducible rfl | (simp only [Zv]; done)))
noncomputable def TFor : Tab Tryz.prog :=
  ((Tab.none.add 135 (tab1 codL fun t => some [.val (.bool (canT t))]) (tab1_ok fun t rs h => by cases h; exact a_impl_IsTree t)).add
    136 (tab2 codL codL fun xs ys => some [.val (.int (cmpT xs ys))]) (tab2_ok fun xs ys rs h => by cases h; exact a_compareTrees xs ys)).add
    88 (tab1 codLL fun f => some [.val (.int (nodesB f))]) (tab1_ok fun f rs h => by cases h; exact a_nodesIn f)
noncomputable def TForS : Tab Tryz.prog :=
  ((Tab.none.add 146 (tab1 codL fun t => if t.length ≤ 1048576 then some [.val (.bool (canT t))] else none) (tab1_ok fun t rs h => by split at h; cases h; exact a_spec_IsTree t ‹_›; cases h)).add
    147 (tab2 codL codL fun xs ys => some [.val (.bool (decide (cmpT xs ys < 0)))]) (tab2_ok fun xs ys rs h => by cases h; exact a_l03Before xs ys)).add
    98 (tab1 codLL fun f => some [.val (.int (nodesB f))]) (tab1_ok fun f rs h => by cases h; exact a_l03Nodes f)
theorem all_range_succ {n : Nat} {p : Nat → Bool} (h : (List.range n).all p = true) (h2 : p n = true) : (List.range (n + 1)).all p = true :=
  all_range.2 (fun i hi => by
    by_cases e : i = n
    · rw [e]; exact h2
    · exact all_range.1 h i (by omega))
set_option maxHeartbeats 4000000 in
theorem a_impl_IsForest (f : List (List Int)) (hsz : sumLen f ≤ 1000000000) (hln : f.length ≤ 1000000000) : AFn Tryz.prog 87 [eLL f] (· = [.val (.bool (forB f))]) := by
  have hn : nodesB f = sumLen f := nodesB_eq f (by omega)
  refine AFn.of_runs (cfg_ok 33) Tryz.func87 rfl rfl rfl (by simp only [List.length_cons, List.length_nil]; decide) ?_
  have hres : Tryz.f87.results.toList = [.tmp 2] := rfl
  have hrts : Tryz.f87.resultTypes.toList = [4] := rfl
  simp only [argRegs, argAV1, eL, eI, eLL, eB, Nat.zero_add, Nat.reduceAdd]
  intro M
  refine RunK.of ?_
  by_cases h8 : sumLen f ≤ 8
  · have i8 : ((sumLen f : Int) > 8) = False := eq_false (by omega)
    repeat' (first | with_reducible (first | refine Q1 ?_ | refine Q2 ?_ | refine Q3 ?_ | refine Q4 ?_ | refine Q5 ?_ | refine Q6 ?_ | refine Q7 ?_ | refine Q8 ?_ | refine Q9 ?_ | refine Qa ?_ | refine Qb ?_ | refine Qc ?_ | refine Qd ?_ | refine Qe ?_ | refine Qf ?_) | ((with_reducible refine Qo ?_ ?_); focus rfl) | ((with_reducible first | refine QT 11 (l := ?_) ?_ ?_ | refine QF 11 (l := ?_) ?_ ?_); rotate_left 1; focus (simp only [Zu, Nat.reduceSub, Nat.reduceBEq]; with_reducible rfl)) | ((with_reducible first | refine QS (cfg_ok 33) TFor (s' := ?_) ?_ ?_ | refine QC (b := ?_) ?_ ?_); rotate_left 1; focus ((with_reducible refine QW ?_); simp only [Zg, seval, if_true, if_false, reduceCtorEq, Nat.reduceEqDiff, TFor, hn, i8, eL]; with_reducible rfl)))
    refine RunK.loop (β := Nat) (γ := Unit) (fun i => ⟨[(0, .c (.val (.sl 1 (f.map eL)))), (8, .c (.val (.sl 1 (f.map eL)))), (9, .c (.val (.int f.length))), (10, .c (.val (.int i)))], []⟩) (fun i => i ≤ f.length ∧ (List.range i).all (okT f) = true) (fun i => f.length - i)
      (fun _ => ⟨[], []⟩) (fun _ => (List.range f.length).all (okT f) = true) 0 ⟨Nat.zero_le _, rfl⟩ ?_ ?_ ?_
    · (repeat' (first | with_reducible refine Qn | ((with_reducible refine Qr ?_ ?_); focus (first | with_reducible rfl | (simp only [Zz, Nat.reduceBEq]; done) | rfl)) | ((with_reducible refine Qj (o' := ?_) ?_ ?_ ?_); rotate_left 1; focus rfl) | ((with_reducible refine Qw ?_ ?_); (focus (first | with_reducible rfl | (simp only [Zv]; done))); focus (first | exact id | exact (fun h => nomatch h) | exact (fun _ => rfl)))))
    · rintro i ⟨hi, hall⟩
      have hw := w64_succ (n := i) (by omega)
      by_cases h : i < f.length
      · have i1 : ((i : Int) < (f.length : Int)) = True := eq_true (by omega)
        have i2 : ((0 : Int) ≤ (i : Int)) = True := eq_true (by omega)
        obtain ⟨t, ht⟩ : ∃ t, t = f[i] := ⟨_, rfl⟩
        have hg : (f.map eL)[i]? = some [.sl 1 (t.map eI)] := by rw [map_get h, ht]; rfl
        have hgd : f.getD i [] = t := by rw [getD_at h, ht]
        by_cases hc : canT t = true
        · by_cases h0 : i = 0
          · have j1 : ((i : Int) > 0) = False := eq_false (by omega)
            have hok : okT f i = true := by unfold okT; rw [hgd, hc, h0]; rfl
            repeat' (first | with_reducible (first | refine Q1 ?_ | refine Q2 ?_ | refine Q3 ?_ | refine Q4 ?_ | refine Q5 ?_ | refine Q6 ?_ | refine Q7 ?_ | refine Q8 ?_ | refine Q9 ?_ | refine Qa ?_ | refine Qb ?_ | refine Qc ?_ | refine Qd ?_ | refine Qe ?_ | refine Qf ?_) | ((with_reducible refine Qo ?_ ?_); focus rfl) | ((with_reducible first | refine QT 11 (l := ?_) ?_ ?_ | refine QF 11 (l := ?_) ?_ ?_); rotate_left 1; focus (simp only [Zu, Nat.reduceSub, Nat.reduceBEq]; with_reducible rfl)) | ((with_reducible first | refine QS (cfg_ok 33) TFor (s' := ?_) ?_ ?_ | refine QC (b := ?_) ?_ ?_); rotate_left 1; focus ((with_reducible refine QW ?_); simp only [Zg, seval, if_true, if_false, reduceCtorEq, Nat.reduceEqDiff, TFor, i1, i2, hg, hw, hc, j1, Int.toNat_natCast, List.length_map]; with_reducible rfl)))
            refine roundK.on (i + 1) ⟨⟨h, all_range_succ hall hok⟩, by omega⟩ ?_
            (repeat' (first | with_reducible refine Qn | ((with_reducible refine Qr ?_ ?_); focus (first | with_reducible rfl | (simp only [Zz, Nat.reduceBEq]; done) | rfl)) | ((with_reducible refine Qj (o' := ?_) ?_ ?_ ?_); rotate_left 1; focus rfl) | ((with_reducible refine Qw ?_ ?_); (focus (first | with_reducible rfl | (simp only [Zv]; done))); focus (first | exact id | exact (fun h => nomatch h) | exact (fun _ => rfl)))))
          · have j1 : ((i : Int) > 0) = True := eq_true (by omega)
            have hw1 : w64 ((i : Int) - 1) = ((i - 1 : Nat) : Int) := by rw [w64_eq (by omega)]; omega
            have i3 : ((0 : Int) ≤ ((i - 1 : Nat) : Int)) = True := eq_true (by omega)
            have i4 : (((i - 1 : Nat) : Int) < (f.length : Int)) = True := eq_true (by omega)
            obtain ⟨s, hs⟩ : ∃ s, s = f[i - 1] := ⟨_, rfl⟩
            have hgs : (f.map eL)[i - 1]? = some [.sl 1 (s.map eI)] := by rw [map_get (by omega), hs]; rfl
            have hgds : f.getD (i - 1) [] = s := by rw [getD_at (by omega), hs]
            by_cases hk : cmpT s t > 0
            · have hok : okT f i = false := by unfold okT; rw [hgd, hgds, hc, decide_eq_false h0, decide_eq_false (by omega)]; rfl
              have hB : forB f = false := by unfold forB; rw [all_range_no h hok, Bool.and_false]
              have k1 : (cmpT s t > 0) = True := eq_true hk
              rw [hB]
              repeat' (first | with_reducible (first | refine Q1 ?_ | refine Q2 ?_ | refine Q3 ?_ | refine Q4 ?_ | refine Q5 ?_ | refine Q6 ?_ | refine Q7 ?_ | refine Q8 ?_ | refine Q9 ?_ | refine Qa ?_ | refine Qb ?_ | refine Qc ?_ | refine Qd ?_ | refine Qe ?_ | refine Qf ?_) | ((with_reducible refine Qo ?_ ?_); focus rfl) | ((with_reducible first | refine QT 11 (l := ?_) ?_ ?_ | refine QF 11 (l := ?_) ?_ ?_); rotate_left 1; focus (simp only [Zu, Nat.reduceSub, Nat.reduceBEq]; with_reducible rfl)) | ((with_reducible first | refine QS (cfg_ok 33) TFor (s' := ?_) ?_ ?_ | refine QC (b := ?_) ?_ ?_); rotate_left 1; focus ((with_reducible refine QW ?_); simp only [Zg, seval, if_true, if_false, reduceCtorEq, Nat.reduceEqDiff, TFor, i1, i2, i3, i4, hg, hgs, hw, hw1, hc, j1, k1, Int.toNat_natCast, List.length_map]; with_reducible rfl)))
              refine roundK.ret ?_
              repeat' (first | with_reducible (first | refine Q1 ?_ | refine Q2 ?_ | refine Q3 ?_ | refine Q4 ?_ | refine Q5 ?_ | refine Q6 ?_ | refine Q7 ?_ | refine Q8 ?_ | refine Q9 ?_ | refine Qa ?_ | refine Qb ?_ | refine Qc ?_ | refine Qd ?_ | refine Qe ?_ | refine Qf ?_) | ((with_reducible refine Qo ?_ ?_); focus rfl) | ((with_reducible first | refine QT 11 (l := ?_) ?_ ?_ | refine QF 11 (l := ?_) ?_ ?_); rotate_left 1; focus (simp only [Zu, Nat.reduceSub, Nat.reduceBEq]; with_reducible rfl)) | ((with_reducible first | refine QS (cfg_ok 33) TFor (s' := ?_) ?_ ?_ | refine QC (b := ?_) ?_ ?_); rotate_left 1; focus ((with_reducible refine QW ?_); simp only [Zg, seval, if_true, if_false, reduceCtorEq, Nat.reduceEqDiff, TFor]; with_reducible rfl)))
              (refine Ends.mk (by simp) (rs := ?_) (ks := ?_) hres hrts ?_ ?_ ?_; rotate_left 2; (focus (simp only [Ze, Zg, seval, if_true, if_false, reduceCtorEq, Nat.reduceEqDiff]; with_reducible rfl)); (focus simp); focus (first | with_reducible rfl | (simp only [Zv]; done)))
            · have hok : okT f i = true := by unfold okT; rw [hgd, hgds, hc, decide_eq_true (show cmpT s t ≤ 0 by omega), Bool.or_true]; rfl
              have k1 : (cmpT s t > 0) = False := eq_false hk
              repeat' (first | with_reducible (first | refine Q1 ?_ | refine Q2 ?_ | refine Q3 ?_ | refine Q4 ?_ | refine Q5 ?_ | refine Q6 ?_ | refine Q7 ?_ | refine Q8 ?_ | refine Q9 ?_ | refine Qa ?_ | refine Qb ?_ | refine Qc ?_ | refine Qd ?_ | refine Qe ?_ | refine Qf ?_) | ((with_reducible refine Qo ?_ ?_); focus rfl) | ((with_reducible first | refine QT 11 (l := ?_) ?_ ?_ | refine QF 11 (l := ?_) ?_ ?_); rotate_left 1; focus (simp only [Zu, Nat.reduceSub, Nat.reduceBEq]; with_reducible rfl)) | ((with_reducible first | refine QS (cfg_ok 33) TFor (s' := ?_) ?_ ?_ | refine QC (b := ?_) ?_ ?_); rotate_left 1; focus ((with_reducible refine QW ?_); simp only [Zg, seval, if_true, if_false, reduceCtorEq, Nat.reduceEqDiff, TFor, i1, i2, i3, i4, hg, hgs, hw, hw1, hc, j1, k1, Int.toNat_natCast, List.length_map]; with_reducible rfl)))
              refine roundK.on (i + 1) ⟨⟨h, all_range_succ hall hok⟩, by omega⟩ ?_
              (repeat' (first | with_reducible refine Qn | ((with_reducible refine Qr ?_ ?_); focus (first | with_reducible rfl | (simp only [Zz, Nat.reduceBEq]; done) | rfl)) | ((with_reducible refine Qj (o' := ?_) ?_ ?_ ?_); rotate_left 1; focus rfl) | ((with_reducible refine Qw ?_ ?_); (focus (first | with_reducible rfl | (simp only [Zv]; done))); focus (first | exact id | exact (fun h => nomatch h) | exact (fun _ => rfl)))))
        · have hc : canT t = false := by simpa using hc
          have hok : okT f i = false := by unfold okT; rw [hgd, hc, Bool.false_and]
          have hB : forB f = false := by unfold forB; rw [all_range_no h hok, Bool.and_false]
          rw [hB]
          repeat' (first | with_reducible (first | refine Q1 ?_ | refine Q2 ?_ | refine Q3 ?_ | refine Q4 ?_ | refine Q5 ?_ | refine Q6 ?_ | refine Q7 ?_ | refine Q8 ?_ | refine Q9 ?_ | refine Qa ?_ | refine Qb ?_ | refine Qc ?_ | refine Qd ?_ | refine Qe ?_ | refine Qf ?_) | ((with_reducible refine Qo ?_ ?_); focus rfl) | ((with_reducible first | refine QT 11 (l := ?_) ?_ ?_ | refine QF 11 (l := ?_) ?_ ?_); rotate_left 1; focus (simp only [Zu, Nat.reduceSub, Nat.reduceBEq]; with_reducible rfl)) | ((with_reducible first | refine QS (cfg_ok 33) TFor (s' := ?_) ?_ ?_ | refine QC (b := ?_) ?_ ?_); rotate_left 1; focus ((with_reducible refine QW ?_); simp only [Zg, seval, if_true, if_false, reduceCtorEq, Nat.reduceEqDiff, TFor, i1, i2, hg, hw, hc, Int.toNat_natCast, List.length_map]; with_reducible rfl)))
          refine roundK.ret ?_
          repeat' (first | with_reducible (first | refine Q1 ?_ | refine Q2 ?_ | refine Q3 ?_ | refine Q4 ?_ | refine Q5 ?_ | refine Q6 ?_ | refine Q7 ?_ | refine Q8 ?_ | refine Q9 ?_ | refine Qa ?_ | refine Qb ?_ | refine Qc ?_ | refine Qd ?_ | refine Qe ?_ | refine Qf ?_) | ((with_reducible refine Qo ?_ ?_); focus rfl) | ((with_reducible first | refine QT 11 (l := ?_) ?_ ?_ | refine QF 11 (l := ?_) ?_ ?_); rotate_left 1; focus (simp only [Zu, Nat.reduceSub, Nat.reduceBEq]; with_reducible rfl)) | ((with_reducible first | refine QS (cfg_ok 33) TFor (s' := ?_) ?_ ?_ | refine QC (b := ?_) ?_ ?_); rotate_left 1; focus ((with_reducible refine QW ?_); simp only [Zg, seval, if_true, if_false, reduceCtorEq, Nat.reduceEqDiff, TFor]; with_reducible rfl)))
          (refine Ends.mk (by simp) (rs := ?_) (ks := ?_) hres hrts ?_ ?_ ?_; rotate_left 2; (focus (simp only [Ze, Zg, seval, if_true, if_false, reduceCtorEq, Nat.reduceEqDiff]; with_reducible rfl)); (focus simp); focus (first | with_reducible rfl | (simp only [Zv]; done)))
      · have i1 : ((i : Int) < (f.length : Int)) = False := eq_false (by omega)
        obtain rfl : i = f.length := by omega
        repeat' (first | with_reducible (first | refine Q1 ?_ | refine Q2 ?_ | refine Q3 ?_ | refine Q4 ?_ | refine Q5 ?_ | refine Q6 ?_ | refine Q7 ?_ | refine Q8 ?_ | refine Q9 ?_ | refine Qa ?_ | refine Qb ?_ | refine Qc ?_ | refine Qd ?_ | refine Qe ?_ | refine Qf ?_) | ((with_reducible refine Qo ?_ ?_); focus rfl) | ((with_reducible first | refine QT 11 (l := ?_) ?_ ?_ | refine QF 11 (l := ?_) ?_ ?_); rotate_left 1; focus (simp only [Zu, Nat.reduceSub, Nat.reduceBEq]; with_reducible rfl)) | ((with_reducible first | refine QS (cfg_ok 33) TFor (s' := ?_) ?_ ?_ | refine QC (b := ?_) ?_ ?_); rotate_left 1; focus ((with_reducible refine QW ?_); simp only [Zg, seval, if_true, if_false, reduceCtorEq, Nat.reduceEqDiff, TFor, i1]; with_reducible rfl)))
        refine roundK.out () hall ?_
        (repeat' (first | with_reducible refine Qn | ((with_reducible refine Qr ?_ ?_); focus (first | with_reducible rfl | (simp only [Zz, Nat.reduceBEq]; done) | rfl)) | ((with_reducible refine Qj (o' := ?_) ?_ ?_ ?_); rotate_left 1; focus rfl) | ((with_reducible refine Qw ?_ ?_); (focus (first | with_reducible rfl | (simp only [Zv]; done))); focus (first | exact id | exact (fun h => nomatch h) | exact (fun _ => rfl)))))
    · rintro _ hall
      have hB : forB f = true := by unfold forB; rw [hall, decide_eq_true h8]; rfl
      rw [hB]
      repeat' (first | with_reducible (first | refine Q1 ?_ | refine Q2 ?_ | refine Q3 ?_ | refine Q4 ?_ | refine Q5 ?_ | refine Q6 ?_ | refine Q7 ?_ | refine Q8 ?_ | refine Q9 ?_ | refine Qa ?_ | refine Qb ?_ | refine Qc ?_ | refine Qd ?_ | refine Qe ?_ | refine Qf ?_) | ((with_reducible refine Qo ?_ ?_); focus rfl) | ((with_reducible first | refine QT 11 (l := ?_) ?_ ?_ | refine QF 11 (l := ?_) ?_ ?_); rotate_left 1; focus (simp only [Zu, Nat.reduceSub, Nat.reduceBEq]; with_reducible rfl)) | ((with_reducible first | refine QS (cfg_ok 33) TFor (s' := ?_) ?_ ?_ | refine QC (b := ?_) ?_ ?_); rotate_left 1; focus ((with_reducible refine QW ?_); simp only [Zg, seval, if_true, if_false, reduceCtorEq, Nat.reduceEqDiff, TFor]; with_reducible rfl)))
      (refine Ends.mk (by simp) (rs := ?_) (ks := ?_) hres hrts ?_ ?_ ?_; rotate_left 2; (focus (simp only [Ze, Zg, seval, if_true, if_false, reduceCtorEq, Nat.reduceEqDiff]; with_reducible rfl)); (focus simp); focus (first | with_reducible rfl | (simp only [Zv]; done)))
  · have i8 : ((sumLen f : Int) > 8) = True := eq_true (by omega)
    have hB : forB f = false := by unfold forB; rw [decide_eq_false h8, Bool.false_and]
    rw [hB]
    repeat' (first | with_reducible (first | refine Q1 ?_ | refine Q2 ?_ | refine Q3 ?_ | refine Q4 ?_ | refine Q5 ?_ | refine Q6 ?_ | refine Q7 ?_ | refine Q8 ?_ | refine Q9 ?_ | refine Qa ?_ | refine Qb ?_ | refine Qc ?_ | refine Qd ?_ | refine Qe ?_ | refine Qf ?_) | ((with_reducible refine Qo ?_ ?_); focus rfl) | ((with_reducible first | refine QT 11 (l := ?_) ?_ ?_ | refine QF 11 (l := ?_) ?_ ?_); rotate_left 1; focus (simp only [Zu, Nat.reduceSub, Nat.reduceBEq]; with_reducible rfl)) | ((with_reducible first | refine QS (cfg_ok 33) TFor (s' := ?_) ?_ ?_ | refine QC (b := ?_) ?_ ?_); rotate_left 1; focus ((with_reducible refine QW ?_); simp only [Zg, seval, if_true, if_false, reduceCtorEq, Nat.reduceEqDiff, TFor, hn, i8, eL]; with_reducible rfl)))
    (refine Ends.mk (by simp) (rs := ?_) (ks := ?_) hres hrts ?_ ?_ ?_; rotate_left 2; (focus (simp only [Ze, Zg, seval, if_true, if_false, reduceCtorEq, Nat.reduceEqDiff]; with_reducible rfl)); (focus simp); focus (first | with_reducible rfl | (simp only [Zv]; done)))
end Go.Proofs.YtacbkjmkjpjhoaaGreat
