/- Lemmas (13). -/
import Derived.Test.YtkdkikmhlhcndaaZC7
import Derived.Test.YtkdkikmhlhcndaaZC12
set_option linter.unusedSimpArgs false
set_option linter.unusedVariables false
namespace Go.Proofs.Ytkdkikmhlhcndaa
open Go.RowKit
section
variable {P : Program} {cfg : Cfg} {M : Nat → Prop} {T : Tab P} {s s' : St} {fs : List Fr} {Q : Exit → St → Prop}
theorem RunK.regTag' (C : CfgOK P cfg) (T : Tab P) {id : Nat} {ops : Array Oper} (n key : Nat) {s1 : St} {k : Nat} {xs : List (List D)} (ha : aopsT cfg T ops (ops.toList.take n) s = some s1) (hk : look key s1.heap = some (.row k xs true))
    (h : ∀ xs' F, TagL xs xs' F → PlainL xs xs' → F.Nodup → (∀ b ∈ F, M b) → ROps P cfg M ops (ops.toList.drop n) (outK P cfg M fs Q .normal) ⟨s1.regs, insR key (.row k xs' false) s1.heap⟩) : RunK P cfg M (.region id ops false) fs Q s := by
  refine Runs.region ?_
  have e : ops.toList = ops.toList.take n ++ ops.toList.drop n := (List.take_append_drop n _).symm
  have cut : ∀ (l m : List Oper) (s : St), aopsT cfg T ops l s = some s1 → ROps P cfg M ops m (outK P cfg M fs Q .normal) s1 → ROps P cfg M ops (l ++ m) (outK P cfg M fs Q .normal) s := by
    intro l
    induction l with
    | nil => intro m s h1 h2; simp only [aopsT, Option.some.injEq] at h1; subst h1; exact h2
    | cons o l ih =>
      intro m s h1 h2
      simp only [aopsT] at h1
      obtain ⟨s2, h3, h4⟩ := bind_some h1
      exact ROps.stepT C h3 (ih m s2 h4 h2)
  rw [e]
  refine cut _ _ s ha ?_
  intro w0 Ok σ a w Q' hM hS hQ
  obtain ⟨xs', F, h1, h5, h2, h3, h4⟩ := Sim.tagO' hS hk
  exact h xs' F h1 h5 h2 (fun b hb => hM ▸ h3 b hb) w0 Ok σ a w Q' hM h4 hQ
end
theorem sub_flatC {α : Type} {l1 l2 : List (List α)} (h : l1.Sublist l2) : l1.flatten.Sublist l2.flatten := by
  induction h with
  | slnil => exact .slnil
  | cons a _ ih => rw [List.flatten_cons]; exact ih.trans (List.sublist_append_right _ _)
  | cons_cons a _ ih => rw [List.flatten_cons, List.flatten_cons]; exact List.Sublist.append (List.Sublist.refl _) ih
theorem a_notOne (f : List (List Int)) (t : List Int) (n : Int) : AFn Try.prog 54 [[.sl 1 (f.map eL), .sl 1 (t.map eI), .int n]] (· = [.val (.bool (notOne ((f, t), n)))]) := by
  refine AFn.of_runs (cfg_ok 13) Try.func54 rfl rfl rfl (by simp only [List.length_cons, List.length_nil]; decide) ?_
  have hres : Try.f54.results.toList = [.tmp 2] := rfl
  have hrts : Try.f54.resultTypes.toList = [4] := rfl
  simp only [argRegs, argAV1, eL, eI, eLL, eB, Nat.zero_add, Nat.reduceAdd]
  intro M
  refine RunK.of ?_
  by_cases h1 : f.length = 1
  · have i1 : ((f.length : Int) != 1) = false := by simp; omega
    by_cases h2 : t.length = 0
    · have i2 : ((t.length : Int) == 0) = true := beq_iff_eq.2 (by omega)
      have hn : notOne ((f, t), n) = true := by unfold notOne; simp [h1, h2]
      repeat' (first | with_reducible (first | refine Q1 ?_ | refine Q2 ?_ | refine Q3 ?_ | refine Q4 ?_ | refine Q5 ?_ | refine Q6 ?_ | refine Q7 ?_ | refine Q8 ?_ | refine Q9 ?_ | refine Qa ?_ | refine Qb ?_ | refine Qc ?_ | refine Qd ?_ | refine Qe ?_ | refine Qf ?_) | ((with_reducible refine Qo ?_ ?_); focus rfl) | ((with_reducible first | refine QT 3 (l := ?_) ?_ ?_ | refine QF 3 (l := ?_) ?_ ?_); rotate_left 1; focus (simp only [Zu, Nat.reduceSub, Nat.reduceBEq]; with_reducible rfl)) | ((with_reducible first | refine QS (cfg_ok 13) Tab.none (s' := ?_) ?_ ?_ | refine QC (b := ?_) ?_ ?_); rotate_left 1; focus ((with_reducible refine QW ?_); simp only [Zg, seval, if_true, if_false, reduceCtorEq, Nat.reduceEqDiff, i1, i2, List.length_map]; with_reducible rfl)))
      rw [hn]
      (refine Ends.mk (by simp) (rs := ?_) (ks := ?_) hres hrts ?_ ?_ ?_; rotate_left 2; (focus (simp only [Ze, Zg, seval, if_true, if_false, reduceCtorEq, Nat.reduceEqDiff]; with_reducible rfl)); (focus simp); focus (first | with_reducible rfl | (simp only [Zv]; done)))
    · have i2 : ((t.length : Int) == 0) = false := beq_eq_false_iff_ne.2 (by omega)
      have hn : notOne ((f, t), n) = false := by unfold notOne; simp [h1]; simpa using h2
      repeat' (first | with_reducible (first | refine Q1 ?_ | refine Q2 ?_ | refine Q3 ?_ | refine Q4 ?_ | refine Q5 ?_ | refine Q6 ?_ | refine Q7 ?_ | refine Q8 ?_ | refine Q9 ?_ | refine Qa ?_ | refine Qb ?_ | refine Qc ?_ | refine Qd ?_ | refine Qe ?_ | refine Qf ?_) | ((with_reducible refine Qo ?_ ?_); focus rfl) | ((with_reducible first | refine QT 3 (l := ?_) ?_ ?_ | refine QF 3 (l := ?_) ?_ ?_); rotate_left 1; focus (simp only [Zu, Nat.reduceSub, Nat.reduceBEq]; with_reducible rfl)) | ((with_reducible first | refine QS (cfg_ok 13) Tab.none (s' := ?_) ?_ ?_ | refine QC (b := ?_) ?_ ?_); rotate_left 1; focus ((with_reducible refine QW ?_); simp only [Zg, seval, if_true, if_false, reduceCtorEq, Nat.reduceEqDiff, i1, i2, List.length_map]; with_reducible rfl)))
      rw [hn]
      (refine Ends.mk (by simp) (rs := ?_) (ks := ?_) hres hrts ?_ ?_ ?_; rotate_left 2; (focus (simp only [Ze, Zg, seval, if_true, if_false, reduceCtorEq, Nat.reduceEqDiff]; with_reducible rfl)); (focus simp); focus (first | with_reducible rfl | (simp only [Zv]; done)))
  · have i1 : ((f.length : Int) != 1) = true := by simp; omega
    have hn : notOne ((f, t), n) = true := by unfold notOne; simp [h1]
    repeat' (first | with_reducible (first | refine Q1 ?_ | refine Q2 ?_ | refine Q3 ?_ | refine Q4 ?_ | refine Q5 ?_ | refine Q6 ?_ | refine Q7 ?_ | refine Q8 ?_ | refine Q9 ?_ | refine Qa ?_ | refine Qb ?_ | refine Qc ?_ | refine Qd ?_ | refine Qe ?_ | refine Qf ?_) | ((with_reducible refine Qo ?_ ?_); focus rfl) | ((with_reducible first | refine QT 3 (l := ?_) ?_ ?_ | refine QF 3 (l := ?_) ?_ ?_); rotate_left 1; focus (simp only [Zu, Nat.reduceSub, Nat.reduceBEq]; with_reducible rfl)) | ((with_reducible first | refine QS (cfg_ok 13) Tab.none (s' := ?_) ?_ ?_ | refine QC (b := ?_) ?_ ?_); rotate_left 1; focus ((with_reducible refine QW ?_); simp only [Zg, seval, if_true, if_false, reduceCtorEq, Nat.reduceEqDiff, i1, List.length_map]; with_reducible rfl)))
    rw [hn]
    (refine Ends.mk (by simp) (rs := ?_) (ks := ?_) hres hrts ?_ ?_ ?_; rotate_left 2; (focus (simp only [Ze, Zg, seval, if_true, if_false, reduceCtorEq, Nat.reduceEqDiff]; with_reducible rfl)); (focus simp); focus (first | with_reducible rfl | (simp only [Zv]; done)))
theorem a_impl_CutBranches (t : List Int) : AFn Try.prog 29 [eL t] (· = [.own 3 ((cbOf t).1.map eK) true, .val (.int (cbOf t).2)]) := by
  have hl := a_impl_IsLevels t
  simp only [eL] at hl
  unfold cbOf
  refine AFn.of_runs (cfg_ok 10) Try.func29 rfl rfl rfl (by simp only [List.length_cons, List.length_nil]; decide) ?_
  have hres : Try.f29.results.toList = [.tmp 2, .tmp 3] := rfl
  have hrts : Try.f29.resultTypes.toList = [34, 2] := rfl
  simp only [argRegs, argAV1, eL, eI, eLL, eB, Nat.zero_add, Nat.reduceAdd]
  intro M
  refine RunK.of ?_
  by_cases h8 : lev8 t = true
  · rw [h8] at hl
    have hc : AFn Try.prog 40 [eL t] (· = [.own 3 ((cutsL t).map eCu) true]) := a_cutsOf t (lev8_lev h8) (lev8_len h8)
    simp only [eL] at hc
    have hgood := cuts_good (lev8_lev h8) (lev8_len h8)
    rw [if_pos h8]
    ((repeat' (first | with_reducible (first | refine Q1 ?_ | refine Q2 ?_ | refine Q3 ?_ | refine Q4 ?_ | refine Q5 ?_ | refine Q6 ?_ | refine Q7 ?_ | refine Q8 ?_ | refine Q9 ?_ | refine Qa ?_ | refine Qb ?_ | refine Qc ?_ | refine Qd ?_ | refine Qe ?_ | refine Qf ?_) | ((with_reducible refine Qo ?_ ?_); focus rfl) | ((with_reducible first | refine QT 4 (l := ?_) ?_ ?_ | refine QF 4 (l := ?_) ?_ ?_); rotate_left 1; focus (simp only [Zu, Nat.reduceSub, Nat.reduceBEq]; with_reducible rfl)) | ((with_reducible refine QC (b := ?_) ?_ ?_); rotate_left 1; focus ((with_reducible refine QW ?_); simp only [Zg, seval, if_true, if_false, reduceCtorEq, Nat.reduceEqDiff]; with_reducible rfl)))); ((with_reducible refine QS (cfg_ok 10) Tab.none (s' := ?_) ?_ ?_); rotate_left 1; focus ((with_reducible refine QW ?_); simp only [Zg, seval, if_true, if_false, reduceCtorEq, Nat.reduceEqDiff]; with_reducible rfl)); (repeat' (first | with_reducible (first | refine Q1 ?_ | refine Q2 ?_ | refine Q3 ?_ | refine Q4 ?_ | refine Q5 ?_ | refine Q6 ?_ | refine Q7 ?_ | refine Q8 ?_ | refine Q9 ?_ | refine Qa ?_ | refine Qb ?_ | refine Qc ?_ | refine Qd ?_ | refine Qe ?_ | refine Qf ?_) | ((with_reducible refine Qo ?_ ?_); focus rfl) | ((with_reducible first | refine QT 4 (l := ?_) ?_ ?_ | refine QF 4 (l := ?_) ?_ ?_); rotate_left 1; focus (simp only [Zu, Nat.reduceSub, Nat.reduceBEq]; with_reducible rfl)) | ((with_reducible refine QC (b := ?_) ?_ ?_); rotate_left 1; focus ((with_reducible refine QW ?_); simp only [Zg, seval, if_true, if_false, reduceCtorEq, Nat.reduceEqDiff]; with_reducible rfl)))))
    ((repeat' (first | with_reducible (first | refine Q1 ?_ | refine Q2 ?_ | refine Q3 ?_ | refine Q4 ?_ | refine Q5 ?_ | refine Q6 ?_ | refine Q7 ?_ | refine Q8 ?_ | refine Q9 ?_ | refine Qa ?_ | refine Qb ?_ | refine Qc ?_ | refine Qd ?_ | refine Qe ?_ | refine Qf ?_) | ((with_reducible refine Qo ?_ ?_); focus rfl) | ((with_reducible first | refine QT 4 (l := ?_) ?_ ?_ | refine QF 4 (l := ?_) ?_ ?_); rotate_left 1; focus (simp only [Zu, Nat.reduceSub, Nat.reduceBEq]; with_reducible rfl)) | ((with_reducible refine QC (b := ?_) ?_ ?_); rotate_left 1; focus ((with_reducible refine QW ?_); simp only [Zg, seval, if_true, if_false, reduceCtorEq, Nat.reduceEqDiff]; with_reducible rfl)))); ((with_reducible refine QS (cfg_ok 10) (Tab.none.at' 33 hl) (s' := ?_) ?_ ?_); rotate_left 1; focus ((with_reducible refine QW ?_); simp only [Zg, seval, if_true, if_false, reduceCtorEq, Nat.reduceEqDiff]; with_reducible rfl)); (repeat' (first | with_reducible (first | refine Q1 ?_ | refine Q2 ?_ | refine Q3 ?_ | refine Q4 ?_ | refine Q5 ?_ | refine Q6 ?_ | refine Q7 ?_ | refine Q8 ?_ | refine Q9 ?_ | refine Qa ?_ | refine Qb ?_ | refine Qc ?_ | refine Qd ?_ | refine Qe ?_ | refine Qf ?_) | ((with_reducible refine Qo ?_ ?_); focus rfl) | ((with_reducible first | refine QT 4 (l := ?_) ?_ ?_ | refine QF 4 (l := ?_) ?_ ?_); rotate_left 1; focus (simp only [Zu, Nat.reduceSub, Nat.reduceBEq]; with_reducible rfl)) | ((with_reducible refine QC (b := ?_) ?_ ?_); rotate_left 1; focus ((with_reducible refine QW ?_); simp only [Zg, seval, if_true, if_false, reduceCtorEq, Nat.reduceEqDiff]; with_reducible rfl)))))
    refine RunK.regTag' (cfg_ok 10) (Tab.none.at' 40 hc) 2 8 (k := 3) (xs := (cutsL t).map eCu) (s1 := ?_) ?_ ?_ ?_
    rotate_left 1
    focus (simp only [Zg, seval, if_true, if_false, reduceCtorEq, Nat.reduceEqDiff, eL, eI]; with_reducible rfl)
    focus rfl
    intro xs' F hta hpl hnd hF
    obtain ⟨ps, e1, e2, e3'⟩ := tag_rows3 (fun c : Cu => c.1.1.map eL) (fun c => c.1.2.map eI) (·.2) hta hpl
    subst e2
    have hql : ps.length ≤ 1000000000 := by
      have h1 := congrArg List.length e1
      have h2 := hgood.1
      rw [List.length_map] at h1; omega
    have hdel := a_DeleteFuncCu (e3T (fun c : Cu => c.1.1.map eL) (fun c => c.1.2.map eI) (·.2)) (fun q => .tag q.2.1 (.sl 1 (q.1.1.1.map eL))) (fun q => .tag q.2.2 (.sl 1 (q.1.1.2.map eI))) (·.1.2) (·.1.1.1) (·.1.1.2) (fun q => notOne q.1) 54 (fun _ => rfl) (fun _ => rfl) (fun _ => rfl) (fun q => a_notOne q.1.1.1 q.1.1.2 q.1.2) ps hql
    refine ROps.opsT (cfg_ok 10) (T := Tab.none.own' 53 0 hdel) (s' := ?_) ?_ ?_
    rotate_left 1
    focus (simp only [Zg, seval, if_true, if_false, reduceCtorEq, Nat.reduceEqDiff, Tab.own', atOwn_eq]; with_reducible rfl)
    repeat' (first | with_reducible (first | refine Q1 ?_ | refine Q2 ?_ | refine Q3 ?_ | refine Q4 ?_ | refine Q5 ?_ | refine Q6 ?_ | refine Q7 ?_ | refine Q8 ?_ | refine Q9 ?_ | refine Qa ?_ | refine Qb ?_ | refine Qc ?_ | refine Qd ?_ | refine Qe ?_ | refine Qf ?_) | ((with_reducible refine Qo ?_ ?_); focus rfl) | ((with_reducible first | refine QT 4 (l := ?_) ?_ ?_ | refine QF 4 (l := ?_) ?_ ?_); rotate_left 1; focus (simp only [Zu, Nat.reduceSub, Nat.reduceBEq]; with_reducible rfl)) | ((with_reducible first | refine QS (cfg_ok 10) Tab.none (s' := ?_) ?_ ?_ | refine QC (b := ?_) ?_ ?_); rotate_left 1; focus ((with_reducible refine QW ?_); simp only [Zg, seval, if_true, if_false, reduceCtorEq, Nat.reduceEqDiff]; with_reducible rfl)))
    obtain ⟨ks, hks⟩ : ∃ ks, ks = keepF (fun q : Cu × (List Nat × List Nat) => notOne q.1) ps := ⟨_, rfl⟩
    have hsub : ks.Sublist ps := by rw [hks]; exact List.filter_sublist
    have hx : (((cutsL t).filter (fun c => !notOne c)).map eK) = (ks.map (·.1)).map eCu := by
      rw [hks, e1, List.filter_map]; rfl
    refine Ends.un (by simp) hres hrts (r := ?_) (r' := .own 3 (((cutsL t).filter (fun c => !notOne c)).map eK) true) (l := [.val (.int 0)]) (ks := ?_) ?_ ?_ (by simp [isSl]) ?_ rfl
    rotate_left 2
    focus (simp only [aresults, ares, Zg, seval, if_true, if_false, reduceCtorEq, Nat.reduceEqDiff]; with_reducible rfl)
    focus simp
    rw [hx, ← hks]
    have hsf : (ks.map bl3).flatten.Sublist (ps.map bl3).flatten := sub_flatC (hsub.map _)
    refine ⟨(ks.map bl3).flatten, ?_, fun b hb => hF b ?_, .inl ⟨3, _, _, rfl, rfl, tag_mk3 _ _ _ ks⟩⟩
    · rw [e3'] at hnd
      exact hnd.sublist hsf
    · rw [e3']
      exact hsf.subset hb
  · have h8' : lev8 t = false := by simpa using h8
    rw [h8'] at hl
    rw [if_neg h8]
    repeat' (first | with_reducible (first | refine Q1 ?_ | refine Q2 ?_ | refine Q3 ?_ | refine Q4 ?_ | refine Q5 ?_ | refine Q6 ?_ | refine Q7 ?_ | refine Q8 ?_ | refine Q9 ?_ | refine Qa ?_ | refine Qb ?_ | refine Qc ?_ | refine Qd ?_ | refine Qe ?_ | refine Qf ?_) | ((with_reducible refine Qo ?_ ?_); focus rfl) | ((with_reducible first | refine QT 4 (l := ?_) ?_ ?_ | refine QF 4 (l := ?_) ?_ ?_); rotate_left 1; focus (simp only [Zu, Nat.reduceSub, Nat.reduceBEq]; with_reducible rfl)) | ((with_reducible first | refine QS (cfg_ok 10) (Tab.none.at' 33 hl) (s' := ?_) ?_ ?_ | refine QC (b := ?_) ?_ ?_); rotate_left 1; focus ((with_reducible refine QW ?_); simp only [Zg, seval, if_true, if_false, reduceCtorEq, Nat.reduceEqDiff]; with_reducible rfl)))
    (refine Ends.mk (by simp) (rs := ?_) (ks := ?_) hres hrts ?_ ?_ ?_; rotate_left 2; (focus (simp only [Ze, Zg, seval, if_true, if_false, reduceCtorEq, Nat.reduceEqDiff]; with_reducible rfl)); (focus simp); focus (first | with_reducible rfl | (simp only [Zv]; done)))
theorem k_impl_CutBranches (v : Value) (t : List Int) (w : World) (h : Rd (RS RI) w [v] t) : Calls Try.prog 29 #[v] w (RetOC (RS RCut) w (cbOf t).1 (cbOf t).2) :=
  AFn.oi encK (a_impl_CutBranches t) (args1 (arg_L h))
set_option maxHeartbeats 4000000 in
theorem a_l05Single (t : List Int) (h : LevP t) (hc : canon t = t) (hl : t.length ≤ 8) : AFn Try.prog 52 [eL t] (· = [.own 3 (((cutsL t).filter (fun c => !notOne c)).map eK) false]) := by
  have hcu : AFn Try.prog 31 [eL t] (· = [.own 3 ((cutsL t).map eK) false]) := a_l05Cuts t h hc hl
  have hlen := (cuts_good h hl).1
  obtain ⟨L, hL⟩ : ∃ L, L = cutsL t := ⟨_, rfl⟩
  rw [← hL] at hcu hlen ⊢
  simp only [eL] at hcu
  have hLm : (L.map eK).length = L.length := List.length_map _
  refine AFn.of_runs (cfg_ok 39) Try.func52 rfl rfl rfl (by simp only [List.length_cons, List.length_nil]; decide) ?_
  have hres : Try.f52.results.toList = [.tmp 2] := rfl
  have hrts : Try.f52.resultTypes.toList = [34] := rfl
  simp only [argRegs, argAV1, eL, eI, eLL, eB, Nat.zero_add, Nat.reduceAdd]
  intro M
  refine RunK.of ?_
  repeat' (first | with_reducible (first | refine Q1 ?_ | refine Q2 ?_ | refine Q3 ?_ | refine Q4 ?_ | refine Q5 ?_ | refine Q6 ?_ | refine Q7 ?_ | refine Q8 ?_ | refine Q9 ?_ | refine Qa ?_ | refine Qb ?_ | refine Qc ?_ | refine Qd ?_ | refine Qe ?_ | refine Qf ?_) | ((with_reducible refine Qo ?_ ?_); focus rfl) | ((with_reducible first | refine QT 6 (l := ?_) ?_ ?_ | refine QF 6 (l := ?_) ?_ ?_); rotate_left 1; focus (simp only [Zu, Nat.reduceSub, Nat.reduceBEq]; with_reducible rfl)) | ((with_reducible first | refine QS (cfg_ok 39) (Tab.none.at' 31 hcu) (s' := ?_) ?_ ?_ | refine QC (b := ?_) ?_ ?_); rotate_left 1; focus ((with_reducible refine QW ?_); simp only [Zg, seval, if_true, if_false, reduceCtorEq, Nat.reduceEqDiff]; with_reducible rfl)))
  refine RunK.loop (β := Nat) (γ := Unit) (fun i => ⟨[(3, .c (.own 3 L.length)), (4, .c (.own 4 ((L.take i).filter (fun c => !notOne c)).length)), (5, .c (.val (.int i)))], [(3, .row 3 (L.map eK) false), (4, .row 3 (((L.take i).filter (fun c => !notOne c)).map eK) false)]⟩) (fun i => i ≤ L.length) (fun i => L.length - i)
    (fun _ => ⟨[(4, .c (.own 4 (L.filter (fun c => !notOne c)).length))], [(4, .row 3 ((L.filter (fun c => !notOne c)).map eK) false)]⟩) (fun _ => True) 0 (Nat.zero_le _) ?_ ?_ ?_
  · (repeat' (first | with_reducible refine Qn | ((with_reducible refine Qr ?_ ?_); focus (first | with_reducible rfl | (simp only [Zz, Nat.reduceBEq, List.take_zero, List.filter_nil, List.map_nil, List.length_nil, Int.natCast_zero, List.length_map]; done) | rfl)) | ((with_reducible refine Qj (o' := ?_) ?_ ?_ ?_); rotate_left 1; focus rfl) | ((with_reducible refine Qw ?_ ?_); (focus (first | with_reducible rfl | (simp only [Zv, List.take_zero, List.filter_nil, List.map_nil, List.length_nil, Int.natCast_zero, List.length_map]; done))); focus (first | exact id | exact (fun h => nomatch h) | exact (fun _ => rfl)))))
  · intro i hi
    have hi : i ≤ L.length := hi
    have hw := w64_succ (n := i) (by omega)
    by_cases hiL : i < L.length
    · have i1 : ((i : Int) < (L.length : Int)) = True := eq_true (by omega)
      have i2 : ((0 : Int) ≤ (i : Int)) = True := eq_true (by omega)
      obtain ⟨z, hz⟩ : ∃ z, z = L[i] := ⟨_, rfl⟩
      have hg : (L.map eK)[i]? = some [.sl 1 (z.1.1.map eL), .sl 1 (z.1.2.map eI), .int z.2] := by rw [map_get hiL, hz]; rfl
      have htk : (L.take (i + 1)).filter (fun c => !notOne c) = (L.take i).filter (fun c => !notOne c) ++ (if notOne z = true then [] else [z]) := by
        rw [hz, List.take_succ_eq_append_getElem hiL, List.filter_append]
        by_cases hb : notOne L[i] = true <;> simp [hb]
      obtain ⟨R, hR⟩ : ∃ R, R = (L.take i).filter (fun c => !notOne c) := ⟨_, rfl⟩
      have hRl : R.length ≤ i := by
        have h1 := List.length_filter_le (fun c => !notOne c) (L.take i)
        rw [List.length_take] at h1
        rw [hR]; omega
      have hRm : (R.map eK).length = R.length := List.length_map _
      rw [← hR] at htk ⊢
      obtain ⟨⟨f, tr⟩, n⟩ := z
      simp only at hg
      have q1 := big_le (n := R.length + 1) (by omega)
      have q2 := big_mul (n := R.length + 1) (c := 56) (by omega) (by omega)
      by_cases h1 : f.length = 1
      · have j1 : ((f.length : Int) == 1) = true := beq_iff_eq.2 (by omega)
        by_cases h2 : tr.length = 0
        · have j2 : ((tr.length : Int) > 0) = False := eq_false (by omega)
          have hn : notOne ((f, tr), n) = true := by unfold notOne; simp [h1, h2]
          rw [if_pos hn, List.append_nil] at htk
          repeat' (first | with_reducible (first | refine Q1 ?_ | refine Q2 ?_ | refine Q3 ?_ | refine Q4 ?_ | refine Q5 ?_ | refine Q6 ?_ | refine Q7 ?_ | refine Q8 ?_ | refine Q9 ?_ | refine Qa ?_ | refine Qb ?_ | refine Qc ?_ | refine Qd ?_ | refine Qe ?_ | refine Qf ?_) | ((with_reducible refine Qo ?_ ?_); focus rfl) | ((with_reducible first | refine QT 6 (l := ?_) ?_ ?_ | refine QF 6 (l := ?_) ?_ ?_); rotate_left 1; focus (simp only [Zu, Nat.reduceSub, Nat.reduceBEq]; with_reducible rfl)) | ((with_reducible first | refine QS (cfg_ok 39) Tab.none (s' := ?_) ?_ ?_ | refine QC (b := ?_) ?_ ?_); rotate_left 1; focus ((with_reducible refine QW ?_); simp only [Zg, seval, if_true, if_false, reduceCtorEq, Nat.reduceEqDiff, i1, i2, j1, j2, hg, hLm, hRm, hw, q1, q2, Int.toNat_natCast, List.length_map, decide_false]; with_reducible rfl)))
          refine roundK.on (i + 1) ⟨hiL, by omega⟩ ?_
          rw [htk]
          (repeat' (first | with_reducible refine Qn | ((with_reducible refine Qr ?_ ?_); focus (first | with_reducible rfl | (simp only [Zz, Nat.reduceBEq]; done) | rfl)) | ((with_reducible refine Qj (o' := ?_) ?_ ?_ ?_); rotate_left 1; focus rfl) | ((with_reducible refine Qw ?_ ?_); (focus (first | with_reducible rfl | (simp only [Zv]; done))); focus (first | exact id | exact (fun h => nomatch h) | exact (fun _ => rfl)))))
        · have j2 : ((tr.length : Int) > 0) = True := eq_true (by omega)
          have hn : notOne ((f, tr), n) = false := by unfold notOne; simp [h1]; simpa using h2
          rw [if_neg (by rw [hn]; decide)] at htk
          repeat' (first | with_reducible (first | refine Q1 ?_ | refine Q2 ?_ | refine Q3 ?_ | refine Q4 ?_ | refine Q5 ?_ | refine Q6 ?_ | refine Q7 ?_ | refine Q8 ?_ | refine Q9 ?_ | refine Qa ?_ | refine Qb ?_ | refine Qc ?_ | refine Qd ?_ | refine Qe ?_ | refine Qf ?_) | ((with_reducible refine Qo ?_ ?_); focus rfl) | ((with_reducible first | refine QT 6 (l := ?_) ?_ ?_ | refine QF 6 (l := ?_) ?_ ?_); rotate_left 1; focus (simp only [Zu, Nat.reduceSub, Nat.reduceBEq]; with_reducible rfl)) | ((with_reducible first | refine QS (cfg_ok 39) Tab.none (s' := ?_) ?_ ?_ | refine QC (b := ?_) ?_ ?_); rotate_left 1; focus ((with_reducible refine QW ?_); simp only [Zg, seval, if_true, if_false, reduceCtorEq, Nat.reduceEqDiff, i1, i2, j1, j2, hg, hLm, hRm, hw, q1, q2, Int.toNat_natCast, List.length_map, decide_true]; with_reducible rfl)))
          refine roundK.on (i + 1) ⟨hiL, by omega⟩ ?_
          rw [htk, List.map_append, List.length_append, show List.map eK [((f, tr), n)] = [[.sl 1 (f.map eL), .sl 1 (tr.map eI), .int n]] from rfl]
          (repeat' (first | with_reducible refine Qn | ((with_reducible refine Qr ?_ ?_); focus (first | with_reducible rfl | (simp only [Zz, Nat.reduceBEq, List.length_cons, List.length_nil]; done) | rfl)) | ((with_reducible refine Qj (o' := ?_) ?_ ?_ ?_); rotate_left 1; focus rfl) | ((with_reducible refine Qw ?_ ?_); (focus (first | with_reducible rfl | (simp only [Zv, List.length_cons, List.length_nil]; done))); focus (first | exact id | exact (fun h => nomatch h) | exact (fun _ => rfl)))))
      · have j1 : ((f.length : Int) == 1) = false := beq_eq_false_iff_ne.2 (by omega)
        have hn : notOne ((f, tr), n) = true := by unfold notOne; simp [h1]
        rw [if_pos hn, List.append_nil] at htk
        repeat' (first | with_reducible (first | refine Q1 ?_ | refine Q2 ?_ | refine Q3 ?_ | refine Q4 ?_ | refine Q5 ?_ | refine Q6 ?_ | refine Q7 ?_ | refine Q8 ?_ | refine Q9 ?_ | refine Qa ?_ | refine Qb ?_ | refine Qc ?_ | refine Qd ?_ | refine Qe ?_ | refine Qf ?_) | ((with_reducible refine Qo ?_ ?_); focus rfl) | ((with_reducible first | refine QT 6 (l := ?_) ?_ ?_ | refine QF 6 (l := ?_) ?_ ?_); rotate_left 1; focus (simp only [Zu, Nat.reduceSub, Nat.reduceBEq]; with_reducible rfl)) | ((with_reducible first | refine QS (cfg_ok 39) Tab.none (s' := ?_) ?_ ?_ | refine QC (b := ?_) ?_ ?_); rotate_left 1; focus ((with_reducible refine QW ?_); simp only [Zg, seval, if_true, if_false, reduceCtorEq, Nat.reduceEqDiff, i1, i2, j1, hg, hLm, hRm, hw, q1, q2, Int.toNat_natCast, List.length_map]; with_reducible rfl)))
        refine roundK.on (i + 1) ⟨hiL, by omega⟩ ?_
        rw [htk]
        (repeat' (first | with_reducible refine Qn | ((with_reducible refine Qr ?_ ?_); focus (first | with_reducible rfl | (simp only [Zz, Nat.reduceBEq]; done) | rfl)) | ((with_reducible refine Qj (o' := ?_) ?_ ?_ ?_); rotate_left 1; focus rfl) | ((with_reducible refine Qw ?_ ?_); (focus (first | with_reducible rfl | (simp only [Zv]; done))); focus (first | exact id | exact (fun h => nomatch h) | exact (fun _ => rfl)))))
    · have i1 : ((i : Int) < (L.length : Int)) = False := eq_false (by omega)
      obtain rfl : i = L.length := by omega
      repeat' (first | with_reducible (first | refine Q1 ?_ | refine Q2 ?_ | refine Q3 ?_ | refine Q4 ?_ | refine Q5 ?_ | refine Q6 ?_ | refine Q7 ?_ | refine Q8 ?_ | refine Q9 ?_ | refine Qa ?_ | refine Qb ?_ | refine Qc ?_ | refine Qd ?_ | refine Qe ?_ | refine Qf ?_) | ((with_reducible refine Qo ?_ ?_); focus rfl) | ((with_reducible first | refine QT 6 (l := ?_) ?_ ?_ | refine QF 6 (l := ?_) ?_ ?_); rotate_left 1; focus (simp only [Zu, Nat.reduceSub, Nat.reduceBEq]; with_reducible rfl)) | ((with_reducible first | refine QS (cfg_ok 39) Tab.none (s' := ?_) ?_ ?_ | refine QC (b := ?_) ?_ ?_); rotate_left 1; focus ((with_reducible refine QW ?_); simp only [Zg, seval, if_true, if_false, reduceCtorEq, Nat.reduceEqDiff, i1, hLm]; with_reducible rfl)))
      refine roundK.out () trivial ?_
      rw [List.take_length]
      (repeat' (first | with_reducible refine Qn | ((with_reducible refine Qr ?_ ?_); focus (first | with_reducible rfl | (simp only [Zz, Nat.reduceBEq]; done) | rfl)) | ((with_reducible refine Qj (o' := ?_) ?_ ?_ ?_); rotate_left 1; focus rfl) | ((with_reducible refine Qw ?_ ?_); (focus (first | with_reducible rfl | (simp only [Zv]; done))); focus (first | exact id | exact (fun h => nomatch h) | exact (fun _ => rfl)))))
  · rintro _ _
    repeat' (first | with_reducible (first | refine Q1 ?_ | refine Q2 ?_ | refine Q3 ?_ | refine Q4 ?_ | refine Q5 ?_ | refine Q6 ?_ | refine Q7 ?_ | refine Q8 ?_ | refine Q9 ?_ | refine Qa ?_ | refine Qb ?_ | refine Qc ?_ | refine Qd ?_ | refine Qe ?_ | refine Qf ?_) | ((with_reducible refine Qo ?_ ?_); focus rfl) | ((with_reducible first | refine QT 6 (l := ?_) ?_ ?_ | refine QF 6 (l := ?_) ?_ ?_); rotate_left 1; focus (simp only [Zu, Nat.reduceSub, Nat.reduceBEq]; with_reducible rfl)) | ((with_reducible first | refine QS (cfg_ok 39) Tab.none (s' := ?_) ?_ ?_ | refine QC (b := ?_) ?_ ?_); rotate_left 1; focus ((with_reducible refine QW ?_); simp only [Zg, seval, if_true, if_false, reduceCtorEq, Nat.reduceEqDiff]; with_reducible rfl)))
    (refine Ends.mk (by simp) (rs := ?_) (ks := ?_) hres hrts ?_ ?_ ?_; rotate_left 2; (focus (simp only [Ze, Zg, seval, if_true, if_false, reduceCtorEq, Nat.reduceEqDiff]; with_reducible rfl)); (focus simp); focus (first | with_reducible rfl | (simp only [Zv]; done)))
theorem a_spec_CutBranches (t : List Int) (hsz : t.length ≤ 1048576) : ∃ b, AFn Try.prog 28 [eL t] (· = [.own 3 ((cbOf t).1.map eK) b, .val (.int (cbOf t).2)]) := by
  have hl := a_spec_l03Is t hsz
  simp only [eL] at hl
  unfold cbOf
  by_cases h8 : lev8 t = true
  · rw [h8] at hl
    have hlev := lev8_lev h8
    have hca := AFn.valT (a_l03Canon t hlev (lev8_len h8))
    have hc := a_l05Single (canon t) (canon_lev hlev) (canon_idem hlev) (by rw [canon_len hlev]; exact lev8_len h8)
    have hcc : cutsL (canon t) = cutsL t := by unfold cutsL; rw [gath_canon hlev]
    rw [hcc] at hc
    simp only [eL] at hc hca
    rw [if_pos h8]
    refine ⟨false, ?_⟩
    refine AFn.of_runs (cfg_ok 10) Try.func28 rfl rfl rfl (by simp only [List.length_cons, List.length_nil]; decide) ?_
    have hres : Try.f28.results.toList = [.tmp 2, .tmp 3] := rfl
    have hrts : Try.f28.resultTypes.toList = [34, 2] := rfl
    simp only [argRegs, argAV1, eL, eI, eLL, eB, Nat.zero_add, Nat.reduceAdd]
    intro M
    refine RunK.of ?_
    repeat' (first | with_reducible (first | refine Q1 ?_ | refine Q2 ?_ | refine Q3 ?_ | refine Q4 ?_ | refine Q5 ?_ | refine Q6 ?_ | refine Q7 ?_ | refine Q8 ?_ | refine Q9 ?_ | refine Qa ?_ | refine Qb ?_ | refine Qc ?_ | refine Qd ?_ | refine Qe ?_ | refine Qf ?_) | ((with_reducible refine Qo ?_ ?_); focus rfl) | ((with_reducible first | refine QT 4 (l := ?_) ?_ ?_ | refine QF 4 (l := ?_) ?_ ?_); rotate_left 1; focus (simp only [Zu, Nat.reduceSub, Nat.reduceBEq]; with_reducible rfl)) | ((with_reducible first | refine QS (cfg_ok 10) (((Tab.none.at' 30 hl).at' 32 hca).at' 52 hc) (s' := ?_) ?_ ?_ | refine QC (b := ?_) ?_ ?_); rotate_left 1; focus ((with_reducible refine QW ?_); simp only [Zg, seval, if_true, if_false, reduceCtorEq, Nat.reduceEqDiff]; with_reducible rfl)))
    (refine Ends.mk (by simp) (rs := ?_) (ks := ?_) hres hrts ?_ ?_ ?_; rotate_left 2; (focus (simp only [Ze, Zg, seval, if_true, if_false, reduceCtorEq, Nat.reduceEqDiff]; with_reducible rfl)); (focus simp); focus (first | with_reducible rfl | (simp only [Zv]; done)))
  · have h8' : lev8 t = false := by simpa using h8
    rw [h8'] at hl
    rw [if_neg h8]
    refine ⟨true, ?_⟩
    refine AFn.of_runs (cfg_ok 10) Try.func28 rfl rfl rfl (by simp only [List.length_cons, List.length_nil]; decide) ?_
    have hres : Try.f28.results.toList = [.tmp 2, .tmp 3] := rfl
    have hrts : Try.f28.resultTypes.toList = [34, 2] := rfl
    simp only [argRegs, argAV1, eL, eI, eLL, eB, Nat.zero_add, Nat.reduceAdd]
    intro M
    refine RunK.of ?_
    repeat' (first | with_reducible (first | refine Q1 ?_ | refine Q2 ?_ | refine Q3 ?_ | refine Q4 ?_ | refine Q5 ?_ | refine Q6 ?_ | refine Q7 ?_ | refine Q8 ?_ | refine Q9 ?_ | refine Qa ?_ | refine Qb ?_ | refine Qc ?_ | refine Qd ?_ | refine Qe ?_ | refine Qf ?_) | ((with_reducible refine Qo ?_ ?_); focus rfl) | ((with_reducible first | refine QT 4 (l := ?_) ?_ ?_ | refine QF 4 (l := ?_) ?_ ?_); rotate_left 1; focus (simp only [Zu, Nat.reduceSub, Nat.reduceBEq]; with_reducible rfl)) | ((with_reducible first | refine QS (cfg_ok 10) (Tab.none.at' 30 hl) (s' := ?_) ?_ ?_ | refine QC (b := ?_) ?_ ?_); rotate_left 1; focus ((with_reducible refine QW ?_); simp only [Zg, seval, if_true, if_false, reduceCtorEq, Nat.reduceEqDiff]; with_reducible rfl)))
    (refine Ends.mk (by simp) (rs := ?_) (ks := ?_) hres hrts ?_ ?_ ?_; rotate_left 2; (focus (simp only [Ze, Zg, seval, if_true, if_false, reduceCtorEq, Nat.reduceEqDiff]; with_reducible rfl)); (focus simp); focus (first | with_reducible rfl | (simp only [Zv]; done)))
theorem k_spec_CutBranches (v : Value) (t : List Int) (w : World) (h : Rd (RS RI) w [v] t) (hsz : t.length ≤ 1048576) : Calls Try.prog 28 #[v] w (RetGI (RS RCut) w (cbOf t).1 (cbOf t).2) := by
  obtain ⟨b, hb⟩ := a_spec_CutBranches t hsz
  exact AFn.gi encK (by cases b <;> first | exact .inl rfl | exact .inr (.inl rfl)) hb (args1 (arg_L h))
end Go.Proofs.Ytkdkikmhlhcndaa
namespace Go.Proofs.Ytkdkikmhlhcndaa
open Go.RowKit
set_option maxHeartbeats 1000000 in
theorem walk_FnExactCutBranches (v0 : Value) (x0 : List Int) (w : World) (h0 : Rd (RS RI) w [v0] x0) : Calls Try.prog 7 #[v0] w (RetV w (.bool true)) := by
  obtain ⟨a0, c0, hv0, hl0, hm0⟩ := h0.val
  unfold maxLen at hm0
  by_cases z0 : x0.length ≤ 1048576
  rotate_left
  · subst hv0
    go_enter Try.func7, Try.ntmps7
    go_wp2_with fail
    go_ret
    exact ⟨rfl, Below.refl _ _⟩
  subst hv0
  go_enter Try.func7, Try.ntmps7
  go_wp2_with fail
  refine (to_I _ x0 _ h0 z0).mono ?_
  rintro e w1 ⟨u1, rfl, o1, B1⟩
  have s1 := B1.size
  have BB := B1.mono (B' := w.heap.size) (by omega)
  go_wp2_with fail
  refine (k_spec_CutBranches _ x0 _ o1.rd z0).mono ?_
  rintro e w2 ⟨u2, rfl, o2, B2⟩
  have s2 := B2.size
  replace o1 := o1.below B2 (by omega)
  replace BB := BB.trans (B2.mono (B' := w.heap.size) (by omega))
  go_wp2_with fail
  refine (to_I _ x0 _ (h0.below BB (Nat.le_refl _)) z0).mono ?_
  rintro e w3 ⟨u3, rfl, o3, B3⟩
  have s3 := B3.size
  replace o1 := o1.below B3 (by omega)
  replace o2 := o2.below B3 (by omega)
  replace BB := BB.trans (B3.mono (B' := w.heap.size) (by omega))
  go_wp2_with fail
  refine (k_impl_CutBranches _ x0 _ o3.rd).mono ?_
  rintro e w4 ⟨u4, rfl, o4, B4⟩
  have s4 := B4.size
  replace o1 := o1.below B4 (by omega)
  replace o2 := o2.below B4 (by omega)
  replace o3 := o3.below B4 (by omega)
  replace BB := BB.trans (B4.mono (B' := w.heap.size) (by omega))
  go_wp2_with fail
  refine (eqv_K _ _ (cbOf x0).1 _ o4.rd o2.rd).mono ?_
  rintro e w5 ⟨rfl, B5⟩
  have s5 := B5.size
  replace o1 := o1.below B5 (by omega)
  replace o2 := o2.below B5 (by omega)
  replace o3 := o3.below B5 (by omega)
  replace o4 := o4.below B5 (by omega)
  replace BB := BB.trans (B5.mono (B' := w.heap.size) (by omega))
  go_wp2_with fail
  refine (to_I _ x0 _ (h0.below BB (Nat.le_refl _)) z0).mono ?_
  rintro e w6 ⟨u6, rfl, o6, B6⟩
  have s6 := B6.size
  replace o1 := o1.below B6 (by omega)
  replace o2 := o2.below B6 (by omega)
  replace o3 := o3.below B6 (by omega)
  replace o4 := o4.below B6 (by omega)
  replace BB := BB.trans (B6.mono (B' := w.heap.size) (by omega))
  go_wp2_with fail
  refine (eqv_I _ _ x0 _ o3.rd o6.rd).mono ?_
  rintro e w7 ⟨rfl, B7⟩
  have s7 := B7.size
  replace o1 := o1.below B7 (by omega)
  replace o2 := o2.below B7 (by omega)
  replace o3 := o3.below B7 (by omega)
  replace o4 := o4.below B7 (by omega)
  replace o6 := o6.below B7 (by omega)
  replace BB := BB.trans (B7.mono (B' := w.heap.size) (by omega))
  go_wp2_with fail
  have p8 := cntb_I x0 z0
  refine (mark_I _ x0 _ _ 1 _ o3 (by omega) (by omega)).mono ?_
  rintro e w8 ⟨rfl, o3n, B8⟩
  have s8 := B8.size
  replace o1 := o1.apart B8 (by omega)
  replace o2 := o2.apart B8 (by omega)
  replace o4 := o4.apart B8 (by omega)
  replace o6 := o6.apart B8 (by omega)
  replace o3 := o3n
  clear o3n
  replace BB := BB.trans (B8.below (B := w.heap.size) (by omega) (by omega))
  go_wp2_with fail
  refine (eqv_K _ _ (cbOf x0).1 _ o4.rd o2.rd).mono ?_
  rintro e w9 ⟨rfl, B9⟩
  have s9 := B9.size
  replace o1 := o1.below B9 (by omega)
  replace o2 := o2.below B9 (by omega)
  replace o3 := o3.below B9 (by omega)
  replace o4 := o4.below B9 (by omega)
  replace o6 := o6.below B9 (by omega)
  replace BB := BB.trans (B9.mono (B' := w.heap.size) (by omega))
  go_wp2_with fail
  have p10 := cbOf_cnt x0
  refine (mark_K _ (cbOf x0).1 _ _ 1 _ o4 (by omega) (by omega)).mono ?_
  rintro e w10 ⟨rfl, o4n, B10⟩
  have s10 := B10.size
  replace o1 := o1.apart B10 (by omega)
  replace o2 := o2.apart B10 (by omega)
  replace o3 := o3.apart B10 (by omega)
  replace o6 := o6.apart B10 (by omega)
  replace o4 := o4n
  clear o4n
  replace BB := BB.trans (B10.below (B := w.heap.size) (by omega) (by omega))
  go_wp2_with fail
  refine (held_K _ (cbOf x0).1 1 _ o4.rd (by omega) (by omega)).mono ?_
  rintro e w11 ⟨rfl, B11⟩
  have s11 := B11.size
  replace o1 := o1.below B11 (by omega)
  replace o2 := o2.below B11 (by omega)
  replace o3 := o3.below B11 (by omega)
  replace o4 := o4.below B11 (by omega)
  replace o6 := o6.below B11 (by omega)
  replace BB := BB.trans (B11.mono (B' := w.heap.size) (by omega))
  go_wp2_with fail
  refine (to_I _ x0 _ (h0.below BB (Nat.le_refl _)) z0).mono ?_
  rintro e w12 ⟨u12, rfl, o12, B12⟩
  have s12 := B12.size
  replace o1 := o1.below B12 (by omega)
  replace o2 := o2.below B12 (by omega)
  replace o3 := o3.below B12 (by omega)
  replace o4 := o4.below B12 (by omega)
  replace o6 := o6.below B12 (by omega)
  replace BB := BB.trans (B12.mono (B' := w.heap.size) (by omega))
  go_wp2_with fail
  refine (k_impl_CutBranches _ x0 _ o12.rd).mono ?_
  rintro e w13 ⟨u13, rfl, o13, B13⟩
  have s13 := B13.size
  replace o1 := o1.below B13 (by omega)
  replace o2 := o2.below B13 (by omega)
  replace o3 := o3.below B13 (by omega)
  replace o4 := o4.below B13 (by omega)
  replace o6 := o6.below B13 (by omega)
  replace o12 := o12.below B13 (by omega)
  replace BB := BB.trans (B13.mono (B' := w.heap.size) (by omega))
  go_wp2_with fail
  refine (eqv_K _ _ (cbOf x0).1 _ o13.rd o2.rd).mono ?_
  rintro e w14 ⟨rfl, B14⟩
  have s14 := B14.size
  replace o1 := o1.below B14 (by omega)
  replace o2 := o2.below B14 (by omega)
  replace o3 := o3.below B14 (by omega)
  replace o4 := o4.below B14 (by omega)
  replace o6 := o6.below B14 (by omega)
  replace o12 := o12.below B14 (by omega)
  replace o13 := o13.below B14 (by omega)
  replace BB := BB.trans (B14.mono (B' := w.heap.size) (by omega))
  go_wp2_with fail
  refine (held_K _ (cbOf x0).1 1 _ o4.rd (by omega) (by omega)).mono ?_
  rintro e w15 ⟨rfl, B15⟩
  have s15 := B15.size
  replace o1 := o1.below B15 (by omega)
  replace o2 := o2.below B15 (by omega)
  replace o3 := o3.below B15 (by omega)
  replace o4 := o4.below B15 (by omega)
  replace o6 := o6.below B15 (by omega)
  replace o12 := o12.below B15 (by omega)
  replace o13 := o13.below B15 (by omega)
  replace BB := BB.trans (B15.mono (B' := w.heap.size) (by omega))
  go_wp2_with fail
  go_ret
  exact ⟨rfl, BB⟩
end Go.Proofs.Ytkdkikmhlhcndaa
