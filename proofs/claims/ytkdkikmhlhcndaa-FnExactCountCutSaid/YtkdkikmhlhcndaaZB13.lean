/- Lemmas (13). -/
import Derived.Test.YtkdkikmhlhcndaaZB7
import Derived.Test.YtkdkikmhlhcndaaZB8
import Derived.Test.YtkdkikmhlhcndaaZB12
set_option linter.unusedSimpArgs false
set_option linter.unusedVariables false
namespace Go.Proofs.Ytkdkikmhlhcndaa
open Go.RowKit
def ccOf (t : List Int) : Int × Int := if lev8 t = true then ((split t).length, 0) else (0, 1)
theorem exp_sum : ∀ (L : List (Spl × Int)), (∀ p ∈ L, 1 ≤ p.2) → ((L.map (·.2)).sum : Int) = (expN L).length
  | [], _ => rfl
  | p :: L, h => by
    have h1 := h p (by simp)
    have h2 := exp_sum L (fun q hq => h q (by simp [hq]))
    rw [List.map_cons, List.sum_cons, h2, expN_cons, List.length_append, List.length_replicate]
    omega
theorem cuts_sum (t : List Int) : (((cutsL t).map (·.2)).sum : Int) = (split t).length := by
  have h := gathS_is (split t)
  have h1 := exp_sum (gathS (split t)) (fun p hp => (h.cnt p hp).1)
  rw [gath_exp] at h1
  rw [← h1]
  unfold cutsL
  rw [List.map_map]; rfl
theorem split_canon_len {t : List Int} (h : LevP t) : (split (canon t)).length = (split t).length := by
  have := (split_canon _ (Nat.le_refl _) h).length_eq
  simpa using this
theorem cuts_canon {t : List Int} (h : LevP t) : cutsL (canon t) = cutsL t := by unfold cutsL; rw [gath_canon h]
theorem split_len8 {t : List Int} (h : LevP t) (hl : t.length ≤ 8) : (split t).length ≤ 256 := by
  have h1 := split_len _ (Nat.le_refl _) h
  have h2 : 2 ^ t.length ≤ 2 ^ 8 := Nat.pow_le_pow_right (by decide) hl
  omega
set_option maxHeartbeats 2000000 in
theorem a_countCuts : ∀ (n : Nat), n ≤ 8 → ∀ t : List Int, LevP t → t.length ≤ n → AFn Try.prog 34 [eL t] (· = [.val (.int (split t).length)])
  | 0, _, t, h, hn => by have := h.pos; omega
  | n + 1, hn8, t, h, hn => by
    have hsb := sumLen_brs h
    have hlev := brs_lev h
    have hbr := AFn.valT (a_branchesOf t h (by omega))
    have hbl : (brs t).length ≤ 8 := by have := brs_few h; omega
    have hfin : (split t).length = (prodS ((brs t).map split)).length + 1 := by rw [split_eq h, List.length_append, List.length_map]; rfl
    have hP : ∀ k, (prodS (((brs t).take k).map split)).length ≤ 256 := fun k => prod_len (mem_take hlev) (by have := sumLen_take' (brs t) k; omega)
    simp only [eL] at hbr
    have hle : ((brs t).map eL).length = (brs t).length := List.length_map _
    rw [hfin]
    refine AFn.of_runs (cfg_ok 20) Try.func34 rfl rfl rfl (by simp only [List.length_cons, List.length_nil]; decide) ?_
    have hres : Try.f34.results.toList = [.tmp 2] := rfl
    have hrts : Try.f34.resultTypes.toList = [2] := rfl
    simp only [argRegs, argAV1, eL, eI, eLL, eB, Nat.zero_add, Nat.reduceAdd]
    intro M
    refine RunK.of ?_
    repeat' (first | with_reducible (first | refine Q1 ?_ | refine Q2 ?_ | refine Q3 ?_ | refine Q4 ?_ | refine Q5 ?_ | refine Q6 ?_ | refine Q7 ?_ | refine Q8 ?_ | refine Q9 ?_ | refine Qa ?_ | refine Qb ?_ | refine Qc ?_ | refine Qd ?_ | refine Qe ?_ | refine Qf ?_) | ((with_reducible refine Qo ?_ ?_); focus rfl) | ((with_reducible first | refine QT 10 (l := ?_) ?_ ?_ | refine QF 10 (l := ?_) ?_ ?_); rotate_left 1; focus (simp only [Zu, Nat.reduceSub, Nat.reduceBEq]; with_reducible rfl)) | ((with_reducible first | refine QS (cfg_ok 20) (Tab.none.at' 62 hbr) (s' := ?_) ?_ ?_ | refine QC (b := ?_) ?_ ?_); rotate_left 1; focus ((with_reducible refine QW ?_); simp only [Zg, seval, if_true, if_false, reduceCtorEq, Nat.reduceEqDiff, hle]; with_reducible rfl)))
    refine RunK.loop (β := Nat) (γ := Unit) (fun k => ⟨[(3, .c (.val (.int (prodS (((brs t).take k).map split)).length))), (7, .c (.val (.sl 1 ((brs t).map eL)))), (8, .c (.val (.int (brs t).length))), (9, .c (.val (.int k)))], []⟩) (fun k => k ≤ (brs t).length) (fun k => (brs t).length - k)
      (fun _ => ⟨[(3, .c (.val (.int (prodS ((brs t).map split)).length)))], []⟩) (fun _ => True) 0 (Nat.zero_le _) ?_ ?_ ?_
    · (repeat' (first | with_reducible refine Qn | ((with_reducible refine Qr ?_ ?_); focus (first | with_reducible rfl | (simp only [Zz, Nat.reduceBEq, List.take_zero, List.map_nil, show prodS [] = [([], [])] from rfl, List.length_singleton, Int.natCast_zero, Int.natCast_one]; done) | rfl)) | ((with_reducible refine Qj (o' := ?_) ?_ ?_ ?_); rotate_left 1; focus rfl) | ((with_reducible refine Qw ?_ ?_); (focus (first | with_reducible rfl | (simp only [Zv, List.take_zero, List.map_nil, show prodS [] = [([], [])] from rfl, List.length_singleton, Int.natCast_zero, Int.natCast_one]; done))); focus (first | exact id | exact (fun h => nomatch h) | exact (fun _ => rfl)))))
    · intro k hk
      have hk : k ≤ (brs t).length := hk
      have hw := w64_succ (n := k) (by omega)
      by_cases h' : k < (brs t).length
      · have i1 : ((k : Int) < ((brs t).length : Int)) = True := eq_true (by omega)
        have i2 : ((0 : Int) ≤ (k : Int)) = True := eq_true (by omega)
        obtain ⟨b, hb⟩ : ∃ b, b = (brs t)[k] := ⟨_, rfl⟩
        have hbm : b ∈ brs t := by rw [hb]; exact List.getElem_mem _
        have hg : ((brs t).map eL)[k]? = some [.sl 1 (b.map eI)] := by rw [map_get h', hb]; rfl
        have hih := a_countCuts n (by omega) b (hlev b hbm) (by have := brs_short h b hbm; omega)
        have htk : (prodS (((brs t).take (k + 1)).map split)).length = (prodS (((brs t).take k).map split)).length * (split b).length := by
          rw [hb, List.take_succ_eq_append_getElem h', List.map_append]
          show (prodS (((brs t).take k).map split ++ [split (brs t)[k]])).length = _
          rw [prodS_snoc, flatS_len]
        have hP1 := hP (k + 1)
        rw [htk] at hP1
        have hwm := w64_eq (n := ((prodS (((brs t).take k).map split)).length : Int) * ((split b).length : Int)) (by rw [← Int.natCast_mul]; omega)
        simp only [eL] at hih
        repeat' (first | with_reducible (first | refine Q1 ?_ | refine Q2 ?_ | refine Q3 ?_ | refine Q4 ?_ | refine Q5 ?_ | refine Q6 ?_ | refine Q7 ?_ | refine Q8 ?_ | refine Q9 ?_ | refine Qa ?_ | refine Qb ?_ | refine Qc ?_ | refine Qd ?_ | refine Qe ?_ | refine Qf ?_) | ((with_reducible refine Qo ?_ ?_); focus rfl) | ((with_reducible first | refine QT 10 (l := ?_) ?_ ?_ | refine QF 10 (l := ?_) ?_ ?_); rotate_left 1; focus (simp only [Zu, Nat.reduceSub, Nat.reduceBEq]; with_reducible rfl)) | ((with_reducible first | refine QS (cfg_ok 20) (Tab.none.at' 34 hih) (s' := ?_) ?_ ?_ | refine QC (b := ?_) ?_ ?_); rotate_left 1; focus ((with_reducible refine QW ?_); simp only [Zg, seval, if_true, if_false, reduceCtorEq, Nat.reduceEqDiff, i1, i2, hg, hle, hw, hwm, Int.toNat_natCast]; with_reducible rfl)))
        refine roundK.on (k + 1) ⟨h', by omega⟩ ?_
        rw [htk, Int.natCast_mul]
        (repeat' (first | with_reducible refine Qn | ((with_reducible refine Qr ?_ ?_); focus (first | with_reducible rfl | (simp only [Zz, Nat.reduceBEq]; done) | rfl)) | ((with_reducible refine Qj (o' := ?_) ?_ ?_ ?_); rotate_left 1; focus rfl) | ((with_reducible refine Qw ?_ ?_); (focus (first | with_reducible rfl | (simp only [Zv]; done))); focus (first | exact id | exact (fun h => nomatch h) | exact (fun _ => rfl)))))
      · have i1 : ((k : Int) < ((brs t).length : Int)) = False := eq_false (by omega)
        obtain rfl : k = (brs t).length := by omega
        rw [List.take_length]
        repeat' (first | with_reducible (first | refine Q1 ?_ | refine Q2 ?_ | refine Q3 ?_ | refine Q4 ?_ | refine Q5 ?_ | refine Q6 ?_ | refine Q7 ?_ | refine Q8 ?_ | refine Q9 ?_ | refine Qa ?_ | refine Qb ?_ | refine Qc ?_ | refine Qd ?_ | refine Qe ?_ | refine Qf ?_) | ((with_reducible refine Qo ?_ ?_); focus rfl) | ((with_reducible first | refine QT 10 (l := ?_) ?_ ?_ | refine QF 10 (l := ?_) ?_ ?_); rotate_left 1; focus (simp only [Zu, Nat.reduceSub, Nat.reduceBEq]; with_reducible rfl)) | ((with_reducible first | refine QS (cfg_ok 20) Tab.none (s' := ?_) ?_ ?_ | refine QC (b := ?_) ?_ ?_); rotate_left 1; focus ((with_reducible refine QW ?_); simp only [Zg, seval, if_true, if_false, reduceCtorEq, Nat.reduceEqDiff, i1]; with_reducible rfl)))
        refine roundK.out () trivial ?_
        (repeat' (first | with_reducible refine Qn | ((with_reducible refine Qr ?_ ?_); focus (first | with_reducible rfl | (simp only [Zz, Nat.reduceBEq]; done) | rfl)) | ((with_reducible refine Qj (o' := ?_) ?_ ?_ ?_); rotate_left 1; focus rfl) | ((with_reducible refine Qw ?_ ?_); (focus (first | with_reducible rfl | (simp only [Zv]; done))); focus (first | exact id | exact (fun h => nomatch h) | exact (fun _ => rfl)))))
    · rintro _ _
      have hP0 := hP (brs t).length
      rw [List.take_length] at hP0
      have hw := w64_succ (n := (prodS ((brs t).map split)).length) (by omega)
      repeat' (first | with_reducible (first | refine Q1 ?_ | refine Q2 ?_ | refine Q3 ?_ | refine Q4 ?_ | refine Q5 ?_ | refine Q6 ?_ | refine Q7 ?_ | refine Q8 ?_ | refine Q9 ?_ | refine Qa ?_ | refine Qb ?_ | refine Qc ?_ | refine Qd ?_ | refine Qe ?_ | refine Qf ?_) | ((with_reducible refine Qo ?_ ?_); focus rfl) | ((with_reducible first | refine QT 10 (l := ?_) ?_ ?_ | refine QF 10 (l := ?_) ?_ ?_); rotate_left 1; focus (simp only [Zu, Nat.reduceSub, Nat.reduceBEq]; with_reducible rfl)) | ((with_reducible first | refine QS (cfg_ok 20) Tab.none (s' := ?_) ?_ ?_ | refine QC (b := ?_) ?_ ?_); rotate_left 1; focus ((with_reducible refine QW ?_); simp only [Zg, seval, if_true, if_false, reduceCtorEq, Nat.reduceEqDiff, hw]; with_reducible rfl)))
      (refine Ends.mk (by simp) (rs := ?_) (ks := ?_) hres hrts ?_ ?_ ?_; rotate_left 2; (focus (simp only [Ze, Zg, seval, if_true, if_false, reduceCtorEq, Nat.reduceEqDiff]; with_reducible rfl)); (focus simp); focus (first | with_reducible rfl | (simp only [Zv]; done)))
theorem a_impl_CountCuts (t : List Int) : AFn Try.prog 10 [eL t] (· = [.val (.int (ccOf t).1), .val (.int (ccOf t).2)]) := by
  have hl := a_impl_IsLevels t
  simp only [eL] at hl
  unfold ccOf
  refine AFn.of_runs (cfg_ok 9) Try.func10 rfl rfl rfl (by simp only [List.length_cons, List.length_nil]; decide) ?_
  have hres : Try.f10.results.toList = [.tmp 2, .tmp 3] := rfl
  have hrts : Try.f10.resultTypes.toList = [2, 2] := rfl
  simp only [argRegs, argAV1, eL, eI, eLL, eB, Nat.zero_add, Nat.reduceAdd]
  intro M
  refine RunK.of ?_
  by_cases h8 : lev8 t = true
  · rw [h8] at hl
    have hc := a_countCuts 8 (Nat.le_refl _) t (lev8_lev h8) (lev8_len h8)
    simp only [eL] at hc
    rw [if_pos h8]
    repeat' (first | with_reducible (first | refine Q1 ?_ | refine Q2 ?_ | refine Q3 ?_ | refine Q4 ?_ | refine Q5 ?_ | refine Q6 ?_ | refine Q7 ?_ | refine Q8 ?_ | refine Q9 ?_ | refine Qa ?_ | refine Qb ?_ | refine Qc ?_ | refine Qd ?_ | refine Qe ?_ | refine Qf ?_) | ((with_reducible refine Qo ?_ ?_); focus rfl) | ((with_reducible first | refine QT 4 (l := ?_) ?_ ?_ | refine QF 4 (l := ?_) ?_ ?_); rotate_left 1; focus (simp only [Zu, Nat.reduceSub, Nat.reduceBEq]; with_reducible rfl)) | ((with_reducible first | refine QS (cfg_ok 9) ((Tab.none.at' 33 hl).at' 34 hc) (s' := ?_) ?_ ?_ | refine QC (b := ?_) ?_ ?_); rotate_left 1; focus ((with_reducible refine QW ?_); simp only [Zg, seval, if_true, if_false, reduceCtorEq, Nat.reduceEqDiff]; with_reducible rfl)))
    (refine Ends.mk (by simp) (rs := ?_) (ks := ?_) hres hrts ?_ ?_ ?_; rotate_left 2; (focus (simp only [Ze, Zg, seval, if_true, if_false, reduceCtorEq, Nat.reduceEqDiff]; with_reducible rfl)); (focus simp); focus (first | with_reducible rfl | (simp only [Zv]; done)))
  · have h8' : lev8 t = false := by simpa using h8
    rw [h8'] at hl
    rw [if_neg h8]
    repeat' (first | with_reducible (first | refine Q1 ?_ | refine Q2 ?_ | refine Q3 ?_ | refine Q4 ?_ | refine Q5 ?_ | refine Q6 ?_ | refine Q7 ?_ | refine Q8 ?_ | refine Q9 ?_ | refine Qa ?_ | refine Qb ?_ | refine Qc ?_ | refine Qd ?_ | refine Qe ?_ | refine Qf ?_) | ((with_reducible refine Qo ?_ ?_); focus rfl) | ((with_reducible first | refine QT 4 (l := ?_) ?_ ?_ | refine QF 4 (l := ?_) ?_ ?_); rotate_left 1; focus (simp only [Zu, Nat.reduceSub, Nat.reduceBEq]; with_reducible rfl)) | ((with_reducible first | refine QS (cfg_ok 9) (Tab.none.at' 33 hl) (s' := ?_) ?_ ?_ | refine QC (b := ?_) ?_ ?_); rotate_left 1; focus ((with_reducible refine QW ?_); simp only [Zg, seval, if_true, if_false, reduceCtorEq, Nat.reduceEqDiff]; with_reducible rfl)))
    (refine Ends.mk (by simp) (rs := ?_) (ks := ?_) hres hrts ?_ ?_ ?_; rotate_left 2; (focus (simp only [Ze, Zg, seval, if_true, if_false, reduceCtorEq, Nat.reduceEqDiff]; with_reducible rfl)); (focus simp); focus (first | with_reducible rfl | (simp only [Zv]; done)))
theorem k_impl_CountCuts (v : Value) (t : List Int) (w : World) (h : Rd (RS RI) w [v] t) : Calls Try.prog 10 #[v] w (RetV w (.tuple #[.int .i64 (ccOf t).1, .int .i64 (ccOf t).2])) :=
  AFn.ii (v := .int .i64 _) (fun A w u hu => (rdV_int.1 hu).1) (a_impl_CountCuts t) (args1 (arg_L h))
set_option maxHeartbeats 2000000 in
theorem a_spec_CountCuts (t : List Int) (hsz : t.length ≤ 1048576) : AFn Try.prog 8 [eL t] (· = [.val (.int (ccOf t).1), .val (.int (ccOf t).2)]) := by
  have hl := a_spec_l03Is t hsz
  simp only [eL] at hl
  unfold ccOf
  by_cases h8 : lev8 t = true
  rotate_left
  · have h8' : lev8 t = false := by simpa using h8
    rw [h8'] at hl
    rw [if_neg h8]
    refine AFn.of_runs (cfg_ok 27) Try.func8 rfl rfl rfl (by simp only [List.length_cons, List.length_nil]; decide) ?_
    have hres : Try.f8.results.toList = [.tmp 2, .tmp 3] := rfl
    have hrts : Try.f8.resultTypes.toList = [2, 2] := rfl
    simp only [argRegs, argAV1, eL, eI, eLL, eB, Nat.zero_add, Nat.reduceAdd]
    intro M
    refine RunK.of ?_
    repeat' (first | with_reducible (first | refine Q1 ?_ | refine Q2 ?_ | refine Q3 ?_ | refine Q4 ?_ | refine Q5 ?_ | refine Q6 ?_ | refine Q7 ?_ | refine Q8 ?_ | refine Q9 ?_ | refine Qa ?_ | refine Qb ?_ | refine Qc ?_ | refine Qd ?_ | refine Qe ?_ | refine Qf ?_) | ((with_reducible refine Qo ?_ ?_); focus rfl) | ((with_reducible first | refine QT 7 (l := ?_) ?_ ?_ | refine QF 7 (l := ?_) ?_ ?_); rotate_left 1; focus (simp only [Zu, Nat.reduceSub, Nat.reduceBEq]; with_reducible rfl)) | ((with_reducible first | refine QS (cfg_ok 27) (Tab.none.at' 30 hl) (s' := ?_) ?_ ?_ | refine QC (b := ?_) ?_ ?_); rotate_left 1; focus ((with_reducible refine QW ?_); simp only [Zg, seval, if_true, if_false, reduceCtorEq, Nat.reduceEqDiff]; with_reducible rfl)))
    (refine Ends.mk (by simp) (rs := ?_) (ks := ?_) hres hrts ?_ ?_ ?_; rotate_left 2; (focus (simp only [Ze, Zg, seval, if_true, if_false, reduceCtorEq, Nat.reduceEqDiff]; with_reducible rfl)); (focus simp); focus (first | with_reducible rfl | (simp only [Zv]; done)))
  rw [h8] at hl
  rw [if_pos h8]
  have hlev := lev8_lev h8
  have h8l := lev8_len h8
  have hca := AFn.valT (a_l03Canon t hlev h8l)
  have hcu := AFn.val1 (a_l05Cuts (canon t) (canon_lev hlev) (canon_idem hlev) (by rw [canon_len hlev]; exact h8l))
  have hsum := cuts_sum (canon t)
  rw [cuts_canon hlev] at hcu hsum
  rw [split_canon_len hlev] at hsum
  have hlen := split_len8 hlev h8l
  obtain ⟨L, hL⟩ : ∃ L, L = cutsL t := ⟨_, rfl⟩
  have hpos : ∀ p ∈ L, 0 ≤ p.2 := fun p hp => by
    rw [hL] at hp
    obtain ⟨z, hz, rfl⟩ := List.mem_map.1 hp
    have := ((gathS_is (split t)).cnt z hz).1
    show 0 ≤ z.2; omega
  rw [← hL] at hcu hsum
  have hLl : L.length ≤ 256 := by
    rw [hL]; unfold cutsL
    rw [List.length_map]
    have := (gathS_is (split t)).len
    rw [List.length_map] at this; omega
  have hpre : ∀ i, 0 ≤ ((L.take i).map (·.2)).sum ∧ ((L.take i).map (·.2)).sum ≤ (L.map (·.2)).sum := fun i => by
    have key : ∀ X : List Cu, (∀ p ∈ X, 0 ≤ p.2) → 0 ≤ (X.map (·.2)).sum := by
      intro X
      induction X with
      | nil => intro _; exact Int.le_refl _
      | cons p X ih =>
        intro hp
        have h1 := ih (fun q hq => hp q (by simp [hq]))
        have h2 := hp p (by simp)
        rw [List.map_cons, List.sum_cons]; omega
    refine ⟨key _ (mem_take hpos), ?_⟩
    conv => rhs; rw [← List.take_append_drop i L, List.map_append, List.sum_append]
    have := key (L.drop i) (fun p hp => hpos p (List.mem_of_mem_drop hp))
    omega
  simp only [eL] at hca hcu
  have hLm : (L.map eCu).length = L.length := List.length_map _
  refine AFn.of_runs (cfg_ok 27) Try.func8 rfl rfl rfl (by simp only [List.length_cons, List.length_nil]; decide) ?_
  have hres : Try.f8.results.toList = [.tmp 2, .tmp 3] := rfl
  have hrts : Try.f8.resultTypes.toList = [2, 2] := rfl
  simp only [argRegs, argAV1, eL, eI, eLL, eB, Nat.zero_add, Nat.reduceAdd]
  intro M
  refine RunK.of ?_
  repeat' (first | with_reducible (first | refine Q1 ?_ | refine Q2 ?_ | refine Q3 ?_ | refine Q4 ?_ | refine Q5 ?_ | refine Q6 ?_ | refine Q7 ?_ | refine Q8 ?_ | refine Q9 ?_ | refine Qa ?_ | refine Qb ?_ | refine Qc ?_ | refine Qd ?_ | refine Qe ?_ | refine Qf ?_) | ((with_reducible refine Qo ?_ ?_); focus rfl) | ((with_reducible first | refine QT 7 (l := ?_) ?_ ?_ | refine QF 7 (l := ?_) ?_ ?_); rotate_left 1; focus (simp only [Zu, Nat.reduceSub, Nat.reduceBEq]; with_reducible rfl)) | ((with_reducible first | refine QS (cfg_ok 27) (((Tab.none.at' 30 hl).at' 32 hca).at' 31 hcu) (s' := ?_) ?_ ?_ | refine QC (b := ?_) ?_ ?_); rotate_left 1; focus ((with_reducible refine QW ?_); simp only [Zg, seval, if_true, if_false, reduceCtorEq, Nat.reduceEqDiff]; with_reducible rfl)))
  refine RunK.loop (β := Nat) (γ := Unit) (fun i => ⟨[(4, .c (.val (.sl 3 (L.map eCu)))), (5, .c (.val (.int ((L.take i).map (·.2)).sum))), (6, .c (.val (.int i)))], []⟩) (fun i => i ≤ L.length) (fun i => L.length - i)
    (fun _ => ⟨[(5, .c (.val (.int (L.map (·.2)).sum)))], []⟩) (fun _ => True) 0 (Nat.zero_le _) ?_ ?_ ?_
  · (repeat' (first | with_reducible refine Qn | ((with_reducible refine Qr ?_ ?_); focus (first | with_reducible rfl | (simp only [Zz, Nat.reduceBEq, List.take_zero, List.map_nil, List.sum_nil, Int.natCast_zero]; done) | rfl)) | ((with_reducible refine Qj (o' := ?_) ?_ ?_ ?_); rotate_left 1; focus rfl) | ((with_reducible refine Qw ?_ ?_); (focus (first | with_reducible rfl | (simp only [Zv, List.take_zero, List.map_nil, List.sum_nil, Int.natCast_zero]; done))); focus (first | exact id | exact (fun h => nomatch h) | exact (fun _ => rfl)))))
  · intro i hi
    have hi : i ≤ L.length := hi
    have hw := w64_succ (n := i) (by omega)
    by_cases h' : i < L.length
    · have i1 : ((i : Int) < (L.length : Int)) = True := eq_true (by omega)
      have i2 : ((0 : Int) ≤ (i : Int)) = True := eq_true (by omega)
      obtain ⟨z, hz⟩ : ∃ z, z = L[i] := ⟨_, rfl⟩
      have hg : (L.map eCu)[i]? = some [.sl 1 (z.1.1.map eL), .sl 1 (z.1.2.map eI), .int z.2] := by rw [map_get h', hz]; rfl
      have htk : ((L.take (i + 1)).map (·.2)).sum = ((L.take i).map (·.2)).sum + z.2 := by
        rw [List.take_succ_eq_append_getElem h', List.map_append, List.sum_append, hz]; simp
      have h1 := hpre (i + 1)
      rw [htk] at h1
      have hwm := w64_eq (n := ((L.take i).map (·.2)).sum + z.2) (by omega)
      repeat' (first | with_reducible (first | refine Q1 ?_ | refine Q2 ?_ | refine Q3 ?_ | refine Q4 ?_ | refine Q5 ?_ | refine Q6 ?_ | refine Q7 ?_ | refine Q8 ?_ | refine Q9 ?_ | refine Qa ?_ | refine Qb ?_ | refine Qc ?_ | refine Qd ?_ | refine Qe ?_ | refine Qf ?_) | ((with_reducible refine Qo ?_ ?_); focus rfl) | ((with_reducible first | refine QT 7 (l := ?_) ?_ ?_ | refine QF 7 (l := ?_) ?_ ?_); rotate_left 1; focus (simp only [Zu, Nat.reduceSub, Nat.reduceBEq]; with_reducible rfl)) | ((with_reducible first | refine QS (cfg_ok 27) Tab.none (s' := ?_) ?_ ?_ | refine QC (b := ?_) ?_ ?_); rotate_left 1; focus ((with_reducible refine QW ?_); simp only [Zg, seval, if_true, if_false, reduceCtorEq, Nat.reduceEqDiff, i1, i2, hg, hLm, hw, hwm, Int.toNat_natCast]; with_reducible rfl)))
      refine roundK.on (i + 1) ⟨h', by omega⟩ ?_
      rw [htk]
      (repeat' (first | with_reducible refine Qn | ((with_reducible refine Qr ?_ ?_); focus (first | with_reducible rfl | (simp only [Zz, Nat.reduceBEq]; done) | rfl)) | ((with_reducible refine Qj (o' := ?_) ?_ ?_ ?_); rotate_left 1; focus rfl) | ((with_reducible refine Qw ?_ ?_); (focus (first | with_reducible rfl | (simp only [Zv]; done))); focus (first | exact id | exact (fun h => nomatch h) | exact (fun _ => rfl)))))
    · have i1 : ((i : Int) < (L.length : Int)) = False := eq_false (by omega)
      obtain rfl : i = L.length := by omega
      rw [List.take_length]
      repeat' (first | with_reducible (first | refine Q1 ?_ | refine Q2 ?_ | refine Q3 ?_ | refine Q4 ?_ | refine Q5 ?_ | refine Q6 ?_ | refine Q7 ?_ | refine Q8 ?_ | refine Q9 ?_ | refine Qa ?_ | refine Qb ?_ | refine Qc ?_ | refine Qd ?_ | refine Qe ?_ | refine Qf ?_) | ((with_reducible refine Qo ?_ ?_); focus rfl) | ((with_reducible first | refine QT 7 (l := ?_) ?_ ?_ | refine QF 7 (l := ?_) ?_ ?_); rotate_left 1; focus (simp only [Zu, Nat.reduceSub, Nat.reduceBEq]; with_reducible rfl)) | ((with_reducible first | refine QS (cfg_ok 27) Tab.none (s' := ?_) ?_ ?_ | refine QC (b := ?_) ?_ ?_); rotate_left 1; focus ((with_reducible refine QW ?_); simp only [Zg, seval, if_true, if_false, reduceCtorEq, Nat.reduceEqDiff, i1, hLm]; with_reducible rfl)))
      refine roundK.out () trivial ?_
      (repeat' (first | with_reducible refine Qn | ((with_reducible refine Qr ?_ ?_); focus (first | with_reducible rfl | (simp only [Zz, Nat.reduceBEq]; done) | rfl)) | ((with_reducible refine Qj (o' := ?_) ?_ ?_ ?_); rotate_left 1; focus rfl) | ((with_reducible refine Qw ?_ ?_); (focus (first | with_reducible rfl | (simp only [Zv]; done))); focus (first | exact id | exact (fun h => nomatch h) | exact (fun _ => rfl)))))
  · rintro _ _
    rw [hsum]
    repeat' (first | with_reducible (first | refine Q1 ?_ | refine Q2 ?_ | refine Q3 ?_ | refine Q4 ?_ | refine Q5 ?_ | refine Q6 ?_ | refine Q7 ?_ | refine Q8 ?_ | refine Q9 ?_ | refine Qa ?_ | refine Qb ?_ | refine Qc ?_ | refine Qd ?_ | refine Qe ?_ | refine Qf ?_) | ((with_reducible refine Qo ?_ ?_); focus rfl) | ((with_reducible first | refine QT 7 (l := ?_) ?_ ?_ | refine QF 7 (l := ?_) ?_ ?_); rotate_left 1; focus (simp only [Zu, Nat.reduceSub, Nat.reduceBEq]; with_reducible rfl)) | ((with_reducible first | refine QS (cfg_ok 27) Tab.none (s' := ?_) ?_ ?_ | refine QC (b := ?_) ?_ ?_); rotate_left 1; focus ((with_reducible refine QW ?_); simp only [Zg, seval, if_true, if_false, reduceCtorEq, Nat.reduceEqDiff]; with_reducible rfl)))
    (refine Ends.mk (by simp) (rs := ?_) (ks := ?_) hres hrts ?_ ?_ ?_; rotate_left 2; (focus (simp only [Ze, Zg, seval, if_true, if_false, reduceCtorEq, Nat.reduceEqDiff]; with_reducible rfl)); (focus simp); focus (first | with_reducible rfl | (simp only [Zv]; done)))
theorem k_spec_CountCuts (v : Value) (t : List Int) (w : World) (h : Rd (RS RI) w [v] t) (hsz : t.length ≤ 1048576) : Calls Try.prog 8 #[v] w (RetV w (.tuple #[.int .i64 (ccOf t).1, .int .i64 (ccOf t).2])) :=
  AFn.ii (v := .int .i64 _) (fun A w u hu => (rdV_int.1 hu).1) (a_spec_CountCuts t hsz) (args1 (arg_L h))
end Go.Proofs.Ytkdkikmhlhcndaa
namespace Go.Proofs.Ytkdkikmhlhcndaa
open Go.RowKit
set_option maxHeartbeats 1000000 in
theorem walk_FnExactCountCuts (v0 : Value) (x0 : List Int) (w : World) (h0 : Rd (RS RI) w [v0] x0) : Calls Try.prog 3 #[v0] w (RetV w (.bool true)) := by
  obtain ⟨a0, c0, hv0, hl0, hm0⟩ := h0.val
  unfold maxLen at hm0
  by_cases z0 : x0.length ≤ 1048576
  rotate_left
  · subst hv0
    go_enter Try.func3, Try.ntmps3
    go_wp2_with fail
    go_ret
    exact ⟨rfl, Below.refl _ _⟩
  subst hv0
  go_enter Try.func3, Try.ntmps3
  go_wp2_with fail
  refine (to_I _ x0 _ h0 z0).mono ?_
  rintro e w1 ⟨u1, rfl, o1, B1⟩
  have s1 := B1.size
  have BB := B1.mono (B' := w.heap.size) (by omega)
  go_wp2_with fail
  refine (k_spec_CountCuts _ x0 _ o1.rd z0).mono ?_
  rintro e w2 ⟨rfl, B2⟩
  have s2 := B2.size
  replace o1 := o1.below B2 (by omega)
  replace BB := BB.trans (B2.mono (B' := w.heap.size) (by omega))
  go_wp2_with fail
  refine (to_I _ x0 _ (h0.below BB (Nat.le_refl _)) z0).mono ?_
  rintro e w3 ⟨u3, rfl, o3, B3⟩
  have s3 := B3.size
  replace o1 := o1.below B3 (by omega)
  replace BB := BB.trans (B3.mono (B' := w.heap.size) (by omega))
  go_wp2_with fail
  refine (k_impl_CountCuts _ x0 _ o3.rd).mono ?_
  rintro e w4 ⟨rfl, B4⟩
  have s4 := B4.size
  replace o1 := o1.below B4 (by omega)
  replace o3 := o3.below B4 (by omega)
  replace BB := BB.trans (B4.mono (B' := w.heap.size) (by omega))
  go_wp2_with fail
  refine (to_I _ x0 _ (h0.below BB (Nat.le_refl _)) z0).mono ?_
  rintro e w5 ⟨u5, rfl, o5, B5⟩
  have s5 := B5.size
  replace o1 := o1.below B5 (by omega)
  replace o3 := o3.below B5 (by omega)
  replace BB := BB.trans (B5.mono (B' := w.heap.size) (by omega))
  go_wp2_with fail
  refine (eqv_I _ _ x0 _ o3.rd o5.rd).mono ?_
  rintro e w6 ⟨rfl, B6⟩
  have s6 := B6.size
  replace o1 := o1.below B6 (by omega)
  replace o3 := o3.below B6 (by omega)
  replace o5 := o5.below B6 (by omega)
  replace BB := BB.trans (B6.mono (B' := w.heap.size) (by omega))
  go_wp2_with fail
  go_ret
  exact ⟨rfl, BB⟩
end Go.Proofs.Ytkdkikmhlhcndaa
namespace Go.Proofs.Ytkdkikmhlhcndaa
open Go.RowKit
def numC (L : List Cu) (c : List (List Int)) (t : List Int) : Int := match L.find? (fun x => decide (x.1.1 = c ∧ x.1.2 = t)) with
  | some x => x.2
  | none => 0
def trkC (t : List Int) : List Int := if t = [] then [] else canon t
def okC (t : List Int) (c : List (List Int)) (k : List Int) : Bool := lev8 t && forB c && (decide (k = []) || lev8 k)
def cctC (t : List Int) (c : List (List Int)) (k : List Int) : Int × Int := if okC t c k = true then (numC (cutsL t) c (trkC k), 0) else (0, 1)
theorem numC_at {L : List Cu} {c : List (List Int)} {t : List Int} {i : Nat} (h : i < L.length) (hx : L[i].1.1 = c ∧ L[i].1.2 = t) (hl : ∀ x ∈ L.take i, ¬ (x.1.1 = c ∧ x.1.2 = t)) : numC L c t = L[i].2 := by
  have e : L.find? (fun x => decide (x.1.1 = c ∧ x.1.2 = t)) = some L[i] := by
    have h1 : L = L.take i ++ L[i] :: L.drop (i + 1) := by rw [← List.drop_eq_getElem_cons h, List.take_append_drop]
    have h2 : (L.take i).find? (fun x => decide (x.1.1 = c ∧ x.1.2 = t)) = none := List.find?_eq_none.2 (fun x hx' => by simpa using hl x hx')
    conv => lhs; rw [h1, List.find?_append, h2]
    rw [Option.none_or, List.find?_cons_of_pos (by simpa using hx)]
  unfold numC; rw [e]
theorem numC_no {L : List Cu} {c : List (List Int)} {t : List Int} (hl : ∀ x ∈ L, ¬ (x.1.1 = c ∧ x.1.2 = t)) : numC L c t = 0 := by
  have e : L.find? (fun x => decide (x.1.1 = c ∧ x.1.2 = t)) = none := List.find?_eq_none.2 (fun x hx' => by simpa using hl x hx')
  unfold numC; rw [e]
theorem cuts_bd {t : List Int} (h : LevP t) (hl : t.length ≤ 8) : (cutsL t).length ≤ 256 ∧ ∀ x ∈ cutsL t, (1 ≤ x.2 ∧ x.2 ≤ 256) ∧ SmF x.1.1 := by
  have h0 := (gathS_is (split t)).len
  rw [List.length_map] at h0
  have h1 := split_len8 h hl
  refine ⟨by unfold cutsL; rw [List.length_map]; omega, fun x hx => ?_⟩
  obtain ⟨z, hz, rfl⟩ := List.mem_map.1 hx
  obtain ⟨g1, g2, g3⟩ := gath_good (split_good _ (Nat.le_refl _) h) z hz
  exact ⟨⟨g1, by show z.2 ≤ 256; omega⟩, (g3.ha (by omega)).1.sm⟩
theorem okC_false {t : List Int} {c : List (List Int)} {k : List Int} (h : okC t c k = false) : lev8 t = false ∨ (lev8 t = true ∧ forB c = false) ∨ (lev8 t = true ∧ forB c = true ∧ k ≠ [] ∧ lev8 k = false) := by
  unfold okC at h
  cases h1 : lev8 t
  · exact .inl rfl
  · cases h2 : forB c
    · exact .inr (.inl ⟨rfl, rfl⟩)
    · rw [h1, h2] at h
      simp only [Bool.true_and, Bool.or_eq_false_iff, decide_eq_false_iff_not] at h
      exact .inr (.inr ⟨rfl, rfl, h⟩)
noncomputable def TCct : Tab Try.prog :=
  ((((Tab.none.add 33 (tab1 codL fun t => some [.val (.bool (lev8 t))]) (tab1_ok fun t rs h => by cases h; exact a_impl_IsLevels t)).add
    48 (tab1 codLL fun f => if sumLen f ≤ 1048576 ∧ f.length ≤ 1048576 then some [.val (.bool (forB f))] else none) (tab1_ok fun f rs h => by split at h; cases h; rename_i hs; exact a_impl_IsForest f (by omega) (by omega); cases h)).add
    49 (tab1 codL fun t => if lev8 t = true then some [.val (.sl 1 ((canon t).map eI))] else none) (tab1_ok fun t rs h => by split at h; cases h; rename_i hs; exact AFn.valT (a_canonical t (lev8_lev hs) (lev8_len hs)); cases h)).add
    50 (tab2 codLL codLL fun f g => if SmF f ∧ SmF g then some [.val (.int (cmpF f g))] else none) (tab2_ok fun f g rs h => by split at h; cases h; rename_i hs; exact a_compareForests f g (by have := hs.1.2; omega) (by have := hs.2.2; omega); cases h)).add
    51 (tab2 codL codL fun s t => some [.val (.bool (decide (s = t)))]) (tab2_ok fun s t rs h => by cases h; exact a_slicesEqual s t)
set_option maxRecDepth 20000 in
set_option maxHeartbeats 8000000 in
theorem a_impl_CountCut (t : List Int) (c : List (List Int)) (k : List Int) (hc1 : sumLen c ≤ 1048576) (hc2 : c.length ≤ 1048576) : AFn Try.prog 26 [eL t, eLL c, eL k] (· = [.val (.int (cctC t c k).1), .val (.int (cctC t c k).2)]) := by
  have s1 := eq_true (And.intro hc1 hc2)
  unfold cctC
  by_cases hok : okC t c k = true
  rotate_left
  · have hok' : okC t c k = false := by simpa using hok
    rw [if_neg hok]
    refine AFn.of_runs (cfg_ok 54) Try.func26 rfl rfl rfl (by simp only [List.length_cons, List.length_nil]; decide) ?_
    have hres : Try.f26.results.toList = [.tmp 6, .tmp 7] := rfl
    have hrts : Try.f26.resultTypes.toList = [2, 2] := rfl
    simp only [argRegs, argAV1, eL, eI, eLL, eB, Nat.zero_add, Nat.reduceAdd]
    intro M
    refine RunK.of ?_
    rcases okC_false hok' with h1 | ⟨h1, h2⟩ | ⟨h1, h2, h3, h4⟩
    · repeat' (first | with_reducible (first | refine Q1 ?_ | refine Q2 ?_ | refine Q3 ?_ | refine Q4 ?_ | refine Q5 ?_ | refine Q6 ?_ | refine Q7 ?_ | refine Q8 ?_ | refine Q9 ?_ | refine Qa ?_ | refine Qb ?_ | refine Qc ?_ | refine Qd ?_ | refine Qe ?_ | refine Qf ?_) | ((with_reducible refine Qo ?_ ?_); focus rfl) | ((with_reducible first | refine QT 37 (l := ?_) ?_ ?_ | refine QF 37 (l := ?_) ?_ ?_); rotate_left 1; focus (simp only [Zu, Nat.reduceSub, Nat.reduceBEq]; with_reducible rfl)) | ((with_reducible first | refine QS (cfg_ok 54) TCct (s' := ?_) ?_ ?_ | refine QC (b := ?_) ?_ ?_); rotate_left 1; focus ((with_reducible refine QW ?_); simp only [Zg, seval, if_true, if_false, reduceCtorEq, Nat.reduceEqDiff, TCct, TCct, h1, s1]; with_reducible rfl)))
      (refine Ends.mk (by simp) (rs := ?_) (ks := ?_) hres hrts ?_ ?_ ?_; rotate_left 2; (focus (simp only [Ze, Zg, seval, if_true, if_false, reduceCtorEq, Nat.reduceEqDiff]; with_reducible rfl)); (focus simp); focus (first | with_reducible rfl | (simp only [Zv]; done)))
    · repeat' (first | with_reducible (first | refine Q1 ?_ | refine Q2 ?_ | refine Q3 ?_ | refine Q4 ?_ | refine Q5 ?_ | refine Q6 ?_ | refine Q7 ?_ | refine Q8 ?_ | refine Q9 ?_ | refine Qa ?_ | refine Qb ?_ | refine Qc ?_ | refine Qd ?_ | refine Qe ?_ | refine Qf ?_) | ((with_reducible refine Qo ?_ ?_); focus rfl) | ((with_reducible first | refine QT 37 (l := ?_) ?_ ?_ | refine QF 37 (l := ?_) ?_ ?_); rotate_left 1; focus (simp only [Zu, Nat.reduceSub, Nat.reduceBEq]; with_reducible rfl)) | ((with_reducible first | refine QS (cfg_ok 54) TCct (s' := ?_) ?_ ?_ | refine QC (b := ?_) ?_ ?_); rotate_left 1; focus ((with_reducible refine QW ?_); simp only [Zg, seval, if_true, if_false, reduceCtorEq, Nat.reduceEqDiff, TCct, TCct, h1, h2, s1]; with_reducible rfl)))
      (refine Ends.mk (by simp) (rs := ?_) (ks := ?_) hres hrts ?_ ?_ ?_; rotate_left 2; (focus (simp only [Ze, Zg, seval, if_true, if_false, reduceCtorEq, Nat.reduceEqDiff]; with_reducible rfl)); (focus simp); focus (first | with_reducible rfl | (simp only [Zv]; done)))
    · have j1 : ((k.length : Int) > 0) = True := eq_true (by have := List.length_pos_iff.2 h3; omega)
      repeat' (first | with_reducible (first | refine Q1 ?_ | refine Q2 ?_ | refine Q3 ?_ | refine Q4 ?_ | refine Q5 ?_ | refine Q6 ?_ | refine Q7 ?_ | refine Q8 ?_ | refine Q9 ?_ | refine Qa ?_ | refine Qb ?_ | refine Qc ?_ | refine Qd ?_ | refine Qe ?_ | refine Qf ?_) | ((with_reducible refine Qo ?_ ?_); focus rfl) | ((with_reducible first | refine QT 37 (l := ?_) ?_ ?_ | refine QF 37 (l := ?_) ?_ ?_); rotate_left 1; focus (simp only [Zu, Nat.reduceSub, Nat.reduceBEq]; with_reducible rfl)) | ((with_reducible first | refine QS (cfg_ok 54) TCct (s' := ?_) ?_ ?_ | refine QC (b := ?_) ?_ ?_); rotate_left 1; focus ((with_reducible refine QW ?_); simp only [Zg, seval, if_true, if_false, reduceCtorEq, Nat.reduceEqDiff, TCct, TCct, h1, h2, h4, s1, j1, List.length_map]; with_reducible rfl)))
      (refine Ends.mk (by simp) (rs := ?_) (ks := ?_) hres hrts ?_ ?_ ?_; rotate_left 2; (focus (simp only [Ze, Zg, seval, if_true, if_false, reduceCtorEq, Nat.reduceEqDiff]; with_reducible rfl)); (focus simp); focus (first | with_reducible rfl | (simp only [Zv]; done)))
  rw [if_pos hok]
  have hok0 := hok
  unfold okC at hok
  simp only [Bool.and_eq_true, Bool.or_eq_true, decide_eq_true_eq] at hok
  obtain ⟨⟨h1, h2⟩, h3⟩ := hok
  have hlev := lev8_lev h1
  have h8 := lev8_len h1
  have hcu := AFn.valT (a_cutsOf t hlev h8)
  obtain ⟨hLl, hLx⟩ := cuts_bd hlev h8
  obtain ⟨L, hL⟩ : ∃ L, L = cutsL t := ⟨_, rfl⟩
  rw [← hL] at hcu hLl hLx ⊢
  have hcs : SmF c := ⟨by have := forB_short h2; omega, by have := (forB_spec h2).1; omega⟩
  obtain ⟨T, hT⟩ : ∃ T, T = trkC k := ⟨_, rfl⟩
  rw [← hT]
  have hLm : (L.map eCu).length = L.length := List.length_map _
  simp only [eL] at hcu
  have hcase : (k = [] ∧ k = T) ∨ (k ≠ [] ∧ lev8 k = true ∧ T = canon k) := by
    by_cases hk : k = []
    · exact .inl ⟨hk, by rw [hT]; unfold trkC; rw [if_pos hk]; exact hk⟩
    · refine .inr ⟨hk, h3.resolve_left hk, ?_⟩
      rw [hT]; unfold trkC; rw [if_neg hk]
  refine AFn.of_runs (cfg_ok 54) Try.func26 rfl rfl rfl (by simp only [List.length_cons, List.length_nil]; decide) ?_
  have hres : Try.f26.results.toList = [.tmp 6, .tmp 7] := rfl
  have hrts : Try.f26.resultTypes.toList = [2, 2] := rfl
  simp only [argRegs, argAV1, eL, eI, eLL, eB, Nat.zero_add, Nat.reduceAdd]
  intro M
  refine RunK.of ?_
  rcases hcase with ⟨hk, hkT⟩ | ⟨hk, hk8, hkT⟩
  case' inl =>
    have j1 : ((k.length : Int) > 0) = False := eq_false (by rw [hk]; simp)
    repeat' (first | with_reducible (first | refine Q1 ?_ | refine Q2 ?_ | refine Q3 ?_ | refine Q4 ?_ | refine Q5 ?_ | refine Q6 ?_ | refine Q7 ?_ | refine Q8 ?_ | refine Q9 ?_ | refine Qa ?_ | refine Qb ?_ | refine Qc ?_ | refine Qd ?_ | refine Qe ?_ | refine Qf ?_) | ((with_reducible refine Qo ?_ ?_); focus rfl) | ((with_reducible first | refine QT 37 (l := ?_) ?_ ?_ | refine QF 37 (l := ?_) ?_ ?_); rotate_left 1; focus (simp only [Zu, Nat.reduceSub, Nat.reduceBEq]; with_reducible rfl)) | ((with_reducible first | refine QS (cfg_ok 54) (TCct.at' 40 hcu) (s' := ?_) ?_ ?_ | refine QC (b := ?_) ?_ ?_); rotate_left 1; focus ((with_reducible refine QW ?_); simp only [Zg, seval, if_true, if_false, reduceCtorEq, Nat.reduceEqDiff, TCct, h1, h2, s1, j1, hLm, List.length_map]; with_reducible rfl)))
    rw [hkT]
  case' inr =>
    have j1 : ((k.length : Int) > 0) = True := eq_true (by have := List.length_pos_iff.2 hk; omega)
    repeat' (first | with_reducible (first | refine Q1 ?_ | refine Q2 ?_ | refine Q3 ?_ | refine Q4 ?_ | refine Q5 ?_ | refine Q6 ?_ | refine Q7 ?_ | refine Q8 ?_ | refine Q9 ?_ | refine Qa ?_ | refine Qb ?_ | refine Qc ?_ | refine Qd ?_ | refine Qe ?_ | refine Qf ?_) | ((with_reducible refine Qo ?_ ?_); focus rfl) | ((with_reducible first | refine QT 37 (l := ?_) ?_ ?_ | refine QF 37 (l := ?_) ?_ ?_); rotate_left 1; focus (simp only [Zu, Nat.reduceSub, Nat.reduceBEq]; with_reducible rfl)) | ((with_reducible first | refine QS (cfg_ok 54) (TCct.at' 40 hcu) (s' := ?_) ?_ ?_ | refine QC (b := ?_) ?_ ?_); rotate_left 1; focus ((with_reducible refine QW ?_); simp only [Zg, seval, if_true, if_false, reduceCtorEq, Nat.reduceEqDiff, TCct, h1, h2, hk8, s1, j1, hLm, List.length_map]; with_reducible rfl)))
    rw [← hkT]
  all_goals
    refine RunK.loop (β := Nat) (γ := Unit) (fun i => ⟨[(1, .c (.val (.sl 1 (c.map eL)))), (2, .c (.val (.sl 1 (T.map eI)))), (34, .c (.val (.sl 3 (L.map eCu)))), (35, .c (.val (.int L.length))), (36, .c (.val (.int i)))], []⟩) (fun i => i ≤ L.length ∧ ∀ x ∈ L.take i, ¬ (x.1.1 = c ∧ x.1.2 = T)) (fun i => L.length - i)
      (fun _ => ⟨[], []⟩) (fun _ => ∀ x ∈ L, ¬ (x.1.1 = c ∧ x.1.2 = T)) 0 ⟨Nat.zero_le _, by simp⟩ ?_ ?_ ?_
    · (repeat' (first | with_reducible refine Qn | ((with_reducible refine Qr ?_ ?_); focus (first | with_reducible rfl | (simp only [Zz, Nat.reduceBEq, Int.natCast_zero]; done) | rfl)) | ((with_reducible refine Qj (o' := ?_) ?_ ?_ ?_); rotate_left 1; focus rfl) | ((with_reducible refine Qw ?_ ?_); (focus (first | with_reducible rfl | (simp only [Zv, Int.natCast_zero]; done))); focus (first | exact id | exact (fun h => nomatch h) | exact (fun _ => rfl)))))
    · rintro i ⟨hi, hlow⟩
      have hw := w64_succ (n := i) (by omega)
      by_cases h' : i < L.length
      · have i1 : ((i : Int) < (L.length : Int)) = True := eq_true (by omega)
        have i2 : ((0 : Int) ≤ (i : Int)) = True := eq_true (by omega)
        obtain ⟨z, hz⟩ : ∃ z, z = L[i] := ⟨_, rfl⟩
        have hg : (L.map eCu)[i]? = some [.sl 1 (z.1.1.map eL), .sl 1 (z.1.2.map eI), .int z.2] := by rw [map_get h', hz]; rfl
        have hzx := (hLx L[i] (List.getElem_mem _)).2
        rw [← hz] at hzx
        have e1 := eq_true (And.intro hzx hcs)
        have next : ¬ (z.1.1 = c ∧ z.1.2 = T) → ∀ x ∈ L.take (i + 1), ¬ (x.1.1 = c ∧ x.1.2 = T) := fun hn x hx => by
          rw [List.take_succ_eq_append_getElem h', List.mem_append, List.mem_singleton] at hx
          rcases hx with hx | rfl
          · exact hlow x hx
          · rw [← hz]; exact hn
        by_cases hcz : z.1.1 = c
        · have d1 : (cmpF z.1.1 c == 0) = true := beq_iff_eq.2 (by rw [hcz]; exact cmpF_cmp.refl _)
          by_cases htz : z.1.2 = T
          · have d2 : decide (z.1.2 = T) = true := decide_eq_true htz
            repeat' (first | with_reducible (first | refine Q1 ?_ | refine Q2 ?_ | refine Q3 ?_ | refine Q4 ?_ | refine Q5 ?_ | refine Q6 ?_ | refine Q7 ?_ | refine Q8 ?_ | refine Q9 ?_ | refine Qa ?_ | refine Qb ?_ | refine Qc ?_ | refine Qd ?_ | refine Qe ?_ | refine Qf ?_) | ((with_reducible refine Qo ?_ ?_); focus rfl) | ((with_reducible first | refine QT 37 (l := ?_) ?_ ?_ | refine QF 37 (l := ?_) ?_ ?_); rotate_left 1; focus (simp only [Zu, Nat.reduceSub, Nat.reduceBEq]; with_reducible rfl)) | ((with_reducible first | refine QS (cfg_ok 54) TCct (s' := ?_) ?_ ?_ | refine QC (b := ?_) ?_ ?_); rotate_left 1; focus ((with_reducible refine QW ?_); simp only [Zg, seval, if_true, if_false, reduceCtorEq, Nat.reduceEqDiff, TCct, TCct, i1, i2, hg, hLm, e1, d1, d2, Int.toNat_natCast]; with_reducible rfl)))
            refine roundK.ret ?_
            repeat' (first | with_reducible (first | refine Q1 ?_ | refine Q2 ?_ | refine Q3 ?_ | refine Q4 ?_ | refine Q5 ?_ | refine Q6 ?_ | refine Q7 ?_ | refine Q8 ?_ | refine Q9 ?_ | refine Qa ?_ | refine Qb ?_ | refine Qc ?_ | refine Qd ?_ | refine Qe ?_ | refine Qf ?_) | ((with_reducible refine Qo ?_ ?_); focus rfl) | ((with_reducible first | refine QT 37 (l := ?_) ?_ ?_ | refine QF 37 (l := ?_) ?_ ?_); rotate_left 1; focus (simp only [Zu, Nat.reduceSub, Nat.reduceBEq]; with_reducible rfl)) | ((with_reducible first | refine QS (cfg_ok 54) Tab.none (s' := ?_) ?_ ?_ | refine QC (b := ?_) ?_ ?_); rotate_left 1; focus ((with_reducible refine QW ?_); simp only [Zg, seval, if_true, if_false, reduceCtorEq, Nat.reduceEqDiff]; with_reducible rfl)))
            have hnum := numC_at h' (by rw [← hz]; exact ⟨hcz, htz⟩) hlow
            rw [← hz] at hnum
            rw [hnum]
            (refine Ends.mk (by simp) (rs := ?_) (ks := ?_) hres hrts ?_ ?_ ?_; rotate_left 2; (focus (simp only [Ze, Zg, seval, if_true, if_false, reduceCtorEq, Nat.reduceEqDiff]; with_reducible rfl)); (focus simp); focus (first | with_reducible rfl | (simp only [Zv]; done)))
          · have d2 : decide (z.1.2 = T) = false := decide_eq_false htz
            repeat' (first | with_reducible (first | refine Q1 ?_ | refine Q2 ?_ | refine Q3 ?_ | refine Q4 ?_ | refine Q5 ?_ | refine Q6 ?_ | refine Q7 ?_ | refine Q8 ?_ | refine Q9 ?_ | refine Qa ?_ | refine Qb ?_ | refine Qc ?_ | refine Qd ?_ | refine Qe ?_ | refine Qf ?_) | ((with_reducible refine Qo ?_ ?_); focus rfl) | ((with_reducible first | refine QT 37 (l := ?_) ?_ ?_ | refine QF 37 (l := ?_) ?_ ?_); rotate_left 1; focus (simp only [Zu, Nat.reduceSub, Nat.reduceBEq]; with_reducible rfl)) | ((with_reducible first | refine QS (cfg_ok 54) TCct (s' := ?_) ?_ ?_ | refine QC (b := ?_) ?_ ?_); rotate_left 1; focus ((with_reducible refine QW ?_); simp only [Zg, seval, if_true, if_false, reduceCtorEq, Nat.reduceEqDiff, TCct, TCct, i1, i2, hg, hLm, hw, e1, d1, d2, Int.toNat_natCast]; with_reducible rfl)))
            refine roundK.on (i + 1) ⟨⟨h', next (fun h => htz h.2)⟩, by omega⟩ ?_
            (repeat' (first | with_reducible refine Qn | ((with_reducible refine Qr ?_ ?_); focus (first | with_reducible rfl | (simp only [Zz, Nat.reduceBEq]; done) | rfl)) | ((with_reducible refine Qj (o' := ?_) ?_ ?_ ?_); rotate_left 1; focus rfl) | ((with_reducible refine Qw ?_ ?_); (focus (first | with_reducible rfl | (simp only [Zv]; done))); focus (first | exact id | exact (fun h => nomatch h) | exact (fun _ => rfl)))))
        · have d1 : (cmpF z.1.1 c == 0) = false := beq_eq_false_iff_ne.2 (fun h => hcz (cmpF_cmp.zero _ _ h))
          repeat' (first | with_reducible (first | refine Q1 ?_ | refine Q2 ?_ | refine Q3 ?_ | refine Q4 ?_ | refine Q5 ?_ | refine Q6 ?_ | refine Q7 ?_ | refine Q8 ?_ | refine Q9 ?_ | refine Qa ?_ | refine Qb ?_ | refine Qc ?_ | refine Qd ?_ | refine Qe ?_ | refine Qf ?_) | ((with_reducible refine Qo ?_ ?_); focus rfl) | ((with_reducible first | refine QT 37 (l := ?_) ?_ ?_ | refine QF 37 (l := ?_) ?_ ?_); rotate_left 1; focus (simp only [Zu, Nat.reduceSub, Nat.reduceBEq]; with_reducible rfl)) | ((with_reducible first | refine QS (cfg_ok 54) TCct (s' := ?_) ?_ ?_ | refine QC (b := ?_) ?_ ?_); rotate_left 1; focus ((with_reducible refine QW ?_); simp only [Zg, seval, if_true, if_false, reduceCtorEq, Nat.reduceEqDiff, TCct, TCct, i1, i2, hg, hLm, hw, e1, d1, Int.toNat_natCast]; with_reducible rfl)))
          refine roundK.on (i + 1) ⟨⟨h', next (fun h => hcz h.1)⟩, by omega⟩ ?_
          (repeat' (first | with_reducible refine Qn | ((with_reducible refine Qr ?_ ?_); focus (first | with_reducible rfl | (simp only [Zz, Nat.reduceBEq]; done) | rfl)) | ((with_reducible refine Qj (o' := ?_) ?_ ?_ ?_); rotate_left 1; focus rfl) | ((with_reducible refine Qw ?_ ?_); (focus (first | with_reducible rfl | (simp only [Zv]; done))); focus (first | exact id | exact (fun h => nomatch h) | exact (fun _ => rfl)))))
      · have i1 : ((i : Int) < (L.length : Int)) = False := eq_false (by omega)
        obtain rfl : i = L.length := by omega
        rw [List.take_length] at hlow
        repeat' (first | with_reducible (first | refine Q1 ?_ | refine Q2 ?_ | refine Q3 ?_ | refine Q4 ?_ | refine Q5 ?_ | refine Q6 ?_ | refine Q7 ?_ | refine Q8 ?_ | refine Q9 ?_ | refine Qa ?_ | refine Qb ?_ | refine Qc ?_ | refine Qd ?_ | refine Qe ?_ | refine Qf ?_) | ((with_reducible refine Qo ?_ ?_); focus rfl) | ((with_reducible first | refine QT 37 (l := ?_) ?_ ?_ | refine QF 37 (l := ?_) ?_ ?_); rotate_left 1; focus (simp only [Zu, Nat.reduceSub, Nat.reduceBEq]; with_reducible rfl)) | ((with_reducible first | refine QS (cfg_ok 54) Tab.none (s' := ?_) ?_ ?_ | refine QC (b := ?_) ?_ ?_); rotate_left 1; focus ((with_reducible refine QW ?_); simp only [Zg, seval, if_true, if_false, reduceCtorEq, Nat.reduceEqDiff, i1]; with_reducible rfl)))
        refine roundK.out () hlow ?_
        (repeat' (first | with_reducible refine Qn | ((with_reducible refine Qr ?_ ?_); focus (first | with_reducible rfl | (simp only [Zz, Nat.reduceBEq]; done) | rfl)) | ((with_reducible refine Qj (o' := ?_) ?_ ?_ ?_); rotate_left 1; focus rfl) | ((with_reducible refine Qw ?_ ?_); (focus (first | with_reducible rfl | (simp only [Zv]; done))); focus (first | exact id | exact (fun h => nomatch h) | exact (fun _ => rfl)))))
    · rintro _ hno
      rw [numC_no hno]
      repeat' (first | with_reducible (first | refine Q1 ?_ | refine Q2 ?_ | refine Q3 ?_ | refine Q4 ?_ | refine Q5 ?_ | refine Q6 ?_ | refine Q7 ?_ | refine Q8 ?_ | refine Q9 ?_ | refine Qa ?_ | refine Qb ?_ | refine Qc ?_ | refine Qd ?_ | refine Qe ?_ | refine Qf ?_) | ((with_reducible refine Qo ?_ ?_); focus rfl) | ((with_reducible first | refine QT 37 (l := ?_) ?_ ?_ | refine QF 37 (l := ?_) ?_ ?_); rotate_left 1; focus (simp only [Zu, Nat.reduceSub, Nat.reduceBEq]; with_reducible rfl)) | ((with_reducible first | refine QS (cfg_ok 54) Tab.none (s' := ?_) ?_ ?_ | refine QC (b := ?_) ?_ ?_); rotate_left 1; focus ((with_reducible refine QW ?_); simp only [Zg, seval, if_true, if_false, reduceCtorEq, Nat.reduceEqDiff]; with_reducible rfl)))
      (refine Ends.mk (by simp) (rs := ?_) (ks := ?_) hres hrts ?_ ?_ ?_; rotate_left 2; (focus (simp only [Ze, Zg, seval, if_true, if_false, reduceCtorEq, Nat.reduceEqDiff]; with_reducible rfl)); (focus simp); focus (first | with_reducible rfl | (simp only [Zv]; done)))
theorem k_impl_CountCut (v0 v1 v2 : Value) (t : List Int) (c : List (List Int)) (k : List Int) (w : World) (h0 : Rd (RS RI) w [v0] t) (h1 : Rd (RS (RS RI)) w [v1] c) (h2 : Rd (RS RI) w [v2] k) (_ : t.length ≤ 1048576) (hc : szII c) (_ : k.length ≤ 1048576) : Calls Try.prog 26 #[v0, v1, v2] w (RetV w (.tuple #[.int .i64 (cctC t c k).1, .int .i64 (cctC t c k).2])) :=
  AFn.ii (v := .int .i64 _) (fun A w u hu => (rdV_int.1 hu).1) (a_impl_CountCut t c k (by unfold szII at hc; omega) (by unfold szII at hc; omega)) (args3 (arg_L h0) (arg_LL h1) (arg_L h2))
set_option maxHeartbeats 2000000 in
theorem a_l01Same2 (f g : List (List Int)) (hf : f.length ≤ 1000000000) (hg : g.length ≤ 1000000000) : AFn Try.prog 46 [eLL f, eLL g] (· = [.val (.bool (decide (f = g)))]) := by
  have hfm : (f.map eL).length = f.length := List.length_map _
  have hgm : (g.map eL).length = g.length := List.length_map _
  refine AFn.of_runs (cfg_ok 27) Try.func46 rfl rfl rfl (by simp only [List.length_cons, List.length_nil]; decide) ?_
  have hres : Try.f46.results.toList = [.tmp 4] := rfl
  have hrts : Try.f46.resultTypes.toList = [4] := rfl
  simp only [argRegs, argAV1, eL, eI, eLL, eB, Nat.zero_add, Nat.reduceAdd]
  intro M
  refine RunK.of ?_
  by_cases hl : f.length = g.length
  · have hb : ((f.length : Int) != (g.length : Int)) = false := by simp [hl]
    repeat' (first | with_reducible (first | refine Q1 ?_ | refine Q2 ?_ | refine Q3 ?_ | refine Q4 ?_ | refine Q5 ?_ | refine Q6 ?_ | refine Q7 ?_ | refine Q8 ?_ | refine Q9 ?_ | refine Qa ?_ | refine Qb ?_ | refine Qc ?_ | refine Qd ?_ | refine Qe ?_ | refine Qf ?_) | ((with_reducible refine Qo ?_ ?_); focus rfl) | ((with_reducible first | refine QT 6 (l := ?_) ?_ ?_ | refine QF 6 (l := ?_) ?_ ?_); rotate_left 1; focus (simp only [Zu, Nat.reduceSub, Nat.reduceBEq]; with_reducible rfl)) | ((with_reducible first | refine QS (cfg_ok 27) Tab.none (s' := ?_) ?_ ?_ | refine QC (b := ?_) ?_ ?_); rotate_left 1; focus ((with_reducible refine QW ?_); simp only [Zg, seval, if_true, if_false, reduceCtorEq, Nat.reduceEqDiff, hfm, hgm, hb]; with_reducible rfl)) | ((with_reducible refine QD (cfg_ok 27) Tab.none mixed_ok (tr := ?_) (s' := ?_) ?_ ?_ ?_); rotate_left 2; (focus ((with_reducible refine QW ?_); simp only [Zg, Zd, seval, if_true, if_false, reduceCtorEq, Nat.reduceEqDiff, hfm, hgm, hb]; with_reducible rfl)); focus ((with_reducible refine QK ?_); simp only [Zk]; kernel_rfl)))
    refine RunK.loop (β := Nat) (γ := Unit) (fun i => ⟨[(0, .c (.val (.sl 1 (f.map eL)))), (1, .c (.val (.sl 1 (g.map eL)))), (5, .c (.val (.int i)))], []⟩) (fun i => i ≤ f.length ∧ f.take i = g.take i) (fun i => f.length - i)
      (fun _ => ⟨[], []⟩) (fun _ => f = g) 0 ⟨Nat.zero_le _, rfl⟩ ?_ ?_ ?_
    · (repeat' (first | with_reducible refine Qn | ((with_reducible refine Qr ?_ ?_); focus (first | with_reducible rfl | (simp only [Zz, Nat.reduceBEq, Int.natCast_zero]; done) | rfl)) | ((with_reducible refine Qj (o' := ?_) ?_ ?_ ?_); rotate_left 1; focus rfl) | ((with_reducible refine Qw ?_ ?_); (focus (first | with_reducible rfl | (simp only [Zv, Int.natCast_zero]; done))); focus (first | exact id | exact (fun h => nomatch h) | exact (fun _ => rfl)))))
    · rintro i ⟨hi, ht⟩
      have hw := w64_succ (n := i) (by omega)
      by_cases h : i < f.length
      · have h2 : i < g.length := by omega
        have i1 : ((i : Int) < (f.length : Int)) = True := eq_true (by omega)
        have i1' : ((i : Int) < (g.length : Int)) = True := eq_true (by omega)
        have i2 : ((0 : Int) ≤ (i : Int)) = True := eq_true (by omega)
        obtain ⟨s, hs⟩ : ∃ s, s = f[i] := ⟨_, rfl⟩
        obtain ⟨t, htt⟩ : ∃ t, t = g[i] := ⟨_, rfl⟩
        have hgs : (f.map eL)[i]? = some [.sl 1 (s.map eI)] := by rw [map_get h, hs]; rfl
        have hgt : (g.map eL)[i]? = some [.sl 1 (t.map eI)] := by rw [map_get h2, htt]; rfl
        have hsm := a_l01Same s t
        simp only [eL] at hsm
        by_cases hst : s = t
        · rw [decide_eq_true hst] at hsm
          repeat' (first | with_reducible (first | refine Q1 ?_ | refine Q2 ?_ | refine Q3 ?_ | refine Q4 ?_ | refine Q5 ?_ | refine Q6 ?_ | refine Q7 ?_ | refine Q8 ?_ | refine Q9 ?_ | refine Qa ?_ | refine Qb ?_ | refine Qc ?_ | refine Qd ?_ | refine Qe ?_ | refine Qf ?_) | ((with_reducible refine Qo ?_ ?_); focus rfl) | ((with_reducible first | refine QT 6 (l := ?_) ?_ ?_ | refine QF 6 (l := ?_) ?_ ?_); rotate_left 1; focus (simp only [Zu, Nat.reduceSub, Nat.reduceBEq]; with_reducible rfl)) | ((with_reducible first | refine QS (cfg_ok 27) (Tab.none.at' 47 hsm) (s' := ?_) ?_ ?_ | refine QC (b := ?_) ?_ ?_); rotate_left 1; focus ((with_reducible refine QW ?_); simp only [Zg, seval, if_true, if_false, reduceCtorEq, Nat.reduceEqDiff, hfm, hgm, i1, i1', i2, hgs, hgt, hw, Int.toNat_natCast]; with_reducible rfl)) | ((with_reducible refine QD (cfg_ok 27) (Tab.none.at' 47 hsm) mixed_ok (tr := ?_) (s' := ?_) ?_ ?_ ?_); rotate_left 2; (focus ((with_reducible refine QW ?_); simp only [Zg, Zd, seval, if_true, if_false, reduceCtorEq, Nat.reduceEqDiff, hfm, hgm, i1, i1', i2, hgs, hgt, hw, Int.toNat_natCast]; with_reducible rfl)); focus ((with_reducible refine QK ?_); simp only [Zk]; kernel_rfl)))
          refine roundK.on (i + 1) ⟨⟨h, ?_⟩, by omega⟩ ?_
          · rw [List.take_succ_eq_append_getElem h, List.take_succ_eq_append_getElem h2, ht, ← hs, ← htt, hst]
          · (repeat' (first | with_reducible refine Qn | ((with_reducible refine Qr ?_ ?_); focus (first | with_reducible rfl | (simp only [Zz, Nat.reduceBEq]; done) | rfl)) | ((with_reducible refine Qj (o' := ?_) ?_ ?_ ?_); rotate_left 1; focus rfl) | ((with_reducible refine Qw ?_ ?_); (focus (first | with_reducible rfl | (simp only [Zv]; done))); focus (first | exact id | exact (fun h => nomatch h) | exact (fun _ => rfl)))))
        · rw [decide_eq_false hst] at hsm
          have hne : f ≠ g := fun e => hst (by rw [hs, htt]; subst e; rfl)
          rw [decide_eq_false hne]
          repeat' (first | with_reducible (first | refine Q1 ?_ | refine Q2 ?_ | refine Q3 ?_ | refine Q4 ?_ | refine Q5 ?_ | refine Q6 ?_ | refine Q7 ?_ | refine Q8 ?_ | refine Q9 ?_ | refine Qa ?_ | refine Qb ?_ | refine Qc ?_ | refine Qd ?_ | refine Qe ?_ | refine Qf ?_) | ((with_reducible refine Qo ?_ ?_); focus rfl) | ((with_reducible first | refine QT 6 (l := ?_) ?_ ?_ | refine QF 6 (l := ?_) ?_ ?_); rotate_left 1; focus (simp only [Zu, Nat.reduceSub, Nat.reduceBEq]; with_reducible rfl)) | ((with_reducible first | refine QS (cfg_ok 27) (Tab.none.at' 47 hsm) (s' := ?_) ?_ ?_ | refine QC (b := ?_) ?_ ?_); rotate_left 1; focus ((with_reducible refine QW ?_); simp only [Zg, seval, if_true, if_false, reduceCtorEq, Nat.reduceEqDiff, hfm, hgm, i1, i1', i2, hgs, hgt, hw, Int.toNat_natCast]; with_reducible rfl)) | ((with_reducible refine QD (cfg_ok 27) (Tab.none.at' 47 hsm) mixed_ok (tr := ?_) (s' := ?_) ?_ ?_ ?_); rotate_left 2; (focus ((with_reducible refine QW ?_); simp only [Zg, Zd, seval, if_true, if_false, reduceCtorEq, Nat.reduceEqDiff, hfm, hgm, i1, i1', i2, hgs, hgt, hw, Int.toNat_natCast]; with_reducible rfl)); focus ((with_reducible refine QK ?_); simp only [Zk]; kernel_rfl)))
          refine roundK.ret ?_
          repeat' (first | with_reducible (first | refine Q1 ?_ | refine Q2 ?_ | refine Q3 ?_ | refine Q4 ?_ | refine Q5 ?_ | refine Q6 ?_ | refine Q7 ?_ | refine Q8 ?_ | refine Q9 ?_ | refine Qa ?_ | refine Qb ?_ | refine Qc ?_ | refine Qd ?_ | refine Qe ?_ | refine Qf ?_) | ((with_reducible refine Qo ?_ ?_); focus rfl) | ((with_reducible first | refine QT 6 (l := ?_) ?_ ?_ | refine QF 6 (l := ?_) ?_ ?_); rotate_left 1; focus (simp only [Zu, Nat.reduceSub, Nat.reduceBEq]; with_reducible rfl)) | ((with_reducible first | refine QS (cfg_ok 27) Tab.none (s' := ?_) ?_ ?_ | refine QC (b := ?_) ?_ ?_); rotate_left 1; focus ((with_reducible refine QW ?_); simp only [Zg, seval, if_true, if_false, reduceCtorEq, Nat.reduceEqDiff]; with_reducible rfl)) | ((with_reducible refine QD (cfg_ok 27) Tab.none mixed_ok (tr := ?_) (s' := ?_) ?_ ?_ ?_); rotate_left 2; (focus ((with_reducible refine QW ?_); simp only [Zg, Zd, seval, if_true, if_false, reduceCtorEq, Nat.reduceEqDiff]; with_reducible rfl)); focus ((with_reducible refine QK ?_); simp only [Zk]; kernel_rfl)))
          (refine Ends.mk (by simp) (rs := ?_) (ks := ?_) hres hrts ?_ ?_ ?_; rotate_left 2; (focus (simp only [Ze, Zg, seval, if_true, if_false, reduceCtorEq, Nat.reduceEqDiff]; with_reducible rfl)); (focus simp); focus (first | with_reducible rfl | (simp only [Zv]; done)))
      · have i1 : ((i : Int) < (f.length : Int)) = False := eq_false (by omega)
        obtain rfl : i = f.length := by omega
        repeat' (first | with_reducible (first | refine Q1 ?_ | refine Q2 ?_ | refine Q3 ?_ | refine Q4 ?_ | refine Q5 ?_ | refine Q6 ?_ | refine Q7 ?_ | refine Q8 ?_ | refine Q9 ?_ | refine Qa ?_ | refine Qb ?_ | refine Qc ?_ | refine Qd ?_ | refine Qe ?_ | refine Qf ?_) | ((with_reducible refine Qo ?_ ?_); focus rfl) | ((with_reducible first | refine QT 6 (l := ?_) ?_ ?_ | refine QF 6 (l := ?_) ?_ ?_); rotate_left 1; focus (simp only [Zu, Nat.reduceSub, Nat.reduceBEq]; with_reducible rfl)) | ((with_reducible first | refine QS (cfg_ok 27) Tab.none (s' := ?_) ?_ ?_ | refine QC (b := ?_) ?_ ?_); rotate_left 1; focus ((with_reducible refine QW ?_); simp only [Zg, seval, if_true, if_false, reduceCtorEq, Nat.reduceEqDiff, hfm, i1]; with_reducible rfl)) | ((with_reducible refine QD (cfg_ok 27) Tab.none mixed_ok (tr := ?_) (s' := ?_) ?_ ?_ ?_); rotate_left 2; (focus ((with_reducible refine QW ?_); simp only [Zg, Zd, seval, if_true, if_false, reduceCtorEq, Nat.reduceEqDiff, hfm, i1]; with_reducible rfl)); focus ((with_reducible refine QK ?_); simp only [Zk]; kernel_rfl)))
        refine roundK.out () ?_ ?_
        · rw [List.take_length, hl, List.take_length] at ht; exact ht
        · (repeat' (first | with_reducible refine Qn | ((with_reducible refine Qr ?_ ?_); focus (first | with_reducible rfl | (simp only [Zz, Nat.reduceBEq]; done) | rfl)) | ((with_reducible refine Qj (o' := ?_) ?_ ?_ ?_); rotate_left 1; focus rfl) | ((with_reducible refine Qw ?_ ?_); (focus (first | with_reducible rfl | (simp only [Zv]; done))); focus (first | exact id | exact (fun h => nomatch h) | exact (fun _ => rfl)))))
    · rintro _ hfg
      rw [decide_eq_true hfg]
      repeat' (first | with_reducible (first | refine Q1 ?_ | refine Q2 ?_ | refine Q3 ?_ | refine Q4 ?_ | refine Q5 ?_ | refine Q6 ?_ | refine Q7 ?_ | refine Q8 ?_ | refine Q9 ?_ | refine Qa ?_ | refine Qb ?_ | refine Qc ?_ | refine Qd ?_ | refine Qe ?_ | refine Qf ?_) | ((with_reducible refine Qo ?_ ?_); focus rfl) | ((with_reducible first | refine QT 6 (l := ?_) ?_ ?_ | refine QF 6 (l := ?_) ?_ ?_); rotate_left 1; focus (simp only [Zu, Nat.reduceSub, Nat.reduceBEq]; with_reducible rfl)) | ((with_reducible first | refine QS (cfg_ok 27) Tab.none (s' := ?_) ?_ ?_ | refine QC (b := ?_) ?_ ?_); rotate_left 1; focus ((with_reducible refine QW ?_); simp only [Zg, seval, if_true, if_false, reduceCtorEq, Nat.reduceEqDiff]; with_reducible rfl)) | ((with_reducible refine QD (cfg_ok 27) Tab.none mixed_ok (tr := ?_) (s' := ?_) ?_ ?_ ?_); rotate_left 2; (focus ((with_reducible refine QW ?_); simp only [Zg, Zd, seval, if_true, if_false, reduceCtorEq, Nat.reduceEqDiff]; with_reducible rfl)); focus ((with_reducible refine QK ?_); simp only [Zk]; kernel_rfl)))
      (refine Ends.mk (by simp) (rs := ?_) (ks := ?_) hres hrts ?_ ?_ ?_; rotate_left 2; (focus (simp only [Ze, Zg, seval, if_true, if_false, reduceCtorEq, Nat.reduceEqDiff]; with_reducible rfl)); (focus simp); focus (first | with_reducible rfl | (simp only [Zv]; done)))
  · have hb : ((f.length : Int) != (g.length : Int)) = true := by simp; omega
    have hne : f ≠ g := fun e => hl (by rw [e])
    rw [decide_eq_false hne]
    repeat' (first | with_reducible (first | refine Q1 ?_ | refine Q2 ?_ | refine Q3 ?_ | refine Q4 ?_ | refine Q5 ?_ | refine Q6 ?_ | refine Q7 ?_ | refine Q8 ?_ | refine Q9 ?_ | refine Qa ?_ | refine Qb ?_ | refine Qc ?_ | refine Qd ?_ | refine Qe ?_ | refine Qf ?_) | ((with_reducible refine Qo ?_ ?_); focus rfl) | ((with_reducible first | refine QT 6 (l := ?_) ?_ ?_ | refine QF 6 (l := ?_) ?_ ?_); rotate_left 1; focus (simp only [Zu, Nat.reduceSub, Nat.reduceBEq]; with_reducible rfl)) | ((with_reducible first | refine QS (cfg_ok 27) Tab.none (s' := ?_) ?_ ?_ | refine QC (b := ?_) ?_ ?_); rotate_left 1; focus ((with_reducible refine QW ?_); simp only [Zg, seval, if_true, if_false, reduceCtorEq, Nat.reduceEqDiff, hfm, hgm, hb]; with_reducible rfl)) | ((with_reducible refine QD (cfg_ok 27) Tab.none mixed_ok (tr := ?_) (s' := ?_) ?_ ?_ ?_); rotate_left 2; (focus ((with_reducible refine QW ?_); simp only [Zg, Zd, seval, if_true, if_false, reduceCtorEq, Nat.reduceEqDiff, hfm, hgm, hb]; with_reducible rfl)); focus ((with_reducible refine QK ?_); simp only [Zk]; kernel_rfl)))
    (refine Ends.mk (by simp) (rs := ?_) (ks := ?_) hres hrts ?_ ?_ ?_; rotate_left 2; (focus (simp only [Ze, Zg, seval, if_true, if_false, reduceCtorEq, Nat.reduceEqDiff]; with_reducible rfl)); (focus simp); focus (first | with_reducible rfl | (simp only [Zv]; done)))
noncomputable def TCcs : Tab Try.prog :=
  ((((Tab.none.add 30 (tab1 codL fun t => if t.length ≤ 1048576 then some [.val (.bool (lev8 t))] else none) (tab1_ok fun t rs h => by split at h; cases h; rename_i hs; exact a_spec_l03Is t hs; cases h)).add
    45 (tab1 codLL fun f => if sumLen f ≤ 1048576 ∧ f.length ≤ 1048576 then some [.val (.bool (forB f))] else none) (tab1_ok fun f rs h => by split at h; cases h; rename_i hs; exact a_l03Forest f (by omega) (by omega); cases h)).add
    32 (tab1 codL fun t => if lev8 t = true then some [.val (.sl 1 ((canon t).map eI))] else none) (tab1_ok fun t rs h => by split at h; cases h; rename_i hs; exact AFn.valT (a_l03Canon t (lev8_lev hs) (lev8_len hs)); cases h)).add
    46 (tab2 codLL codLL fun f g => if f.length ≤ 1000000 ∧ g.length ≤ 1000000 then some [.val (.bool (decide (f = g)))] else none) (tab2_ok fun f g rs h => by split at h; cases h; rename_i hs; exact a_l01Same2 f g (by omega) (by omega); cases h)).add
    47 (tab2 codL codL fun s t => some [.val (.bool (decide (s = t)))]) (tab2_ok fun s t rs h => by cases h; exact a_l01Same s t)
set_option maxRecDepth 20000 in
set_option maxHeartbeats 8000000 in
theorem a_spec_CountCut (t : List Int) (c : List (List Int)) (k : List Int) (ht : t.length ≤ 1048576) (hc1 : sumLen c ≤ 1048576) (hc2 : c.length ≤ 1048576) (hkl : k.length ≤ 1048576) : AFn Try.prog 24 [eL t, eLL c, eL k] (· = [.val (.int (cctC t c k).1), .val (.int (cctC t c k).2)]) := by
  have s1 := eq_true (And.intro hc1 hc2)
  have s2 := eq_true ht
  have s3 := eq_true hkl
  unfold cctC
  by_cases hok : okC t c k = true
  rotate_left
  · have hok' : okC t c k = false := by simpa using hok
    rw [if_neg hok]
    refine AFn.of_runs (cfg_ok 65) Try.func24 rfl rfl rfl (by simp only [List.length_cons, List.length_nil]; decide) ?_
    have hres : Try.f24.results.toList = [.tmp 6, .tmp 7] := rfl
    have hrts : Try.f24.resultTypes.toList = [2, 2] := rfl
    simp only [argRegs, argAV1, eL, eI, eLL, eB, Nat.zero_add, Nat.reduceAdd]
    intro M
    refine RunK.of ?_
    rcases okC_false hok' with h1 | ⟨h1, h2⟩ | ⟨h1, h2, h3, h4⟩
    · repeat' (first | with_reducible (first | refine Q1 ?_ | refine Q2 ?_ | refine Q3 ?_ | refine Q4 ?_ | refine Q5 ?_ | refine Q6 ?_ | refine Q7 ?_ | refine Q8 ?_ | refine Q9 ?_ | refine Qa ?_ | refine Qb ?_ | refine Qc ?_ | refine Qd ?_ | refine Qe ?_ | refine Qf ?_) | ((with_reducible refine Qo ?_ ?_); focus rfl) | ((with_reducible first | refine QT 11 (l := ?_) ?_ ?_ | refine QF 11 (l := ?_) ?_ ?_); rotate_left 1; focus (simp only [Zu, Nat.reduceSub, Nat.reduceBEq]; with_reducible rfl)) | ((with_reducible first | refine QS (cfg_ok 65) TCcs (s' := ?_) ?_ ?_ | refine QC (b := ?_) ?_ ?_); rotate_left 1; focus ((with_reducible refine QW ?_); simp only [Zg, seval, if_true, if_false, reduceCtorEq, Nat.reduceEqDiff, TCcs, TCcs, h1, s1, s2]; with_reducible rfl)))
      (refine Ends.mk (by simp) (rs := ?_) (ks := ?_) hres hrts ?_ ?_ ?_; rotate_left 2; (focus (simp only [Ze, Zg, seval, if_true, if_false, reduceCtorEq, Nat.reduceEqDiff]; with_reducible rfl)); (focus simp); focus (first | with_reducible rfl | (simp only [Zv]; done)))
    · repeat' (first | with_reducible (first | refine Q1 ?_ | refine Q2 ?_ | refine Q3 ?_ | refine Q4 ?_ | refine Q5 ?_ | refine Q6 ?_ | refine Q7 ?_ | refine Q8 ?_ | refine Q9 ?_ | refine Qa ?_ | refine Qb ?_ | refine Qc ?_ | refine Qd ?_ | refine Qe ?_ | refine Qf ?_) | ((with_reducible refine Qo ?_ ?_); focus rfl) | ((with_reducible first | refine QT 11 (l := ?_) ?_ ?_ | refine QF 11 (l := ?_) ?_ ?_); rotate_left 1; focus (simp only [Zu, Nat.reduceSub, Nat.reduceBEq]; with_reducible rfl)) | ((with_reducible first | refine QS (cfg_ok 65) TCcs (s' := ?_) ?_ ?_ | refine QC (b := ?_) ?_ ?_); rotate_left 1; focus ((with_reducible refine QW ?_); simp only [Zg, seval, if_true, if_false, reduceCtorEq, Nat.reduceEqDiff, TCcs, TCcs, h1, h2, s1, s2]; with_reducible rfl)))
      (refine Ends.mk (by simp) (rs := ?_) (ks := ?_) hres hrts ?_ ?_ ?_; rotate_left 2; (focus (simp only [Ze, Zg, seval, if_true, if_false, reduceCtorEq, Nat.reduceEqDiff]; with_reducible rfl)); (focus simp); focus (first | with_reducible rfl | (simp only [Zv]; done)))
    · have j1 : ((k.length : Int) > 0) = True := eq_true (by have := List.length_pos_iff.2 h3; omega)
      repeat' (first | with_reducible (first | refine Q1 ?_ | refine Q2 ?_ | refine Q3 ?_ | refine Q4 ?_ | refine Q5 ?_ | refine Q6 ?_ | refine Q7 ?_ | refine Q8 ?_ | refine Q9 ?_ | refine Qa ?_ | refine Qb ?_ | refine Qc ?_ | refine Qd ?_ | refine Qe ?_ | refine Qf ?_) | ((with_reducible refine Qo ?_ ?_); focus rfl) | ((with_reducible first | refine QT 11 (l := ?_) ?_ ?_ | refine QF 11 (l := ?_) ?_ ?_); rotate_left 1; focus (simp only [Zu, Nat.reduceSub, Nat.reduceBEq]; with_reducible rfl)) | ((with_reducible first | refine QS (cfg_ok 65) TCcs (s' := ?_) ?_ ?_ | refine QC (b := ?_) ?_ ?_); rotate_left 1; focus ((with_reducible refine QW ?_); simp only [Zg, seval, if_true, if_false, reduceCtorEq, Nat.reduceEqDiff, TCcs, TCcs, h1, h2, h4, s1, s2, s3, j1, List.length_map]; with_reducible rfl)))
      (refine Ends.mk (by simp) (rs := ?_) (ks := ?_) hres hrts ?_ ?_ ?_; rotate_left 2; (focus (simp only [Ze, Zg, seval, if_true, if_false, reduceCtorEq, Nat.reduceEqDiff]; with_reducible rfl)); (focus simp); focus (first | with_reducible rfl | (simp only [Zv]; done)))
  rw [if_pos hok]
  unfold okC at hok
  simp only [Bool.and_eq_true, Bool.or_eq_true, decide_eq_true_eq] at hok
  obtain ⟨⟨h1, h2⟩, h3⟩ := hok
  have hlev := lev8_lev h1
  have h8 := lev8_len h1
  have hcu := AFn.val1 (a_l05Cuts (canon t) (canon_lev hlev) (canon_idem hlev) (by rw [canon_len hlev]; exact h8))
  rw [cuts_canon hlev] at hcu
  obtain ⟨hLl, hLx⟩ := cuts_bd hlev h8
  obtain ⟨L, hL⟩ : ∃ L, L = cutsL t := ⟨_, rfl⟩
  rw [← hL] at hcu hLl hLx ⊢
  obtain ⟨T, hT⟩ : ∃ T, T = trkC k := ⟨_, rfl⟩
  rw [← hT]
  have hLm : (L.map eCu).length = L.length := List.length_map _
  simp only [eL] at hcu
  have hcase : (k = [] ∧ T = []) ∨ (k ≠ [] ∧ lev8 k = true ∧ T = canon k) := by
    by_cases hk : k = []
    · exact .inl ⟨hk, by rw [hT]; unfold trkC; rw [if_pos hk]⟩
    · refine .inr ⟨hk, h3.resolve_left hk, ?_⟩
      rw [hT]; unfold trkC; rw [if_neg hk]
  refine AFn.of_runs (cfg_ok 65) Try.func24 rfl rfl rfl (by simp only [List.length_cons, List.length_nil]; decide) ?_
  have hres : Try.f24.results.toList = [.tmp 6, .tmp 7] := rfl
  have hrts : Try.f24.resultTypes.toList = [2, 2] := rfl
  simp only [argRegs, argAV1, eL, eI, eLL, eB, Nat.zero_add, Nat.reduceAdd]
  intro M
  refine RunK.of ?_
  rcases hcase with ⟨hk, hkT⟩ | ⟨hk, hk8, hkT⟩
  case' inl =>
    have j1 : ((k.length : Int) > 0) = False := eq_false (by rw [hk]; simp)
    repeat' (first | with_reducible (first | refine Q1 ?_ | refine Q2 ?_ | refine Q3 ?_ | refine Q4 ?_ | refine Q5 ?_ | refine Q6 ?_ | refine Q7 ?_ | refine Q8 ?_ | refine Q9 ?_ | refine Qa ?_ | refine Qb ?_ | refine Qc ?_ | refine Qd ?_ | refine Qe ?_ | refine Qf ?_) | ((with_reducible refine Qo ?_ ?_); focus rfl) | ((with_reducible first | refine QT 11 (l := ?_) ?_ ?_ | refine QF 11 (l := ?_) ?_ ?_); rotate_left 1; focus (simp only [Zu, Nat.reduceSub, Nat.reduceBEq]; with_reducible rfl)) | ((with_reducible first | refine QS (cfg_ok 65) (TCcs.at' 31 hcu) (s' := ?_) ?_ ?_ | refine QC (b := ?_) ?_ ?_); rotate_left 1; focus ((with_reducible refine QW ?_); simp only [Zg, seval, if_true, if_false, reduceCtorEq, Nat.reduceEqDiff, TCcs, h1, h2, s1, s2, s3, j1, List.length_map]; with_reducible rfl)))
    refine RunK.frz 8 ?_
    refine RunK.fits (s0 := ⟨[(1, .c (.val (.sl 1 (c.map eL)))), (8, .c (.val (.sl 1 (T.map eI)))), (9, .c (.val (.sl 3 (L.map eCu)))), (10, .c (.val (.int 0)))], []⟩) ?_ ?_
    · rw [hkT]
      (repeat' (first | with_reducible refine Qn | ((with_reducible refine Qr ?_ ?_); focus (first | with_reducible rfl | (simp only [Zz, Nat.reduceBEq, St.frz, frzR, frzH, look, AV.frz, AC.frz, drop, List.map_nil]; done) | rfl)) | ((with_reducible refine Qj (o' := ?_) ?_ ?_ ?_); rotate_left 1; focus rfl) | ((with_reducible refine Qw ?_ ?_); (focus (first | with_reducible rfl | (simp only [Zv, St.frz, frzR, frzH, look, AV.frz, AC.frz, drop, List.map_nil]; done))); focus (first | exact id | exact (fun h => nomatch h) | exact (fun _ => rfl)))))
  case' inr =>
    have j1 : ((k.length : Int) > 0) = True := eq_true (by have := List.length_pos_iff.2 hk; omega)
    repeat' (first | with_reducible (first | refine Q1 ?_ | refine Q2 ?_ | refine Q3 ?_ | refine Q4 ?_ | refine Q5 ?_ | refine Q6 ?_ | refine Q7 ?_ | refine Q8 ?_ | refine Q9 ?_ | refine Qa ?_ | refine Qb ?_ | refine Qc ?_ | refine Qd ?_ | refine Qe ?_ | refine Qf ?_) | ((with_reducible refine Qo ?_ ?_); focus rfl) | ((with_reducible first | refine QT 11 (l := ?_) ?_ ?_ | refine QF 11 (l := ?_) ?_ ?_); rotate_left 1; focus (simp only [Zu, Nat.reduceSub, Nat.reduceBEq]; with_reducible rfl)) | ((with_reducible first | refine QS (cfg_ok 65) (TCcs.at' 31 hcu) (s' := ?_) ?_ ?_ | refine QC (b := ?_) ?_ ?_); rotate_left 1; focus ((with_reducible refine QW ?_); simp only [Zg, seval, if_true, if_false, reduceCtorEq, Nat.reduceEqDiff, TCcs, h1, h2, hk8, s1, s2, s3, j1, List.length_map]; with_reducible rfl)))
    rw [← hkT]
    refine RunK.fits (s0 := ⟨[(1, .c (.val (.sl 1 (c.map eL)))), (8, .c (.val (.sl 1 (T.map eI)))), (9, .c (.val (.sl 3 (L.map eCu)))), (10, .c (.val (.int 0)))], []⟩) ?_ ?_
    · (repeat' (first | with_reducible refine Qn | ((with_reducible refine Qr ?_ ?_); focus (first | with_reducible rfl | (simp only [Zz, Nat.reduceBEq]; done) | rfl)) | ((with_reducible refine Qj (o' := ?_) ?_ ?_ ?_); rotate_left 1; focus rfl) | ((with_reducible refine Qw ?_ ?_); (focus (first | with_reducible rfl | (simp only [Zv]; done))); focus (first | exact id | exact (fun h => nomatch h) | exact (fun _ => rfl)))))
  all_goals
    refine RunK.loop (β := Nat) (γ := Unit) (fun i => ⟨[(1, .c (.val (.sl 1 (c.map eL)))), (8, .c (.val (.sl 1 (T.map eI)))), (9, .c (.val (.sl 3 (L.map eCu)))), (10, .c (.val (.int i)))], []⟩) (fun i => i ≤ L.length ∧ ∀ x ∈ L.take i, ¬ (x.1.1 = c ∧ x.1.2 = T)) (fun i => L.length - i)
      (fun _ => ⟨[], []⟩) (fun _ => ∀ x ∈ L, ¬ (x.1.1 = c ∧ x.1.2 = T)) 0 ⟨Nat.zero_le _, by simp⟩ ?_ ?_ ?_
    · (repeat' (first | with_reducible refine Qn | ((with_reducible refine Qr ?_ ?_); focus (first | with_reducible rfl | (simp only [Zz, Nat.reduceBEq, Int.natCast_zero]; done) | rfl)) | ((with_reducible refine Qj (o' := ?_) ?_ ?_ ?_); rotate_left 1; focus rfl) | ((with_reducible refine Qw ?_ ?_); (focus (first | with_reducible rfl | (simp only [Zv, Int.natCast_zero]; done))); focus (first | exact id | exact (fun h => nomatch h) | exact (fun _ => rfl)))))
    · rintro i ⟨hi, hlow⟩
      have hw := w64_succ (n := i) (by omega)
      by_cases h' : i < L.length
      · have i1 : ((i : Int) < (L.length : Int)) = True := eq_true (by omega)
        have i2 : ((0 : Int) ≤ (i : Int)) = True := eq_true (by omega)
        obtain ⟨z, hz⟩ : ∃ z, z = L[i] := ⟨_, rfl⟩
        have hg : (L.map eCu)[i]? = some [.sl 1 (z.1.1.map eL), .sl 1 (z.1.2.map eI), .int z.2] := by rw [map_get h', hz]; rfl
        have hzx := (hLx L[i] (List.getElem_mem _)).2
        rw [← hz] at hzx
        have e1 := eq_true (show z.1.1.length ≤ 1000000 ∧ c.length ≤ 1000000 from ⟨by have := hzx.1; omega, by have := forB_short h2; omega⟩)
        have next : ¬ (z.1.1 = c ∧ z.1.2 = T) → ∀ x ∈ L.take (i + 1), ¬ (x.1.1 = c ∧ x.1.2 = T) := fun hn x hx => by
          rw [List.take_succ_eq_append_getElem h', List.mem_append, List.mem_singleton] at hx
          rcases hx with hx | rfl
          · exact hlow x hx
          · rw [← hz]; exact hn
        by_cases hcz : z.1.1 = c
        · have d1 : decide (z.1.1 = c) = true := decide_eq_true hcz
          by_cases htz : z.1.2 = T
          · have d2 : decide (z.1.2 = T) = true := decide_eq_true htz
            repeat' (first | with_reducible (first | refine Q1 ?_ | refine Q2 ?_ | refine Q3 ?_ | refine Q4 ?_ | refine Q5 ?_ | refine Q6 ?_ | refine Q7 ?_ | refine Q8 ?_ | refine Q9 ?_ | refine Qa ?_ | refine Qb ?_ | refine Qc ?_ | refine Qd ?_ | refine Qe ?_ | refine Qf ?_) | ((with_reducible refine Qo ?_ ?_); focus rfl) | ((with_reducible first | refine QT 11 (l := ?_) ?_ ?_ | refine QF 11 (l := ?_) ?_ ?_); rotate_left 1; focus (simp only [Zu, Nat.reduceSub, Nat.reduceBEq]; with_reducible rfl)) | ((with_reducible first | refine QS (cfg_ok 65) TCcs (s' := ?_) ?_ ?_ | refine QC (b := ?_) ?_ ?_); rotate_left 1; focus ((with_reducible refine QW ?_); simp only [Zg, seval, if_true, if_false, reduceCtorEq, Nat.reduceEqDiff, TCcs, TCcs, i1, i2, hg, hLm, e1, d1, d2, Int.toNat_natCast]; with_reducible rfl)))
            refine roundK.ret ?_
            repeat' (first | with_reducible (first | refine Q1 ?_ | refine Q2 ?_ | refine Q3 ?_ | refine Q4 ?_ | refine Q5 ?_ | refine Q6 ?_ | refine Q7 ?_ | refine Q8 ?_ | refine Q9 ?_ | refine Qa ?_ | refine Qb ?_ | refine Qc ?_ | refine Qd ?_ | refine Qe ?_ | refine Qf ?_) | ((with_reducible refine Qo ?_ ?_); focus rfl) | ((with_reducible first | refine QT 11 (l := ?_) ?_ ?_ | refine QF 11 (l := ?_) ?_ ?_); rotate_left 1; focus (simp only [Zu, Nat.reduceSub, Nat.reduceBEq]; with_reducible rfl)) | ((with_reducible first | refine QS (cfg_ok 65) Tab.none (s' := ?_) ?_ ?_ | refine QC (b := ?_) ?_ ?_); rotate_left 1; focus ((with_reducible refine QW ?_); simp only [Zg, seval, if_true, if_false, reduceCtorEq, Nat.reduceEqDiff]; with_reducible rfl)))
            have hnum := numC_at h' (by rw [← hz]; exact ⟨hcz, htz⟩) hlow
            rw [← hz] at hnum
            rw [hnum]
            (refine Ends.mk (by simp) (rs := ?_) (ks := ?_) hres hrts ?_ ?_ ?_; rotate_left 2; (focus (simp only [Ze, Zg, seval, if_true, if_false, reduceCtorEq, Nat.reduceEqDiff]; with_reducible rfl)); (focus simp); focus (first | with_reducible rfl | (simp only [Zv]; done)))
          · have d2 : decide (z.1.2 = T) = false := decide_eq_false htz
            repeat' (first | with_reducible (first | refine Q1 ?_ | refine Q2 ?_ | refine Q3 ?_ | refine Q4 ?_ | refine Q5 ?_ | refine Q6 ?_ | refine Q7 ?_ | refine Q8 ?_ | refine Q9 ?_ | refine Qa ?_ | refine Qb ?_ | refine Qc ?_ | refine Qd ?_ | refine Qe ?_ | refine Qf ?_) | ((with_reducible refine Qo ?_ ?_); focus rfl) | ((with_reducible first | refine QT 11 (l := ?_) ?_ ?_ | refine QF 11 (l := ?_) ?_ ?_); rotate_left 1; focus (simp only [Zu, Nat.reduceSub, Nat.reduceBEq]; with_reducible rfl)) | ((with_reducible first | refine QS (cfg_ok 65) TCcs (s' := ?_) ?_ ?_ | refine QC (b := ?_) ?_ ?_); rotate_left 1; focus ((with_reducible refine QW ?_); simp only [Zg, seval, if_true, if_false, reduceCtorEq, Nat.reduceEqDiff, TCcs, TCcs, i1, i2, hg, hLm, hw, e1, d1, d2, Int.toNat_natCast]; with_reducible rfl)))
            refine roundK.on (i + 1) ⟨⟨h', next (fun h => htz h.2)⟩, by omega⟩ ?_
            (repeat' (first | with_reducible refine Qn | ((with_reducible refine Qr ?_ ?_); focus (first | with_reducible rfl | (simp only [Zz, Nat.reduceBEq]; done) | rfl)) | ((with_reducible refine Qj (o' := ?_) ?_ ?_ ?_); rotate_left 1; focus rfl) | ((with_reducible refine Qw ?_ ?_); (focus (first | with_reducible rfl | (simp only [Zv]; done))); focus (first | exact id | exact (fun h => nomatch h) | exact (fun _ => rfl)))))
        · have d1 : decide (z.1.1 = c) = false := decide_eq_false hcz
          repeat' (first | with_reducible (first | refine Q1 ?_ | refine Q2 ?_ | refine Q3 ?_ | refine Q4 ?_ | refine Q5 ?_ | refine Q6 ?_ | refine Q7 ?_ | refine Q8 ?_ | refine Q9 ?_ | refine Qa ?_ | refine Qb ?_ | refine Qc ?_ | refine Qd ?_ | refine Qe ?_ | refine Qf ?_) | ((with_reducible refine Qo ?_ ?_); focus rfl) | ((with_reducible first | refine QT 11 (l := ?_) ?_ ?_ | refine QF 11 (l := ?_) ?_ ?_); rotate_left 1; focus (simp only [Zu, Nat.reduceSub, Nat.reduceBEq]; with_reducible rfl)) | ((with_reducible first | refine QS (cfg_ok 65) TCcs (s' := ?_) ?_ ?_ | refine QC (b := ?_) ?_ ?_); rotate_left 1; focus ((with_reducible refine QW ?_); simp only [Zg, seval, if_true, if_false, reduceCtorEq, Nat.reduceEqDiff, TCcs, TCcs, i1, i2, hg, hLm, hw, e1, d1, Int.toNat_natCast]; with_reducible rfl)))
          refine roundK.on (i + 1) ⟨⟨h', next (fun h => hcz h.1)⟩, by omega⟩ ?_
          (repeat' (first | with_reducible refine Qn | ((with_reducible refine Qr ?_ ?_); focus (first | with_reducible rfl | (simp only [Zz, Nat.reduceBEq]; done) | rfl)) | ((with_reducible refine Qj (o' := ?_) ?_ ?_ ?_); rotate_left 1; focus rfl) | ((with_reducible refine Qw ?_ ?_); (focus (first | with_reducible rfl | (simp only [Zv]; done))); focus (first | exact id | exact (fun h => nomatch h) | exact (fun _ => rfl)))))
      · have i1 : ((i : Int) < (L.length : Int)) = False := eq_false (by omega)
        obtain rfl : i = L.length := by omega
        rw [List.take_length] at hlow
        repeat' (first | with_reducible (first | refine Q1 ?_ | refine Q2 ?_ | refine Q3 ?_ | refine Q4 ?_ | refine Q5 ?_ | refine Q6 ?_ | refine Q7 ?_ | refine Q8 ?_ | refine Q9 ?_ | refine Qa ?_ | refine Qb ?_ | refine Qc ?_ | refine Qd ?_ | refine Qe ?_ | refine Qf ?_) | ((with_reducible refine Qo ?_ ?_); focus rfl) | ((with_reducible first | refine QT 11 (l := ?_) ?_ ?_ | refine QF 11 (l := ?_) ?_ ?_); rotate_left 1; focus (simp only [Zu, Nat.reduceSub, Nat.reduceBEq]; with_reducible rfl)) | ((with_reducible first | refine QS (cfg_ok 65) Tab.none (s' := ?_) ?_ ?_ | refine QC (b := ?_) ?_ ?_); rotate_left 1; focus ((with_reducible refine QW ?_); simp only [Zg, seval, if_true, if_false, reduceCtorEq, Nat.reduceEqDiff, i1, hLm]; with_reducible rfl)))
        refine roundK.out () hlow ?_
        (repeat' (first | with_reducible refine Qn | ((with_reducible refine Qr ?_ ?_); focus (first | with_reducible rfl | (simp only [Zz, Nat.reduceBEq]; done) | rfl)) | ((with_reducible refine Qj (o' := ?_) ?_ ?_ ?_); rotate_left 1; focus rfl) | ((with_reducible refine Qw ?_ ?_); (focus (first | with_reducible rfl | (simp only [Zv]; done))); focus (first | exact id | exact (fun h => nomatch h) | exact (fun _ => rfl)))))
    · rintro _ hno
      rw [numC_no hno]
      repeat' (first | with_reducible (first | refine Q1 ?_ | refine Q2 ?_ | refine Q3 ?_ | refine Q4 ?_ | refine Q5 ?_ | refine Q6 ?_ | refine Q7 ?_ | refine Q8 ?_ | refine Q9 ?_ | refine Qa ?_ | refine Qb ?_ | refine Qc ?_ | refine Qd ?_ | refine Qe ?_ | refine Qf ?_) | ((with_reducible refine Qo ?_ ?_); focus rfl) | ((with_reducible first | refine QT 11 (l := ?_) ?_ ?_ | refine QF 11 (l := ?_) ?_ ?_); rotate_left 1; focus (simp only [Zu, Nat.reduceSub, Nat.reduceBEq]; with_reducible rfl)) | ((with_reducible first | refine QS (cfg_ok 65) Tab.none (s' := ?_) ?_ ?_ | refine QC (b := ?_) ?_ ?_); rotate_left 1; focus ((with_reducible refine QW ?_); simp only [Zg, seval, if_true, if_false, reduceCtorEq, Nat.reduceEqDiff]; with_reducible rfl)))
      (refine Ends.mk (by simp) (rs := ?_) (ks := ?_) hres hrts ?_ ?_ ?_; rotate_left 2; (focus (simp only [Ze, Zg, seval, if_true, if_false, reduceCtorEq, Nat.reduceEqDiff]; with_reducible rfl)); (focus simp); focus (first | with_reducible rfl | (simp only [Zv]; done)))
theorem k_spec_CountCut (v0 v1 v2 : Value) (t : List Int) (c : List (List Int)) (k : List Int) (w : World) (h0 : Rd (RS RI) w [v0] t) (h1 : Rd (RS (RS RI)) w [v1] c) (h2 : Rd (RS RI) w [v2] k) (ht : t.length ≤ 1048576) (hc : szII c) (hk : k.length ≤ 1048576) : Calls Try.prog 24 #[v0, v1, v2] w (RetV w (.tuple #[.int .i64 (cctC t c k).1, .int .i64 (cctC t c k).2])) :=
  AFn.ii (v := .int .i64 _) (fun A w u hu => (rdV_int.1 hu).1) (a_spec_CountCut t c k ht (by unfold szII at hc; omega) (by unfold szII at hc; omega) hk) (args3 (arg_L h0) (arg_LL h1) (arg_L h2))
end Go.Proofs.Ytkdkikmhlhcndaa
namespace Go.Proofs.Ytkdkikmhlhcndaa
open Go.RowKit
set_option maxHeartbeats 1000000 in
theorem walk_FnExactCountCut (v0 : Value) (v1 : Value) (v2 : Value) (x0 : List Int) (x1 : List (List Int)) (x2 : List Int) (w : World) (h0 : Rd (RS RI) w [v0] x0) (h1 : Rd (RS (RS RI)) w [v1] x1) (h2 : Rd (RS RI) w [v2] x2) : Calls Try.prog 6 #[v0, v1, v2] w (RetV w (.bool true)) := by
  obtain ⟨a0, c0, hv0, hl0, hm0⟩ := h0.val
  unfold maxLen at hm0
  obtain ⟨a2, c2, hv2, hl2, hm2⟩ := h2.val
  unfold maxLen at hm2
  by_cases z0 : x0.length ≤ 1048576
  rotate_left
  · subst hv0
    go_enter Try.func6, Try.ntmps6
    go_wp2_with fail
    go_ret
    exact ⟨rfl, Below.refl _ _⟩
  by_cases z2 : x2.length ≤ 1048576
  rotate_left
  · subst hv0 hv2
    go_enter Try.func6, Try.ntmps6
    go_wp2_with fail
    go_ret
    exact ⟨rfl, Below.refl _ _⟩
  subst hv0
  subst hv2
  go_enter Try.func6, Try.ntmps6
  go_wp2_with fail
  refine (sz_II _ x1 1048576 _ h1 (by omega) (by omega)).mono ?_
  rintro e w1 ⟨r1, rfl, hr1, B1⟩
  have s1 := B1.size
  have BB := B1.mono (B' := w.heap.size) (by omega)
  rcases hr1 with ⟨n1, z1⟩ | ⟨n1, n1b, z1⟩
  · go_wp2_with fail
    go_ret
    exact ⟨rfl, BB⟩
  go_wp2_with fail
  refine (to_I _ x0 _ (h0.below BB (Nat.le_refl _)) z0).mono ?_
  rintro e w2 ⟨u2, rfl, o2, B2⟩
  have s2 := B2.size
  replace BB := BB.trans (B2.mono (B' := w.heap.size) (by omega))
  go_wp2_with fail
  refine (to_II _ x1 _ (h1.below BB (Nat.le_refl _)) z1).mono ?_
  rintro e w3 ⟨u3, rfl, o3, B3⟩
  have s3 := B3.size
  replace o2 := o2.below B3 (by omega)
  replace BB := BB.trans (B3.mono (B' := w.heap.size) (by omega))
  go_wp2_with fail
  refine (to_I _ x2 _ (h2.below BB (Nat.le_refl _)) z2).mono ?_
  rintro e w4 ⟨u4, rfl, o4, B4⟩
  have s4 := B4.size
  replace o2 := o2.below B4 (by omega)
  replace o3 := o3.below B4 (by omega)
  replace BB := BB.trans (B4.mono (B' := w.heap.size) (by omega))
  go_wp2_with fail
  refine (k_spec_CountCut _ _ _ x0 x1 x2 _ o2.rd o3.rd o4.rd z0 z1 z2).mono ?_
  rintro e w5 ⟨rfl, B5⟩
  have s5 := B5.size
  replace o2 := o2.below B5 (by omega)
  replace o3 := o3.below B5 (by omega)
  replace o4 := o4.below B5 (by omega)
  replace BB := BB.trans (B5.mono (B' := w.heap.size) (by omega))
  go_wp2_with fail
  refine (to_I _ x0 _ (h0.below BB (Nat.le_refl _)) z0).mono ?_
  rintro e w6 ⟨u6, rfl, o6, B6⟩
  have s6 := B6.size
  replace o2 := o2.below B6 (by omega)
  replace o3 := o3.below B6 (by omega)
  replace o4 := o4.below B6 (by omega)
  replace BB := BB.trans (B6.mono (B' := w.heap.size) (by omega))
  go_wp2_with fail
  refine (to_II _ x1 _ (h1.below BB (Nat.le_refl _)) z1).mono ?_
  rintro e w7 ⟨u7, rfl, o7, B7⟩
  have s7 := B7.size
  replace o2 := o2.below B7 (by omega)
  replace o3 := o3.below B7 (by omega)
  replace o4 := o4.below B7 (by omega)
  replace o6 := o6.below B7 (by omega)
  replace BB := BB.trans (B7.mono (B' := w.heap.size) (by omega))
  go_wp2_with fail
  refine (to_I _ x2 _ (h2.below BB (Nat.le_refl _)) z2).mono ?_
  rintro e w8 ⟨u8, rfl, o8, B8⟩
  have s8 := B8.size
  replace o2 := o2.below B8 (by omega)
  replace o3 := o3.below B8 (by omega)
  replace o4 := o4.below B8 (by omega)
  replace o6 := o6.below B8 (by omega)
  replace o7 := o7.below B8 (by omega)
  replace BB := BB.trans (B8.mono (B' := w.heap.size) (by omega))
  go_wp2_with fail
  refine (k_impl_CountCut _ _ _ x0 x1 x2 _ o6.rd o7.rd o8.rd z0 z1 z2).mono ?_
  rintro e w9 ⟨rfl, B9⟩
  have s9 := B9.size
  replace o2 := o2.below B9 (by omega)
  replace o3 := o3.below B9 (by omega)
  replace o4 := o4.below B9 (by omega)
  replace o6 := o6.below B9 (by omega)
  replace o7 := o7.below B9 (by omega)
  replace o8 := o8.below B9 (by omega)
  replace BB := BB.trans (B9.mono (B' := w.heap.size) (by omega))
  go_wp2_with fail
  refine (to_I _ x0 _ (h0.below BB (Nat.le_refl _)) z0).mono ?_
  rintro e w10 ⟨u10, rfl, o10, B10⟩
  have s10 := B10.size
  replace o2 := o2.below B10 (by omega)
  replace o3 := o3.below B10 (by omega)
  replace o4 := o4.below B10 (by omega)
  replace o6 := o6.below B10 (by omega)
  replace o7 := o7.below B10 (by omega)
  replace o8 := o8.below B10 (by omega)
  replace BB := BB.trans (B10.mono (B' := w.heap.size) (by omega))
  go_wp2_with fail
  refine (eqv_I _ _ x0 _ o6.rd o10.rd).mono ?_
  rintro e w11 ⟨rfl, B11⟩
  have s11 := B11.size
  replace o2 := o2.below B11 (by omega)
  replace o3 := o3.below B11 (by omega)
  replace o4 := o4.below B11 (by omega)
  replace o6 := o6.below B11 (by omega)
  replace o7 := o7.below B11 (by omega)
  replace o8 := o8.below B11 (by omega)
  replace o10 := o10.below B11 (by omega)
  replace BB := BB.trans (B11.mono (B' := w.heap.size) (by omega))
  go_wp2_with fail
  refine (to_II _ x1 _ (h1.below BB (Nat.le_refl _)) z1).mono ?_
  rintro e w12 ⟨u12, rfl, o12, B12⟩
  have s12 := B12.size
  replace o2 := o2.below B12 (by omega)
  replace o3 := o3.below B12 (by omega)
  replace o4 := o4.below B12 (by omega)
  replace o6 := o6.below B12 (by omega)
  replace o7 := o7.below B12 (by omega)
  replace o8 := o8.below B12 (by omega)
  replace o10 := o10.below B12 (by omega)
  replace BB := BB.trans (B12.mono (B' := w.heap.size) (by omega))
  go_wp2_with fail
  refine (eqv_II _ _ x1 _ o7.rd o12.rd).mono ?_
  rintro e w13 ⟨rfl, B13⟩
  have s13 := B13.size
  replace o2 := o2.below B13 (by omega)
  replace o3 := o3.below B13 (by omega)
  replace o4 := o4.below B13 (by omega)
  replace o6 := o6.below B13 (by omega)
  replace o7 := o7.below B13 (by omega)
  replace o8 := o8.below B13 (by omega)
  replace o10 := o10.below B13 (by omega)
  replace o12 := o12.below B13 (by omega)
  replace BB := BB.trans (B13.mono (B' := w.heap.size) (by omega))
  go_wp2_with fail
  refine (to_I _ x2 _ (h2.below BB (Nat.le_refl _)) z2).mono ?_
  rintro e w14 ⟨u14, rfl, o14, B14⟩
  have s14 := B14.size
  replace o2 := o2.below B14 (by omega)
  replace o3 := o3.below B14 (by omega)
  replace o4 := o4.below B14 (by omega)
  replace o6 := o6.below B14 (by omega)
  replace o7 := o7.below B14 (by omega)
  replace o8 := o8.below B14 (by omega)
  replace o10 := o10.below B14 (by omega)
  replace o12 := o12.below B14 (by omega)
  replace BB := BB.trans (B14.mono (B' := w.heap.size) (by omega))
  go_wp2_with fail
  refine (eqv_I _ _ x2 _ o8.rd o14.rd).mono ?_
  rintro e w15 ⟨rfl, B15⟩
  have s15 := B15.size
  replace o2 := o2.below B15 (by omega)
  replace o3 := o3.below B15 (by omega)
  replace o4 := o4.below B15 (by omega)
  replace o6 := o6.below B15 (by omega)
  replace o7 := o7.below B15 (by omega)
  replace o8 := o8.below B15 (by omega)
  replace o10 := o10.below B15 (by omega)
  replace o12 := o12.below B15 (by omega)
  replace o14 := o14.below B15 (by omega)
  replace BB := BB.trans (B15.mono (B' := w.heap.size) (by omega))
  go_wp2_with fail
  go_ret
  exact ⟨rfl, BB⟩
end Go.Proofs.Ytkdkikmhlhcndaa
