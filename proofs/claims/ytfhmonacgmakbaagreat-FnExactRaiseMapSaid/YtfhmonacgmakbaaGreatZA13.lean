/- Lemmas (13). -/
import Derived.Test.YtfhmonacgmakbaaGreatZA7
import Derived.Test.YtfhmonacgmakbaaGreatZA8
import Derived.Test.YtfhmonacgmakbaaGreatZA12
set_option linter.unusedSimpArgs false
set_option linter.unusedVariables false
namespace Go.Proofs.YtfhmonacgmakbaaGreat
open Go.RowKit
def valM (a : List Int) (ps : List Int) : Int := ps.foldl (fun o p => mP (o * a.getD p.toNat 0)) 1
theorem valM_snoc (a ps : List Int) (p : Int) : valM a (ps ++ [p]) = mP (valM a ps * a.getD p.toNat 0) := by unfold valM; rw [List.foldl_append]; rfl
theorem valM_bd (a : List Int) (ps : List Int) : 0 ≤ valM a ps ∧ valM a ps < 10007 := by
  rcases List.eq_nil_or_concat ps with rfl | ⟨l, x, rfl⟩
  · exact (by decide : (0 : Int) ≤ 1 ∧ (1 : Int) < 10007)
  · rw [List.concat_eq_append, valM_snoc]; exact mP_bd _
def raiM (a : List Int) : List Int := 0 :: T6.map fun t => valM a ((brs t).map plc)
def raiOf (a : List Int) : List Int × Int := if isMap a = true then (raiM a, 0) else ([], 1)
theorem raiOf_cnt (a : List Int) : cnt_I (raiOf a).1 ≤ 1048576 := by
  unfold raiOf
  split
  · unfold raiM cnt_I
    rw [List.length_cons, List.length_map, T6_len]; decide
  · simp [cnt_I]
theorem isMap_bd {a : List Int} (h : isMap a = true) : a.length = 38 ∧ ∀ i, 0 ≤ a.getD i 0 ∧ a.getD i 0 < 10007 := by
  unfold isMap at h
  rw [Bool.and_eq_true] at h
  refine ⟨of_decide_eq_true h.1, fun i => ?_⟩
  by_cases hi : i < a.length
  · rw [getD_at hi]
    have := List.all_eq_true.1 h.2 _ (List.getElem_mem hi)
    unfold isNum inR at this
    simp at this
    omega
  · rw [List.getD_eq_getElem?_getD, List.getElem?_eq_none (by omega)]; decide
theorem mul_bdM {a b : Int} (h1 : 0 ≤ a ∧ a < 10007) (h2 : 0 ≤ b ∧ b < 10007) : 0 ≤ a * b ∧ a * b ≤ 100140049 := by
  refine ⟨Int.mul_nonneg h1.1 h2.1, ?_⟩
  have := Int.mul_le_mul (a := a) (b := b) (c := 10007) (d := 10007) (by omega) (by omega) h2.1 (by omega)
  omega
theorem brs6 : ∀ t ∈ T6, (∀ b ∈ brs t, canT b = true ∧ b.length ≤ 6) ∧ (brs t).length ≤ 6 := by
  have h : T6.all (fun t => (brs t).all (fun b => canT b && decide (b.length ≤ 6)) && decide ((brs t).length ≤ 6) && true) = true := by decide +kernel
  intro t ht
  have := List.all_eq_true.1 h t ht
  simp only [Bool.and_eq_true, Bool.and_true, List.all_eq_true, decide_eq_true_eq] at this
  exact this
theorem a_impl_IsMap (a : List Int) : AFn Tryz.prog 44 [eL a] (· = [.val (.bool (isMap a))]) :=
  afn_L_s (v := .bool _) (enters_of Tryz.func44 rfl rfl) (fun _ _ => rdV_bool.2 rfl) (fun u w h => c_impl_IsMap u a w h)
theorem a_spec_l07Is (a : List Int) : AFn Tryz.prog 42 [eL a] (· = [.val (.bool (isMap a))]) :=
  afn_L_s (v := .bool _) (enters_of Tryz.func42 rfl rfl) (fun _ _ => rdV_bool.2 rfl) (fun u w h => c_spec_l07Is u a w h)
theorem a_l03FindT (t : List Int) (h : canT t = true) (hl : t.length ≤ 6) : AFn Tryz.prog 50 [eLL T6, eL t] (· = [.val (.int (posT t))]) := by
  obtain ⟨p1, p2, p3, p4⟩ := plc_at h hl
  exact a_l03Find T6 t (posT t) (by rw [T6_len]; omega) p1 p2 (fun k hk hlt e => by have := p3 k hk hlt; rw [e, cmpT_cmp.refl] at this; omega)
theorem a_valueOf (a ps : List Int) (ha : isMap a = true) (hp : ∀ p ∈ ps, 0 ≤ p ∧ p < 38) (hl : ps.length ≤ 1000000) : AFn Tryz.prog 56 [eL a, eL ps] (· = [.val (.int (valM a ps))]) := by
  obtain ⟨hal, hab⟩ := isMap_bd ha
  refine AFn.of_runs (cfg_ok 23) Tryz.func56 rfl rfl rfl (by simp only [List.length_cons, List.length_nil]; decide) ?_
  have hres : Tryz.f56.results.toList = [.tmp 4] := rfl
  have hrts : Tryz.f56.resultTypes.toList = [2] := rfl
  simp only [argRegs, argAV1, eL, eI, eLL, eB, Nat.zero_add, Nat.reduceAdd]
  intro M
  refine RunK.of ?_
  repeat' (first | with_reducible (first | refine Q1 ?_ | refine Q2 ?_ | refine Q3 ?_ | refine Q4 ?_ | refine Q5 ?_ | refine Q6 ?_ | refine Q7 ?_ | refine Q8 ?_ | refine Q9 ?_ | refine Qa ?_ | refine Qb ?_ | refine Qc ?_ | refine Qd ?_ | refine Qe ?_ | refine Qf ?_) | ((with_reducible refine Qo ?_ ?_); focus rfl) | ((with_reducible first | refine QT 11 (l := ?_) ?_ ?_ | refine QF 11 (l := ?_) ?_ ?_); rotate_left 1; focus (simp only [Zu, Nat.reduceSub, Nat.reduceBEq]; with_reducible rfl)) | ((with_reducible first | refine QS (cfg_ok 23) Tab.none (s' := ?_) ?_ ?_ | refine QC (b := ?_) ?_ ?_); rotate_left 1; focus ((with_reducible refine QW ?_); simp only [Zg, seval, if_true, if_false, reduceCtorEq, Nat.reduceEqDiff, List.length_map]; with_reducible rfl)))
  refine RunK.loop (β := Nat) (γ := Unit) (fun k => ⟨[(0, .c (.val (.sl 1 (a.map eI)))), (5, .c (.val (.int (valM a (ps.take k))))), (8, .c (.val (.sl 1 (ps.map eI)))), (9, .c (.val (.int ps.length))), (10, .c (.val (.int k)))], []⟩) (fun k => k ≤ ps.length) (fun k => ps.length - k)
    (fun _ => ⟨[(5, .c (.val (.int (valM a ps))))], []⟩) (fun _ => True) 0 (Nat.zero_le _) ?_ ?_ ?_
  · (repeat' (first | with_reducible refine Qn | ((with_reducible refine Qr ?_ ?_); focus (first | with_reducible rfl | (simp only [Zz, Nat.reduceBEq, List.take_zero, show valM a [] = 1 from rfl, Int.natCast_zero]; done) | rfl)) | ((with_reducible refine Qj (o' := ?_) ?_ ?_ ?_); rotate_left 1; focus rfl) | ((with_reducible refine Qw ?_ ?_); (focus (first | with_reducible rfl | (simp only [Zv, List.take_zero, show valM a [] = 1 from rfl, Int.natCast_zero]; done))); focus (first | exact id | exact (fun h => nomatch h) | exact (fun _ => rfl)))))
  · intro k hk
    have hk : k ≤ ps.length := hk
    have hw := w64_succ (n := k) (by omega)
    by_cases h : k < ps.length
    · have i1 : ((k : Int) < (ps.length : Int)) = True := eq_true (by omega)
      have i2 : ((0 : Int) ≤ (k : Int)) = True := eq_true (by omega)
      obtain ⟨p, hpe⟩ : ∃ p, p = ps[k] := ⟨_, rfl⟩
      obtain ⟨p1, p2⟩ := hp ps[k] (List.getElem_mem _)
      rw [← hpe] at p1 p2
      obtain ⟨m, rfl⟩ : ∃ m : Nat, p = m := ⟨p.toNat, by omega⟩
      have hm : m < a.length := by omega
      have hle1 : (ps.map eI).length = ps.length := List.length_map _
      have hle2 : (a.map eI).length = 38 := by rw [List.length_map, hal]
      have hg1 : (ps.map eI)[k]? = some [.int (m : Int)] := by rw [map_get h, ← hpe]; rfl
      have hg2 : (a.map eI)[m]? = some [.int (a.getD m 0)] := by rw [map_get hm, getD_at hm]; rfl
      have hst : valM a (ps.take (k + 1)) = mP (valM a (ps.take k) * a.getD m 0) := by rw [List.take_succ_eq_append_getElem h, valM_snoc, ← hpe]; rfl
      have i3 : ((m : Int) < 38) = True := eq_true (by omega)
      have i4 : ((0 : Int) ≤ (m : Int)) = True := eq_true (by omega)
      have hmb := mul_bdM (valM_bd a (ps.take k)) (hab m)
      have hw2 : w64 (valM a (ps.take k) * a.getD m 0) = valM a (ps.take k) * a.getD m 0 := w64_eq (by omega)
      have hnum := a_num (valM a (ps.take k) * a.getD m 0)
      simp only [eI] at hnum
      repeat' (first | with_reducible (first | refine Q1 ?_ | refine Q2 ?_ | refine Q3 ?_ | refine Q4 ?_ | refine Q5 ?_ | refine Q6 ?_ | refine Q7 ?_ | refine Q8 ?_ | refine Q9 ?_ | refine Qa ?_ | refine Qb ?_ | refine Qc ?_ | refine Qd ?_ | refine Qe ?_ | refine Qf ?_) | ((with_reducible refine Qo ?_ ?_); focus rfl) | ((with_reducible first | refine QT 11 (l := ?_) ?_ ?_ | refine QF 11 (l := ?_) ?_ ?_); rotate_left 1; focus (simp only [Zu, Nat.reduceSub, Nat.reduceBEq]; with_reducible rfl)) | ((with_reducible first | refine QS (cfg_ok 23) (Tab.none.at' 77 hnum) (s' := ?_) ?_ ?_ | refine QC (b := ?_) ?_ ?_); rotate_left 1; focus ((with_reducible refine QW ?_); simp only [Zg, seval, if_true, if_false, reduceCtorEq, Nat.reduceEqDiff, i1, i2, i3, i4, hle1, hle2, hg1, hg2, hw, hw2, Int.toNat_natCast]; with_reducible rfl)))
      refine roundK.on (k + 1) ⟨h, by omega⟩ ?_
      rw [hst]
      (repeat' (first | with_reducible refine Qn | ((with_reducible refine Qr ?_ ?_); focus (first | with_reducible rfl | (simp only [Zz, Nat.reduceBEq]; done) | rfl)) | ((with_reducible refine Qj (o' := ?_) ?_ ?_ ?_); rotate_left 1; focus rfl) | ((with_reducible refine Qw ?_ ?_); (focus (first | with_reducible rfl | (simp only [Zv]; done))); focus (first | exact id | exact (fun h => nomatch h) | exact (fun _ => rfl)))))
    · have i1 : ((k : Int) < (ps.length : Int)) = False := eq_false (by omega)
      repeat' (first | with_reducible (first | refine Q1 ?_ | refine Q2 ?_ | refine Q3 ?_ | refine Q4 ?_ | refine Q5 ?_ | refine Q6 ?_ | refine Q7 ?_ | refine Q8 ?_ | refine Q9 ?_ | refine Qa ?_ | refine Qb ?_ | refine Qc ?_ | refine Qd ?_ | refine Qe ?_ | refine Qf ?_) | ((with_reducible refine Qo ?_ ?_); focus rfl) | ((with_reducible first | refine QT 11 (l := ?_) ?_ ?_ | refine QF 11 (l := ?_) ?_ ?_); rotate_left 1; focus (simp only [Zu, Nat.reduceSub, Nat.reduceBEq]; with_reducible rfl)) | ((with_reducible first | refine QS (cfg_ok 23) Tab.none (s' := ?_) ?_ ?_ | refine QC (b := ?_) ?_ ?_); rotate_left 1; focus ((with_reducible refine QW ?_); simp only [Zg, seval, if_true, if_false, reduceCtorEq, Nat.reduceEqDiff, i1]; with_reducible rfl)))
      refine roundK.out () trivial ?_
      rw [List.take_of_length_le (by omega)]
      (repeat' (first | with_reducible refine Qn | ((with_reducible refine Qr ?_ ?_); focus (first | with_reducible rfl | (simp only [Zz, Nat.reduceBEq]; done) | rfl)) | ((with_reducible refine Qj (o' := ?_) ?_ ?_ ?_); rotate_left 1; focus rfl) | ((with_reducible refine Qw ?_ ?_); (focus (first | with_reducible rfl | (simp only [Zv]; done))); focus (first | exact id | exact (fun h => nomatch h) | exact (fun _ => rfl)))))
  · rintro _ _
    repeat' (first | with_reducible (first | refine Q1 ?_ | refine Q2 ?_ | refine Q3 ?_ | refine Q4 ?_ | refine Q5 ?_ | refine Q6 ?_ | refine Q7 ?_ | refine Q8 ?_ | refine Q9 ?_ | refine Qa ?_ | refine Qb ?_ | refine Qc ?_ | refine Qd ?_ | refine Qe ?_ | refine Qf ?_) | ((with_reducible refine Qo ?_ ?_); focus rfl) | ((with_reducible first | refine QT 11 (l := ?_) ?_ ?_ | refine QF 11 (l := ?_) ?_ ?_); rotate_left 1; focus (simp only [Zu, Nat.reduceSub, Nat.reduceBEq]; with_reducible rfl)) | ((with_reducible first | refine QS (cfg_ok 23) Tab.none (s' := ?_) ?_ ?_ | refine QC (b := ?_) ?_ ?_); rotate_left 1; focus ((with_reducible refine QW ?_); simp only [Zg, seval, if_true, if_false, reduceCtorEq, Nat.reduceEqDiff]; with_reducible rfl)))
    (refine Ends.mk (by simp) (rs := ?_) (ks := ?_) hres hrts ?_ ?_ ?_; rotate_left 2; (focus (simp only [Ze, Zg, seval, if_true, if_false, reduceCtorEq, Nat.reduceEqDiff]; with_reducible rfl)); (focus simp); focus (first | with_reducible rfl | (simp only [Zv]; done)))
theorem mP_mul (a b : Int) : mP (mP a * b) = mP (a * b) := by unfold mP; rw [Int.mul_emod, Int.emod_emod_of_dvd _ (Int.dvd_refl _), ← Int.mul_emod]
theorem valM_perm (a : List Int) {ps qs : List Int} (h : ps.Perm qs) : valM a ps = valM a qs := by
  unfold valM
  refine h.foldl_eq' (fun x _ y _ z => ?_) 1
  rw [mP_mul, mP_mul, Int.mul_right_comm]
theorem raiM_at {a : List Int} {i : Nat} (h : i < T6.length) : (0 :: (T6.take i).map fun t => valM a ((brs t).map plc)) ++ [valM a ((brs T6[i]).map plc)] = 0 :: (T6.take (i + 1)).map fun t => valM a ((brs t).map plc) := by
  rw [List.take_succ_eq_append_getElem h, List.map_append]; rfl
set_option maxRecDepth 20000 in
set_option maxHeartbeats 8000000 in
theorem a_raiseMap (X : List (List D)) (a : List Int) (ha : isMap a = true) : AFn Tryz.prog 45 [[.sl 1 (T6.map eL), .sl 1 X], eL a] (· = [.own 1 ((raiM a).map eI) true]) := by
  obtain ⟨hal, hab⟩ := isMap_bd ha
  obtain ⟨T, hT⟩ : ∃ T, T = T6.map eL := ⟨_, rfl⟩
  have hTl : T.length = 37 := by rw [hT, List.length_map, T6_len]
  rw [← hT]
  refine AFn.of_runs (cfg_ok 42) Tryz.func45 rfl rfl rfl (by simp only [List.length_cons, List.length_nil]; decide) ?_
  have hres : Tryz.f45.results.toList = [.tmp 4] := rfl
  have hrts : Tryz.f45.resultTypes.toList = [22] := rfl
  simp only [argRegs, argAV1, eL, eI, eLL, eB, Nat.zero_add, Nat.reduceAdd]
  intro M
  refine RunK.of ?_
  repeat' (first | with_reducible (first | refine Q1 ?_ | refine Q2 ?_ | refine Q3 ?_ | refine Q4 ?_ | refine Q5 ?_ | refine Q6 ?_ | refine Q7 ?_ | refine Q8 ?_ | refine Q9 ?_ | refine Qa ?_ | refine Qb ?_ | refine Qc ?_ | refine Qd ?_ | refine Qe ?_ | refine Qf ?_) | ((with_reducible refine Qo ?_ ?_); focus rfl) | ((with_reducible first | refine QT 24 (l := ?_) ?_ ?_ | refine QF 24 (l := ?_) ?_ ?_); rotate_left 1; focus (simp only [Zu, Nat.reduceSub, Nat.reduceBEq]; with_reducible rfl)) | ((with_reducible first | refine QS (cfg_ok 42) Tab.none (s' := ?_) ?_ ?_ | refine QC (b := ?_) ?_ ?_); rotate_left 1; focus ((with_reducible refine QW ?_); simp only [Zg, seval, if_true, if_false, reduceCtorEq, Nat.reduceEqDiff, hTl]; with_reducible rfl)))
  refine RunK.loop (β := Nat) (γ := Unit) (fun i => ⟨[(1, .c (.val (.sl 1 (a.map eI)))), (2, .optr 2 0 0), (5, .c (.own 5 (i + 1))), (13, .c (.val (.sl 1 T))), (14, .c (.val (.int 37))), (15, .c (.val (.int i)))], [(2, .row 2 [[.sl 1 T, .sl 1 X]] false), (5, .row 1 ((0 :: (T6.take i).map fun t => valM a ((brs t).map plc)).map eI) true)]⟩) (fun i => i ≤ 37) (fun i => 37 - i)
    (fun _ => ⟨[(5, .c (.own 5 38))], [(5, .row 1 ((raiM a).map eI) true)]⟩) (fun _ => True) 0 (Nat.zero_le _) ?_ ?_ ?_
  · (repeat' (first | with_reducible refine Qn | ((with_reducible refine Qr ?_ ?_); focus (first | with_reducible rfl | (simp only [Zz, Nat.reduceBEq, List.take_zero, List.map_nil, Int.natCast_zero, List.map_cons, eI]; done) | rfl)) | ((with_reducible refine Qj (o' := ?_) ?_ ?_ ?_); rotate_left 1; focus rfl) | ((with_reducible refine Qw ?_ ?_); (focus (first | with_reducible rfl | (simp only [Zv, List.take_zero, List.map_nil, Int.natCast_zero, List.map_cons, eI]; done))); focus (first | exact id | exact (fun h => nomatch h) | exact (fun _ => rfl)))))
  · intro i hi
    have hi : i ≤ 37 := hi
    have hw := w64_succ (n := i) (by omega)
    by_cases hi37 : i < 37
    · have i1 : ((i : Int) < 37) = True := eq_true (by omega)
      have i2 : ((0 : Int) ≤ (i : Int)) = True := eq_true (by omega)
      have hiT : i < T6.length := by rw [T6_len]; exact hi37
      have hat := raiM_at (a := a) hiT
      obtain ⟨t, ht⟩ : ∃ t, t = T6[i] := ⟨_, rfl⟩
      have htm : t ∈ T6 := by rw [ht]; exact List.getElem_mem _
      have hg : T[i]? = some [.sl 1 (t.map eI)] := by rw [hT, map_get hiT, ht]; rfl
      rw [← ht] at hat
      obtain ⟨R, hR⟩ : ∃ R, R = 0 :: (T6.take i).map fun t => valM a ((brs t).map plc) := ⟨_, rfl⟩
      have hRl : R.length = i + 1 := by rw [hR, List.length_cons, List.length_map, List.length_take]; omega
      have hRm : (R.map eI).length = i + 1 := by rw [List.length_map, hRl]
      rw [← hR] at hat ⊢
      obtain ⟨hct, hcl⟩ := T6_ok t htm
      obtain ⟨hlev, _⟩ := canT_lev hct
      obtain ⟨hb1, hb2⟩ := brs6 t htm
      have hbr := AFn.valT (a_branchesOf t hlev (by omega))
      obtain ⟨B, hB⟩ : ∃ B, B = brs t := ⟨_, rfl⟩
      rw [← hB] at hbr hb1 hb2 hat
      simp only [eL] at hbr
      have hBm : (B.map eL).length = B.length := List.length_map _
      repeat' (first | with_reducible (first | refine Q1 ?_ | refine Q2 ?_ | refine Q3 ?_ | refine Q4 ?_ | refine Q5 ?_ | refine Q6 ?_ | refine Q7 ?_ | refine Q8 ?_ | refine Q9 ?_ | refine Qa ?_ | refine Qb ?_ | refine Qc ?_ | refine Qd ?_ | refine Qe ?_ | refine Qf ?_) | ((with_reducible refine Qo ?_ ?_); focus rfl) | ((with_reducible first | refine QT 24 (l := ?_) ?_ ?_ | refine QF 24 (l := ?_) ?_ ?_); rotate_left 1; focus (simp only [Zu, Nat.reduceSub, Nat.reduceBEq]; with_reducible rfl)) | ((with_reducible first | refine QS (cfg_ok 42) (Tab.none.at' 97 hbr) (s' := ?_) ?_ ?_ | refine QC (b := ?_) ?_ ?_); rotate_left 1; focus ((with_reducible refine QW ?_); simp only [Zg, seval, if_true, if_false, reduceCtorEq, Nat.reduceEqDiff, i1, i2, hg, hTl, hBm, Int.toNat_natCast]; with_reducible rfl)))
      refine RunK.loop (β := Nat) (γ := Unit) (fun j => ⟨[(1, .c (.val (.sl 1 (a.map eI)))), (2, .optr 2 0 0), (5, .c (.own 5 (i + 1))), (8, .c (.own 8 j)), (13, .c (.val (.sl 1 T))), (14, .c (.val (.int 37))), (15, .c (.val (.int i))), (21, .c (.val (.sl 1 (B.map eL)))), (22, .c (.val (.int B.length))), (23, .c (.val (.int j)))], [(2, .row 2 [[.sl 1 T, .sl 1 X]] false), (5, .row 1 (R.map eI) true), (8, .row 1 (((B.take j).map plc).map eI) true)]⟩) (fun j => j ≤ B.length) (fun j => B.length - j)
        (fun _ => ⟨[(1, .c (.val (.sl 1 (a.map eI)))), (2, .optr 2 0 0), (5, .c (.own 5 (i + 1))), (8, .c (.own 8 B.length)), (13, .c (.val (.sl 1 T))), (14, .c (.val (.int 37))), (15, .c (.val (.int i)))], [(2, .row 2 [[.sl 1 T, .sl 1 X]] false), (5, .row 1 (R.map eI) true), (8, .row 1 ((B.map plc).map eI) true)]⟩) (fun _ => True) 0 (Nat.zero_le _) ?_ ?_ ?_
      · (repeat' (first | with_reducible refine Qn | ((with_reducible refine Qr ?_ ?_); focus (first | with_reducible rfl | (simp only [Zz, Nat.reduceBEq, List.take_zero, List.map_nil, Int.natCast_zero]; done) | rfl)) | ((with_reducible refine Qj (o' := ?_) ?_ ?_ ?_); rotate_left 1; focus rfl) | ((with_reducible refine Qw ?_ ?_); (focus (first | with_reducible rfl | (simp only [Zv, List.take_zero, List.map_nil, Int.natCast_zero]; done))); focus (first | exact id | exact (fun h => nomatch h) | exact (fun _ => rfl)))))
      · intro j hj
        have hj : j ≤ B.length := hj
        have hwj := w64_succ (n := j) (by omega)
        by_cases hjB : j < B.length
        · have j1 : ((j : Int) < (B.length : Int)) = True := eq_true (by omega)
          have j2 : ((0 : Int) ≤ (j : Int)) = True := eq_true (by omega)
          obtain ⟨b, hb⟩ : ∃ b, b = B[j] := ⟨_, rfl⟩
          have hbg : (B.map eL)[j]? = some [.sl 1 (b.map eI)] := by rw [map_get hjB, hb]; rfl
          obtain ⟨b1, b2⟩ := hb1 B[j] (List.getElem_mem _)
          rw [← hb] at b1 b2
          have hpl := a_place X b b1 b2
          rw [← hT] at hpl
          have hbk : ((B.take (j + 1)).map plc).map eI = ((B.take j).map plc).map eI ++ [[.int (plc b)]] := by
            rw [hb, List.take_succ_eq_append_getElem hjB, List.map_append, List.map_append]; rfl
          obtain ⟨C, hC⟩ : ∃ C, C = ((B.take j).map plc).map eI := ⟨_, rfl⟩
          have hCl : C.length = j := by rw [hC, List.length_map, List.length_map, List.length_take]; omega
          rw [← hC] at hbk ⊢
          have r1 := big_le (n := j + 1) (by omega)
          have r2 := big_mul (n := j + 1) (c := 8) (by omega) (by omega)
          have r3 : (j ≤ 140737488355327) = True := eq_true (by omega)
          repeat' (first | with_reducible (first | refine Q1 ?_ | refine Q2 ?_ | refine Q3 ?_ | refine Q4 ?_ | refine Q5 ?_ | refine Q6 ?_ | refine Q7 ?_ | refine Q8 ?_ | refine Q9 ?_ | refine Qa ?_ | refine Qb ?_ | refine Qc ?_ | refine Qd ?_ | refine Qe ?_ | refine Qf ?_) | ((with_reducible refine Qo ?_ ?_); focus rfl) | ((with_reducible first | refine QT 24 (l := ?_) ?_ ?_ | refine QF 24 (l := ?_) ?_ ?_); rotate_left 1; focus (simp only [Zu, Nat.reduceSub, Nat.reduceBEq]; with_reducible rfl)) | ((with_reducible first | refine QS (cfg_ok 42) (Tab.none.at' 55 hpl) (s' := ?_) ?_ ?_ | refine QC (b := ?_) ?_ ?_); rotate_left 1; focus ((with_reducible refine QW ?_); simp only [Zg, seval, if_true, if_false, reduceCtorEq, Nat.reduceEqDiff, j1, j2, hbg, hBm, hCl, r1, r2, r3, hwj, Int.toNat_natCast]; with_reducible rfl)))
          refine roundK.on (j + 1) ⟨hjB, by omega⟩ ?_
          rw [hbk]
          (repeat' (first | with_reducible refine Qn | ((with_reducible refine Qr ?_ ?_); focus (first | with_reducible rfl | (simp only [Zz, Nat.reduceBEq]; done) | rfl)) | ((with_reducible refine Qj (o' := ?_) ?_ ?_ ?_); rotate_left 1; focus rfl) | ((with_reducible refine Qw ?_ ?_); (focus (first | with_reducible rfl | (simp only [Zv]; done))); focus (first | exact id | exact (fun h => nomatch h) | exact (fun _ => rfl)))))
        · have j1 : ((j : Int) < (B.length : Int)) = False := eq_false (by omega)
          obtain rfl : j = B.length := by omega
          repeat' (first | with_reducible (first | refine Q1 ?_ | refine Q2 ?_ | refine Q3 ?_ | refine Q4 ?_ | refine Q5 ?_ | refine Q6 ?_ | refine Q7 ?_ | refine Q8 ?_ | refine Q9 ?_ | refine Qa ?_ | refine Qb ?_ | refine Qc ?_ | refine Qd ?_ | refine Qe ?_ | refine Qf ?_) | ((with_reducible refine Qo ?_ ?_); focus rfl) | ((with_reducible first | refine QT 24 (l := ?_) ?_ ?_ | refine QF 24 (l := ?_) ?_ ?_); rotate_left 1; focus (simp only [Zu, Nat.reduceSub, Nat.reduceBEq]; with_reducible rfl)) | ((with_reducible first | refine QS (cfg_ok 42) Tab.none (s' := ?_) ?_ ?_ | refine QC (b := ?_) ?_ ?_); rotate_left 1; focus ((with_reducible refine QW ?_); simp only [Zg, seval, if_true, if_false, reduceCtorEq, Nat.reduceEqDiff, j1]; with_reducible rfl)))
          refine roundK.out () trivial ?_
          rw [List.take_length]
          (repeat' (first | with_reducible refine Qn | ((with_reducible refine Qr ?_ ?_); focus (first | with_reducible rfl | (simp only [Zz, Nat.reduceBEq]; done) | rfl)) | ((with_reducible refine Qj (o' := ?_) ?_ ?_ ?_); rotate_left 1; focus rfl) | ((with_reducible refine Qw ?_ ?_); (focus (first | with_reducible rfl | (simp only [Zv]; done))); focus (first | exact id | exact (fun h => nomatch h) | exact (fun _ => rfl)))))
      · rintro _ _
        have hv := a_valueOf a (B.map plc) ha (fun p hp => by
          obtain ⟨b, hb, rfl⟩ := List.mem_map.1 hp
          obtain ⟨b1, b2⟩ := hb1 b hb
          have := plc_lt b1 b2; omega) (by rw [List.length_map]; omega)
        simp only [eL] at hv
        have q1 := big_le (n := i + 1 + 1) (by omega)
        have q2 := big_mul (n := i + 1 + 1) (c := 8) (by omega) (by omega)
        have q3 : (i ≤ 140737488355326) = True := eq_true (by omega)
        repeat' (first | with_reducible (first | refine Q1 ?_ | refine Q2 ?_ | refine Q3 ?_ | refine Q4 ?_ | refine Q5 ?_ | refine Q6 ?_ | refine Q7 ?_ | refine Q8 ?_ | refine Q9 ?_ | refine Qa ?_ | refine Qb ?_ | refine Qc ?_ | refine Qd ?_ | refine Qe ?_ | refine Qf ?_) | ((with_reducible refine Qo ?_ ?_); focus rfl) | ((with_reducible first | refine QT 24 (l := ?_) ?_ ?_ | refine QF 24 (l := ?_) ?_ ?_); rotate_left 1; focus (simp only [Zu, Nat.reduceSub, Nat.reduceBEq]; with_reducible rfl)) | ((with_reducible first | refine QS (cfg_ok 42) (Tab.none.at' 56 hv) (s' := ?_) ?_ ?_ | refine QC (b := ?_) ?_ ?_); rotate_left 1; focus ((with_reducible refine QW ?_); simp only [Zg, seval, if_true, if_false, reduceCtorEq, Nat.reduceEqDiff, hRm, q1, q2, q3, hw]; with_reducible rfl)))
        refine roundK.on (i + 1) ⟨by omega, by omega⟩ ?_
        rw [← hat, List.map_append]
        (repeat' (first | with_reducible refine Qn | ((with_reducible refine Qr ?_ ?_); focus (first | with_reducible rfl | (simp only [Zz, Nat.reduceBEq, List.map_cons, List.map_nil, eI]; done) | rfl)) | ((with_reducible refine Qj (o' := ?_) ?_ ?_ ?_); rotate_left 1; focus rfl) | ((with_reducible refine Qw ?_ ?_); (focus (first | with_reducible rfl | (simp only [Zv, List.map_cons, List.map_nil, eI]; done))); focus (first | exact id | exact (fun h => nomatch h) | exact (fun _ => rfl)))))
    · have i1 : ((i : Int) < 37) = False := eq_false (by omega)
      obtain rfl : i = 37 := by omega
      repeat' (first | with_reducible (first | refine Q1 ?_ | refine Q2 ?_ | refine Q3 ?_ | refine Q4 ?_ | refine Q5 ?_ | refine Q6 ?_ | refine Q7 ?_ | refine Q8 ?_ | refine Q9 ?_ | refine Qa ?_ | refine Qb ?_ | refine Qc ?_ | refine Qd ?_ | refine Qe ?_ | refine Qf ?_) | ((with_reducible refine Qo ?_ ?_); focus rfl) | ((with_reducible first | refine QT 24 (l := ?_) ?_ ?_ | refine QF 24 (l := ?_) ?_ ?_); rotate_left 1; focus (simp only [Zu, Nat.reduceSub, Nat.reduceBEq]; with_reducible rfl)) | ((with_reducible first | refine QS (cfg_ok 42) Tab.none (s' := ?_) ?_ ?_ | refine QC (b := ?_) ?_ ?_); rotate_left 1; focus ((with_reducible refine QW ?_); simp only [Zg, seval, if_true, if_false, reduceCtorEq, Nat.reduceEqDiff, i1]; with_reducible rfl)))
      refine roundK.out () trivial ?_
      rw [List.take_of_length_le (by rw [T6_len]; omega)]
      (repeat' (first | with_reducible refine Qn | ((with_reducible refine Qr ?_ ?_); focus (first | with_reducible rfl | (simp only [Zz, Nat.reduceBEq]; done) | rfl)) | ((with_reducible refine Qj (o' := ?_) ?_ ?_ ?_); rotate_left 1; focus rfl) | ((with_reducible refine Qw ?_ ?_); (focus (first | with_reducible rfl | (simp only [Zv]; done))); focus (first | exact id | exact (fun h => nomatch h) | exact (fun _ => rfl)))))
      all_goals exact ⟨rfl, rfl, id⟩
  · rintro _ _
    repeat' (first | with_reducible (first | refine Q1 ?_ | refine Q2 ?_ | refine Q3 ?_ | refine Q4 ?_ | refine Q5 ?_ | refine Q6 ?_ | refine Q7 ?_ | refine Q8 ?_ | refine Q9 ?_ | refine Qa ?_ | refine Qb ?_ | refine Qc ?_ | refine Qd ?_ | refine Qe ?_ | refine Qf ?_) | ((with_reducible refine Qo ?_ ?_); focus rfl) | ((with_reducible first | refine QT 24 (l := ?_) ?_ ?_ | refine QF 24 (l := ?_) ?_ ?_); rotate_left 1; focus (simp only [Zu, Nat.reduceSub, Nat.reduceBEq]; with_reducible rfl)) | ((with_reducible first | refine QS (cfg_ok 42) Tab.none (s' := ?_) ?_ ?_ | refine QC (b := ?_) ?_ ?_); rotate_left 1; focus ((with_reducible refine QW ?_); simp only [Zg, seval, if_true, if_false, reduceCtorEq, Nat.reduceEqDiff]; with_reducible rfl)))
    (refine Ends.mk (by simp) (rs := ?_) (ks := ?_) hres hrts ?_ ?_ ?_; rotate_left 2; (focus (simp only [Ze, Zg, seval, if_true, if_false, reduceCtorEq, Nat.reduceEqDiff]; with_reducible rfl)); (focus simp); focus (first | with_reducible rfl | (simp only [Zv]; done)))
theorem a_impl_RaiseMap (a : List Int) : AFn Tryz.prog 12 [eL a] (· = [.own 1 ((raiOf a).1.map eI) true, .val (.int (raiOf a).2)]) := by
  have hm := a_impl_IsMap a
  simp only [eL] at hm
  unfold raiOf
  refine AFn.of_runs (cfg_ok 10) Tryz.func12 rfl rfl rfl (by simp only [List.length_cons, List.length_nil]; decide) ?_
  have hres : Tryz.f12.results.toList = [.tmp 2, .tmp 3] := rfl
  have hrts : Tryz.f12.resultTypes.toList = [22, 2] := rfl
  simp only [argRegs, argAV1, eL, eI, eLL, eB, Nat.zero_add, Nat.reduceAdd]
  intro M
  refine RunK.of ?_
  by_cases h : isMap a = true
  · rw [h] at hm
    rw [if_pos h]
    have hr := a_raiseMap ((T6.map cutsM).map eMs) a h
    simp only [eL] at hr
    ((repeat' (first | with_reducible (first | refine Q1 ?_ | refine Q2 ?_ | refine Q3 ?_ | refine Q4 ?_ | refine Q5 ?_ | refine Q6 ?_ | refine Q7 ?_ | refine Q8 ?_ | refine Q9 ?_ | refine Qa ?_ | refine Qb ?_ | refine Qc ?_ | refine Qd ?_ | refine Qe ?_ | refine Qf ?_) | ((with_reducible refine Qo ?_ ?_); focus rfl) | ((with_reducible first | refine QT 4 (l := ?_) ?_ ?_ | refine QF 4 (l := ?_) ?_ ?_); rotate_left 1; focus (simp only [Zu, Nat.reduceSub, Nat.reduceBEq]; with_reducible rfl)) | ((with_reducible refine QC (b := ?_) ?_ ?_); rotate_left 1; focus ((with_reducible refine QW ?_); simp only [Zg, seval, if_true, if_false, reduceCtorEq, Nat.reduceEqDiff]; with_reducible rfl)))); ((with_reducible refine QS (cfg_ok 10) Tab.none (s' := ?_) ?_ ?_); rotate_left 1; focus ((with_reducible refine QW ?_); simp only [Zg, seval, if_true, if_false, reduceCtorEq, Nat.reduceEqDiff]; with_reducible rfl)); (repeat' (first | with_reducible (first | refine Q1 ?_ | refine Q2 ?_ | refine Q3 ?_ | refine Q4 ?_ | refine Q5 ?_ | refine Q6 ?_ | refine Q7 ?_ | refine Q8 ?_ | refine Q9 ?_ | refine Qa ?_ | refine Qb ?_ | refine Qc ?_ | refine Qd ?_ | refine Qe ?_ | refine Qf ?_) | ((with_reducible refine Qo ?_ ?_); focus rfl) | ((with_reducible first | refine QT 4 (l := ?_) ?_ ?_ | refine QF 4 (l := ?_) ?_ ?_); rotate_left 1; focus (simp only [Zu, Nat.reduceSub, Nat.reduceBEq]; with_reducible rfl)) | ((with_reducible refine QC (b := ?_) ?_ ?_); rotate_left 1; focus ((with_reducible refine QW ?_); simp only [Zg, seval, if_true, if_false, reduceCtorEq, Nat.reduceEqDiff]; with_reducible rfl)))))
    ((repeat' (first | with_reducible (first | refine Q1 ?_ | refine Q2 ?_ | refine Q3 ?_ | refine Q4 ?_ | refine Q5 ?_ | refine Q6 ?_ | refine Q7 ?_ | refine Q8 ?_ | refine Q9 ?_ | refine Qa ?_ | refine Qb ?_ | refine Qc ?_ | refine Qd ?_ | refine Qe ?_ | refine Qf ?_) | ((with_reducible refine Qo ?_ ?_); focus rfl) | ((with_reducible first | refine QT 4 (l := ?_) ?_ ?_ | refine QF 4 (l := ?_) ?_ ?_); rotate_left 1; focus (simp only [Zu, Nat.reduceSub, Nat.reduceBEq]; with_reducible rfl)) | ((with_reducible refine QC (b := ?_) ?_ ?_); rotate_left 1; focus ((with_reducible refine QW ?_); simp only [Zg, seval, if_true, if_false, reduceCtorEq, Nat.reduceEqDiff]; with_reducible rfl)))); ((with_reducible refine QS (cfg_ok 10) (Tab.none.at' 44 hm) (s' := ?_) ?_ ?_); rotate_left 1; focus ((with_reducible refine QW ?_); simp only [Zg, seval, if_true, if_false, reduceCtorEq, Nat.reduceEqDiff]; with_reducible rfl)); (repeat' (first | with_reducible (first | refine Q1 ?_ | refine Q2 ?_ | refine Q3 ?_ | refine Q4 ?_ | refine Q5 ?_ | refine Q6 ?_ | refine Q7 ?_ | refine Q8 ?_ | refine Q9 ?_ | refine Qa ?_ | refine Qb ?_ | refine Qc ?_ | refine Qd ?_ | refine Qe ?_ | refine Qf ?_) | ((with_reducible refine Qo ?_ ?_); focus rfl) | ((with_reducible first | refine QT 4 (l := ?_) ?_ ?_ | refine QF 4 (l := ?_) ?_ ?_); rotate_left 1; focus (simp only [Zu, Nat.reduceSub, Nat.reduceBEq]; with_reducible rfl)) | ((with_reducible refine QC (b := ?_) ?_ ?_); rotate_left 1; focus ((with_reducible refine QW ?_); simp only [Zg, seval, if_true, if_false, reduceCtorEq, Nat.reduceEqDiff]; with_reducible rfl)))))
    ((repeat' (first | with_reducible (first | refine Q1 ?_ | refine Q2 ?_ | refine Q3 ?_ | refine Q4 ?_ | refine Q5 ?_ | refine Q6 ?_ | refine Q7 ?_ | refine Q8 ?_ | refine Q9 ?_ | refine Qa ?_ | refine Qb ?_ | refine Qc ?_ | refine Qd ?_ | refine Qe ?_ | refine Qf ?_) | ((with_reducible refine Qo ?_ ?_); focus rfl) | ((with_reducible first | refine QT 4 (l := ?_) ?_ ?_ | refine QF 4 (l := ?_) ?_ ?_); rotate_left 1; focus (simp only [Zu, Nat.reduceSub, Nat.reduceBEq]; with_reducible rfl)) | ((with_reducible refine QC (b := ?_) ?_ ?_); rotate_left 1; focus ((with_reducible refine QW ?_); simp only [Zg, seval, if_true, if_false, reduceCtorEq, Nat.reduceEqDiff]; with_reducible rfl)))); (with_reducible refine RunK.regCut (cfg_ok 10) Tab.none 0 (s1 := ?_) ?_ ?_); rotate_left 1; (focus ((with_reducible refine QW ?_); simp only [Zg, seval, if_true, if_false, reduceCtorEq, Nat.reduceEqDiff]; with_reducible rfl)); simp only [List.toList_toArray, List.drop_succ_cons, List.drop_zero])
    refine ROps.callS (cfg_ok 10) rfl (d := 7) rfl (by decide) rfl rfl rfl rfl s_newForms ?_
    (refine ROps.opsT (cfg_ok 10) (T := Tab.none.at' 45 hr) (s' := ?_) ?_ ?_; rotate_left 1; focus (simp only [Zg, seval, if_true, if_false, reduceCtorEq, Nat.reduceEqDiff, frmD, List.map_cons, List.map_nil]; with_reducible rfl))
    repeat' (first | with_reducible (first | refine Q1 ?_ | refine Q2 ?_ | refine Q3 ?_ | refine Q4 ?_ | refine Q5 ?_ | refine Q6 ?_ | refine Q7 ?_ | refine Q8 ?_ | refine Q9 ?_ | refine Qa ?_ | refine Qb ?_ | refine Qc ?_ | refine Qd ?_ | refine Qe ?_ | refine Qf ?_) | ((with_reducible refine Qo ?_ ?_); focus rfl) | ((with_reducible first | refine QT 4 (l := ?_) ?_ ?_ | refine QF 4 (l := ?_) ?_ ?_); rotate_left 1; focus (simp only [Zu, Nat.reduceSub, Nat.reduceBEq]; with_reducible rfl)) | ((with_reducible first | refine QS (cfg_ok 10) Tab.none (s' := ?_) ?_ ?_ | refine QC (b := ?_) ?_ ?_); rotate_left 1; focus ((with_reducible refine QW ?_); simp only [Zg, seval, if_true, if_false, reduceCtorEq, Nat.reduceEqDiff]; with_reducible rfl)))
    (refine Ends.mk (by simp) (rs := ?_) (ks := ?_) hres hrts ?_ ?_ ?_; rotate_left 2; (focus (simp only [Ze, Zg, seval, if_true, if_false, reduceCtorEq, Nat.reduceEqDiff]; with_reducible rfl)); (focus simp); focus (first | with_reducible rfl | (simp only [Zv]; done)))
  · have h' : isMap a = false := by simpa using h
    rw [h'] at hm
    rw [if_neg h]
    repeat' (first | with_reducible (first | refine Q1 ?_ | refine Q2 ?_ | refine Q3 ?_ | refine Q4 ?_ | refine Q5 ?_ | refine Q6 ?_ | refine Q7 ?_ | refine Q8 ?_ | refine Q9 ?_ | refine Qa ?_ | refine Qb ?_ | refine Qc ?_ | refine Qd ?_ | refine Qe ?_ | refine Qf ?_) | ((with_reducible refine Qo ?_ ?_); focus rfl) | ((with_reducible first | refine QT 4 (l := ?_) ?_ ?_ | refine QF 4 (l := ?_) ?_ ?_); rotate_left 1; focus (simp only [Zu, Nat.reduceSub, Nat.reduceBEq]; with_reducible rfl)) | ((with_reducible first | refine QS (cfg_ok 10) (Tab.none.at' 44 hm) (s' := ?_) ?_ ?_ | refine QC (b := ?_) ?_ ?_); rotate_left 1; focus ((with_reducible refine QW ?_); simp only [Zg, seval, if_true, if_false, reduceCtorEq, Nat.reduceEqDiff]; with_reducible rfl)))
    (refine Ends.mk (by simp) (rs := ?_) (ks := ?_) hres hrts ?_ ?_ ?_; rotate_left 2; (focus (simp only [Ze, Zg, seval, if_true, if_false, reduceCtorEq, Nat.reduceEqDiff]; with_reducible rfl)); (focus simp); focus (first | with_reducible rfl | (simp only [Zv]; done)))
theorem k_impl_RaiseMap (v : Value) (a : List Int) (w : World) (h : Rd (RS RI) w [v] a) : Calls Tryz.prog 12 #[v] w (RetOC (RS RI) w (raiOf a).1 (raiOf a).2) :=
  AFn.oi encI (a_impl_RaiseMap a) (args1 (arg_L h))
set_option maxRecDepth 20000 in
set_option maxHeartbeats 8000000 in
theorem a_l07Raise (a : List Int) (ha : isMap a = true) : AFn Tryz.prog 43 [eL a] (· = [.own 1 ((raiM a).map eI) true]) := by
  obtain ⟨hal, hab⟩ := isMap_bd ha
  have hto : AFn Tryz.prog 49 [[.int 6]] (· = [.val (.sl 1 (T6.map eL))]) := AFn.val1 (a_l03All 6 (by decide))
  obtain ⟨T, hT⟩ : ∃ T, T = T6.map eL := ⟨_, rfl⟩
  have hTl : T.length = 37 := by rw [hT, List.length_map, T6_len]
  rw [← hT] at hto
  refine AFn.of_runs (cfg_ok 45) Tryz.func43 rfl rfl rfl (by simp only [List.length_cons, List.length_nil]; decide) ?_
  have hres : Tryz.f43.results.toList = [.tmp 2] := rfl
  have hrts : Tryz.f43.resultTypes.toList = [22] := rfl
  simp only [argRegs, argAV1, eL, eI, eLL, eB, Nat.zero_add, Nat.reduceAdd]
  intro M
  refine RunK.of ?_
  repeat' (first | with_reducible (first | refine Q1 ?_ | refine Q2 ?_ | refine Q3 ?_ | refine Q4 ?_ | refine Q5 ?_ | refine Q6 ?_ | refine Q7 ?_ | refine Q8 ?_ | refine Q9 ?_ | refine Qa ?_ | refine Qb ?_ | refine Qc ?_ | refine Qd ?_ | refine Qe ?_ | refine Qf ?_) | ((with_reducible refine Qo ?_ ?_); focus rfl) | ((with_reducible first | refine QT 9 (l := ?_) ?_ ?_ | refine QF 9 (l := ?_) ?_ ?_); rotate_left 1; focus (simp only [Zu, Nat.reduceSub, Nat.reduceBEq]; with_reducible rfl)) | ((with_reducible first | refine QS (cfg_ok 45) (Tab.none.at' 49 hto) (s' := ?_) ?_ ?_ | refine QC (b := ?_) ?_ ?_); rotate_left 1; focus ((with_reducible refine QW ?_); simp only [Zg, seval, if_true, if_false, reduceCtorEq, Nat.reduceEqDiff, hTl]; with_reducible rfl)))
  refine RunK.loop (β := Nat) (γ := Unit) (fun i => ⟨[(0, .c (.val (.sl 1 (a.map eI)))), (3, .c (.val (.sl 1 T))), (4, .c (.own 4 (i + 1))), (5, .c (.val (.int i)))], [(4, .row 1 ((0 :: (T6.take i).map fun t => valM a ((brs t).map plc)).map eI) true)]⟩) (fun i => i ≤ 37) (fun i => 37 - i)
    (fun _ => ⟨[(4, .c (.own 4 38))], [(4, .row 1 ((raiM a).map eI) true)]⟩) (fun _ => True) 0 (Nat.zero_le _) ?_ ?_ ?_
  · (repeat' (first | with_reducible refine Qn | ((with_reducible refine Qr ?_ ?_); focus (first | with_reducible rfl | (simp only [Zz, Nat.reduceBEq, List.take_zero, List.map_nil, Int.natCast_zero, List.map_cons, eI]; done) | rfl)) | ((with_reducible refine Qj (o' := ?_) ?_ ?_ ?_); rotate_left 1; focus rfl) | ((with_reducible refine Qw ?_ ?_); (focus (first | with_reducible rfl | (simp only [Zv, List.take_zero, List.map_nil, Int.natCast_zero, List.map_cons, eI]; done))); focus (first | exact id | exact (fun h => nomatch h) | exact (fun _ => rfl)))))
  · intro i hi
    have hi : i ≤ 37 := hi
    have hw := w64_succ (n := i) (by omega)
    by_cases hi37 : i < 37
    · have i1 : ((i : Int) < 37) = True := eq_true (by omega)
      have i2 : ((0 : Int) ≤ (i : Int)) = True := eq_true (by omega)
      have hiT : i < T6.length := by rw [T6_len]; exact hi37
      have hat := raiM_at (a := a) hiT
      obtain ⟨t, ht⟩ : ∃ t, t = T6[i] := ⟨_, rfl⟩
      have htm : t ∈ T6 := by rw [ht]; exact List.getElem_mem _
      have hg : T[i]? = some [.sl 1 (t.map eI)] := by rw [hT, map_get hiT, ht]; rfl
      rw [← ht] at hat
      obtain ⟨R, hR⟩ : ∃ R, R = 0 :: (T6.take i).map fun t => valM a ((brs t).map plc) := ⟨_, rfl⟩
      have hRl : R.length = i + 1 := by rw [hR, List.length_cons, List.length_map, List.length_take]; omega
      have hRm : (R.map eI).length = i + 1 := by rw [List.length_map, hRl]
      rw [← hR] at hat ⊢
      obtain ⟨hct, hcl⟩ := T6_ok t htm
      obtain ⟨hlev, hcan⟩ := canT_lev hct
      obtain ⟨hb1, hb2⟩ := brs6 t htm
      have hbr := AFn.valT (a_l03Branches t hlev hcan (by omega))
      have hperm : valM a ((sortC cmpT (brs t)).map plc) = valM a ((brs t).map plc) := valM_perm a ((sortC_perm _).map _)
      rw [← hperm] at hat
      have hb1 : ∀ b ∈ sortC cmpT (brs t), canT b = true ∧ b.length ≤ 6 := fun b hb => hb1 b (sortC_mem.1 hb)
      have hb2 : (sortC cmpT (brs t)).length ≤ 6 := by rw [sortC_length]; exact hb2
      obtain ⟨B, hB⟩ : ∃ B, B = sortC cmpT (brs t) := ⟨_, rfl⟩
      rw [← hB] at hbr hb1 hb2 hat
      simp only [eL] at hbr
      have hBm : (B.map eL).length = B.length := List.length_map _
      repeat' (first | with_reducible (first | refine Q1 ?_ | refine Q2 ?_ | refine Q3 ?_ | refine Q4 ?_ | refine Q5 ?_ | refine Q6 ?_ | refine Q7 ?_ | refine Q8 ?_ | refine Q9 ?_ | refine Qa ?_ | refine Qb ?_ | refine Qc ?_ | refine Qd ?_ | refine Qe ?_ | refine Qf ?_) | ((with_reducible refine Qo ?_ ?_); focus rfl) | ((with_reducible first | refine QT 9 (l := ?_) ?_ ?_ | refine QF 9 (l := ?_) ?_ ?_); rotate_left 1; focus (simp only [Zu, Nat.reduceSub, Nat.reduceBEq]; with_reducible rfl)) | ((with_reducible first | refine QS (cfg_ok 45) (Tab.none.at' 96 hbr) (s' := ?_) ?_ ?_ | refine QC (b := ?_) ?_ ?_); rotate_left 1; focus ((with_reducible refine QW ?_); simp only [Zg, seval, if_true, if_false, reduceCtorEq, Nat.reduceEqDiff, i1, i2, hg, hTl, hBm, Int.toNat_natCast]; with_reducible rfl)))
      refine RunK.loop (β := Nat) (γ := Unit) (fun j => ⟨[(0, .c (.val (.sl 1 (a.map eI)))), (3, .c (.val (.sl 1 T))), (4, .c (.own 4 (i + 1))), (5, .c (.val (.int i))), (6, .c (.val (.int (valM a ((B.take j).map plc))))), (7, .c (.val (.sl 1 (B.map eL)))), (8, .c (.val (.int j)))], [(4, .row 1 (R.map eI) true)]⟩) (fun j => j ≤ B.length) (fun j => B.length - j)
        (fun _ => ⟨[(0, .c (.val (.sl 1 (a.map eI)))), (3, .c (.val (.sl 1 T))), (4, .c (.own 4 (i + 1))), (5, .c (.val (.int i))), (6, .c (.val (.int (valM a (B.map plc)))))], [(4, .row 1 (R.map eI) true)]⟩) (fun _ => True) 0 (Nat.zero_le _) ?_ ?_ ?_
      · (repeat' (first | with_reducible refine Qn | ((with_reducible refine Qr ?_ ?_); focus (first | with_reducible rfl | (simp only [Zz, Nat.reduceBEq, List.take_zero, List.map_nil, Int.natCast_zero, show valM a [] = 1 from rfl]; done) | rfl)) | ((with_reducible refine Qj (o' := ?_) ?_ ?_ ?_); rotate_left 1; focus rfl) | ((with_reducible refine Qw ?_ ?_); (focus (first | with_reducible rfl | (simp only [Zv, List.take_zero, List.map_nil, Int.natCast_zero, show valM a [] = 1 from rfl]; done))); focus (first | exact id | exact (fun h => nomatch h) | exact (fun _ => rfl)))))
      · intro j hj
        have hj : j ≤ B.length := hj
        have hwj := w64_succ (n := j) (by omega)
        by_cases hjB : j < B.length
        · have j1 : ((j : Int) < (B.length : Int)) = True := eq_true (by omega)
          have j2 : ((0 : Int) ≤ (j : Int)) = True := eq_true (by omega)
          obtain ⟨b, hb⟩ : ∃ b, b = B[j] := ⟨_, rfl⟩
          have hbg : (B.map eL)[j]? = some [.sl 1 (b.map eI)] := by rw [map_get hjB, hb]; rfl
          obtain ⟨b1, b2⟩ := hb1 B[j] (List.getElem_mem _)
          rw [← hb] at b1 b2
          have hfd := a_l03FindT b b1 b2
          simp only [eLL, eL] at hfd
          rw [← hT] at hfd
          have hst : valM a ((B.take (j + 1)).map plc) = mP (valM a ((B.take j).map plc) * a.getD (posT b + 1) 0) := by
            rw [List.take_succ_eq_append_getElem hjB, List.map_append, ← hb, List.map_cons, List.map_nil, valM_snoc]; rfl
          have hpb := plc_lt b1 b2
          have hwp := w64_succ (n := posT b) (by unfold plc at hpb; omega)
          have hpl : posT b + 1 < a.length := by unfold plc at hpb; omega
          have k1 : ((posT b + 1 : Nat) : Int) < 38 := by unfold plc at hpb; omega
          have k1 := eq_true k1
          have k2 : ((0 : Int) ≤ ((posT b + 1 : Nat) : Int)) = True := eq_true (by omega)
          have hal' : (a.map eI).length = 38 := by rw [List.length_map, hal]
          have hag : (a.map eI)[posT b + 1]? = some [.int (a.getD (posT b + 1) 0)] := by rw [map_get hpl, getD_at hpl]; rfl
          have hmb := mul_bdM (valM_bd a ((B.take j).map plc)) (hab (posT b + 1))
          have hmul := a_l01Mul (valM a ((B.take j).map plc)) (a.getD (posT b + 1) 0) (by omega)
          simp only [eI] at hmul
          repeat' (first | with_reducible (first | refine Q1 ?_ | refine Q2 ?_ | refine Q3 ?_ | refine Q4 ?_ | refine Q5 ?_ | refine Q6 ?_ | refine Q7 ?_ | refine Q8 ?_ | refine Q9 ?_ | refine Qa ?_ | refine Qb ?_ | refine Qc ?_ | refine Qd ?_ | refine Qe ?_ | refine Qf ?_) | ((with_reducible refine Qo ?_ ?_); focus rfl) | ((with_reducible first | refine QT 9 (l := ?_) ?_ ?_ | refine QF 9 (l := ?_) ?_ ?_); rotate_left 1; focus (simp only [Zu, Nat.reduceSub, Nat.reduceBEq]; with_reducible rfl)) | ((with_reducible first | refine QS (cfg_ok 45) ((Tab.none.at' 50 hfd).at' 51 hmul) (s' := ?_) ?_ ?_ | refine QC (b := ?_) ?_ ?_); rotate_left 1; focus ((with_reducible refine QW ?_); simp only [Zg, seval, if_true, if_false, reduceCtorEq, Nat.reduceEqDiff, j1, j2, hbg, hBm, hwp, hal', hag, k1, k2, hwj, Int.toNat_natCast]; with_reducible rfl)))
          refine roundK.on (j + 1) ⟨hjB, by omega⟩ ?_
          rw [hst]
          (repeat' (first | with_reducible refine Qn | ((with_reducible refine Qr ?_ ?_); focus (first | with_reducible rfl | (simp only [Zz, Nat.reduceBEq]; done) | rfl)) | ((with_reducible refine Qj (o' := ?_) ?_ ?_ ?_); rotate_left 1; focus rfl) | ((with_reducible refine Qw ?_ ?_); (focus (first | with_reducible rfl | (simp only [Zv]; done))); focus (first | exact id | exact (fun h => nomatch h) | exact (fun _ => rfl)))))
        · have j1 : ((j : Int) < (B.length : Int)) = False := eq_false (by omega)
          obtain rfl : j = B.length := by omega
          repeat' (first | with_reducible (first | refine Q1 ?_ | refine Q2 ?_ | refine Q3 ?_ | refine Q4 ?_ | refine Q5 ?_ | refine Q6 ?_ | refine Q7 ?_ | refine Q8 ?_ | refine Q9 ?_ | refine Qa ?_ | refine Qb ?_ | refine Qc ?_ | refine Qd ?_ | refine Qe ?_ | refine Qf ?_) | ((with_reducible refine Qo ?_ ?_); focus rfl) | ((with_reducible first | refine QT 9 (l := ?_) ?_ ?_ | refine QF 9 (l := ?_) ?_ ?_); rotate_left 1; focus (simp only [Zu, Nat.reduceSub, Nat.reduceBEq]; with_reducible rfl)) | ((with_reducible first | refine QS (cfg_ok 45) Tab.none (s' := ?_) ?_ ?_ | refine QC (b := ?_) ?_ ?_); rotate_left 1; focus ((with_reducible refine QW ?_); simp only [Zg, seval, if_true, if_false, reduceCtorEq, Nat.reduceEqDiff, j1, hBm]; with_reducible rfl)))
          refine roundK.out () trivial ?_
          rw [List.take_length]
          (repeat' (first | with_reducible refine Qn | ((with_reducible refine Qr ?_ ?_); focus (first | with_reducible rfl | (simp only [Zz, Nat.reduceBEq]; done) | rfl)) | ((with_reducible refine Qj (o' := ?_) ?_ ?_ ?_); rotate_left 1; focus rfl) | ((with_reducible refine Qw ?_ ?_); (focus (first | with_reducible rfl | (simp only [Zv]; done))); focus (first | exact id | exact (fun h => nomatch h) | exact (fun _ => rfl)))))
      · rintro _ _
        have q1 := big_le (n := i + 1 + 1) (by omega)
        have q2 := big_mul (n := i + 1 + 1) (c := 8) (by omega) (by omega)
        have q3 : (i ≤ 140737488355326) = True := eq_true (by omega)
        repeat' (first | with_reducible (first | refine Q1 ?_ | refine Q2 ?_ | refine Q3 ?_ | refine Q4 ?_ | refine Q5 ?_ | refine Q6 ?_ | refine Q7 ?_ | refine Q8 ?_ | refine Q9 ?_ | refine Qa ?_ | refine Qb ?_ | refine Qc ?_ | refine Qd ?_ | refine Qe ?_ | refine Qf ?_) | ((with_reducible refine Qo ?_ ?_); focus rfl) | ((with_reducible first | refine QT 9 (l := ?_) ?_ ?_ | refine QF 9 (l := ?_) ?_ ?_); rotate_left 1; focus (simp only [Zu, Nat.reduceSub, Nat.reduceBEq]; with_reducible rfl)) | ((with_reducible first | refine QS (cfg_ok 45) Tab.none (s' := ?_) ?_ ?_ | refine QC (b := ?_) ?_ ?_); rotate_left 1; focus ((with_reducible refine QW ?_); simp only [Zg, seval, if_true, if_false, reduceCtorEq, Nat.reduceEqDiff, hRm, q1, q2, q3, hw]; with_reducible rfl)))
        refine roundK.on (i + 1) ⟨by omega, by omega⟩ ?_
        rw [← hat, List.map_append]
        (repeat' (first | with_reducible refine Qn | ((with_reducible refine Qr ?_ ?_); focus (first | with_reducible rfl | (simp only [Zz, Nat.reduceBEq, List.map_cons, List.map_nil, eI]; done) | rfl)) | ((with_reducible refine Qj (o' := ?_) ?_ ?_ ?_); rotate_left 1; focus rfl) | ((with_reducible refine Qw ?_ ?_); (focus (first | with_reducible rfl | (simp only [Zv, List.map_cons, List.map_nil, eI]; done))); focus (first | exact id | exact (fun h => nomatch h) | exact (fun _ => rfl)))))
    · have i1 : ((i : Int) < 37) = False := eq_false (by omega)
      obtain rfl : i = 37 := by omega
      repeat' (first | with_reducible (first | refine Q1 ?_ | refine Q2 ?_ | refine Q3 ?_ | refine Q4 ?_ | refine Q5 ?_ | refine Q6 ?_ | refine Q7 ?_ | refine Q8 ?_ | refine Q9 ?_ | refine Qa ?_ | refine Qb ?_ | refine Qc ?_ | refine Qd ?_ | refine Qe ?_ | refine Qf ?_) | ((with_reducible refine Qo ?_ ?_); focus rfl) | ((with_reducible first | refine QT 9 (l := ?_) ?_ ?_ | refine QF 9 (l := ?_) ?_ ?_); rotate_left 1; focus (simp only [Zu, Nat.reduceSub, Nat.reduceBEq]; with_reducible rfl)) | ((with_reducible first | refine QS (cfg_ok 45) Tab.none (s' := ?_) ?_ ?_ | refine QC (b := ?_) ?_ ?_); rotate_left 1; focus ((with_reducible refine QW ?_); simp only [Zg, seval, if_true, if_false, reduceCtorEq, Nat.reduceEqDiff, i1, hTl]; with_reducible rfl)))
      refine roundK.out () trivial ?_
      rw [List.take_of_length_le (by rw [T6_len]; omega)]
      (repeat' (first | with_reducible refine Qn | ((with_reducible refine Qr ?_ ?_); focus (first | with_reducible rfl | (simp only [Zz, Nat.reduceBEq]; done) | rfl)) | ((with_reducible refine Qj (o' := ?_) ?_ ?_ ?_); rotate_left 1; focus rfl) | ((with_reducible refine Qw ?_ ?_); (focus (first | with_reducible rfl | (simp only [Zv]; done))); focus (first | exact id | exact (fun h => nomatch h) | exact (fun _ => rfl)))))
      all_goals exact ⟨rfl, rfl, id⟩
  · rintro _ _
    repeat' (first | with_reducible (first | refine Q1 ?_ | refine Q2 ?_ | refine Q3 ?_ | refine Q4 ?_ | refine Q5 ?_ | refine Q6 ?_ | refine Q7 ?_ | refine Q8 ?_ | refine Q9 ?_ | refine Qa ?_ | refine Qb ?_ | refine Qc ?_ | refine Qd ?_ | refine Qe ?_ | refine Qf ?_) | ((with_reducible refine Qo ?_ ?_); focus rfl) | ((with_reducible first | refine QT 9 (l := ?_) ?_ ?_ | refine QF 9 (l := ?_) ?_ ?_); rotate_left 1; focus (simp only [Zu, Nat.reduceSub, Nat.reduceBEq]; with_reducible rfl)) | ((with_reducible first | refine QS (cfg_ok 45) Tab.none (s' := ?_) ?_ ?_ | refine QC (b := ?_) ?_ ?_); rotate_left 1; focus ((with_reducible refine QW ?_); simp only [Zg, seval, if_true, if_false, reduceCtorEq, Nat.reduceEqDiff]; with_reducible rfl)))
    (refine Ends.mk (by simp) (rs := ?_) (ks := ?_) hres hrts ?_ ?_ ?_; rotate_left 2; (focus (simp only [Ze, Zg, seval, if_true, if_false, reduceCtorEq, Nat.reduceEqDiff]; with_reducible rfl)); (focus simp); focus (first | with_reducible rfl | (simp only [Zv]; done)))
theorem a_spec_RaiseMap (a : List Int) : AFn Tryz.prog 10 [eL a] (· = [.own 1 ((raiOf a).1.map eI) true, .val (.int (raiOf a).2)]) := by
  have hm := a_spec_l07Is a
  simp only [eL] at hm
  unfold raiOf
  refine AFn.of_runs (cfg_ok 9) Tryz.func10 rfl rfl rfl (by simp only [List.length_cons, List.length_nil]; decide) ?_
  have hres : Tryz.f10.results.toList = [.tmp 2, .tmp 3] := rfl
  have hrts : Tryz.f10.resultTypes.toList = [22, 2] := rfl
  simp only [argRegs, argAV1, eL, eI, eLL, eB, Nat.zero_add, Nat.reduceAdd]
  intro M
  refine RunK.of ?_
  by_cases h : isMap a = true
  · rw [h] at hm
    rw [if_pos h]
    have hr := a_l07Raise a h
    simp only [eL] at hr
    repeat' (first | with_reducible (first | refine Q1 ?_ | refine Q2 ?_ | refine Q3 ?_ | refine Q4 ?_ | refine Q5 ?_ | refine Q6 ?_ | refine Q7 ?_ | refine Q8 ?_ | refine Q9 ?_ | refine Qa ?_ | refine Qb ?_ | refine Qc ?_ | refine Qd ?_ | refine Qe ?_ | refine Qf ?_) | ((with_reducible refine Qo ?_ ?_); focus rfl) | ((with_reducible first | refine QT 4 (l := ?_) ?_ ?_ | refine QF 4 (l := ?_) ?_ ?_); rotate_left 1; focus (simp only [Zu, Nat.reduceSub, Nat.reduceBEq]; with_reducible rfl)) | ((with_reducible first | refine QS (cfg_ok 9) ((Tab.none.at' 42 hm).at' 43 hr) (s' := ?_) ?_ ?_ | refine QC (b := ?_) ?_ ?_); rotate_left 1; focus ((with_reducible refine QW ?_); simp only [Zg, seval, if_true, if_false, reduceCtorEq, Nat.reduceEqDiff]; with_reducible rfl)))
    (refine Ends.mk (by simp) (rs := ?_) (ks := ?_) hres hrts ?_ ?_ ?_; rotate_left 2; (focus (simp only [Ze, Zg, seval, if_true, if_false, reduceCtorEq, Nat.reduceEqDiff]; with_reducible rfl)); (focus simp); focus (first | with_reducible rfl | (simp only [Zv]; done)))
  · have h' : isMap a = false := by simpa using h
    rw [h'] at hm
    rw [if_neg h]
    repeat' (first | with_reducible (first | refine Q1 ?_ | refine Q2 ?_ | refine Q3 ?_ | refine Q4 ?_ | refine Q5 ?_ | refine Q6 ?_ | refine Q7 ?_ | refine Q8 ?_ | refine Q9 ?_ | refine Qa ?_ | refine Qb ?_ | refine Qc ?_ | refine Qd ?_ | refine Qe ?_ | refine Qf ?_) | ((with_reducible refine Qo ?_ ?_); focus rfl) | ((with_reducible first | refine QT 4 (l := ?_) ?_ ?_ | refine QF 4 (l := ?_) ?_ ?_); rotate_left 1; focus (simp only [Zu, Nat.reduceSub, Nat.reduceBEq]; with_reducible rfl)) | ((with_reducible first | refine QS (cfg_ok 9) (Tab.none.at' 42 hm) (s' := ?_) ?_ ?_ | refine QC (b := ?_) ?_ ?_); rotate_left 1; focus ((with_reducible refine QW ?_); simp only [Zg, seval, if_true, if_false, reduceCtorEq, Nat.reduceEqDiff]; with_reducible rfl)))
    (refine Ends.mk (by simp) (rs := ?_) (ks := ?_) hres hrts ?_ ?_ ?_; rotate_left 2; (focus (simp only [Ze, Zg, seval, if_true, if_false, reduceCtorEq, Nat.reduceEqDiff]; with_reducible rfl)); (focus simp); focus (first | with_reducible rfl | (simp only [Zv]; done)))
theorem k_spec_RaiseMap (v : Value) (a : List Int) (w : World) (h : Rd (RS RI) w [v] a) : Calls Tryz.prog 10 #[v] w (RetGI (RS RI) w (raiOf a).1 (raiOf a).2) :=
  AFn.gi encI (.inl rfl) (a_spec_RaiseMap a) (args1 (arg_L h))
end Go.Proofs.YtfhmonacgmakbaaGreat
namespace Go.Proofs.YtfhmonacgmakbaaGreat
open Go.RowKit
set_option maxHeartbeats 1000000 in
theorem walk_FnExactRaiseMap (v0 : Value) (x0 : List Int) (w : World) (h0 : Rd (RS RI) w [v0] x0) : Calls Tryz.prog 3 #[v0] w (RetV w (.bool true)) := by
  obtain ⟨a0, c0, hv0, hl0, hm0⟩ := h0.val
  unfold maxLen at hm0
  by_cases z0 : x0.length ≤ 1048576
  rotate_left
  · subst hv0
    go_enter Tryz.func3, Tryz.ntmps3
    go_wp2_with fail
    go_ret
    exact ⟨rfl, Below.refl _ _⟩
  subst hv0
  go_enter Tryz.func3, Tryz.ntmps3
  go_wp2_with fail
  refine (to_I _ x0 _ h0 z0).mono ?_
  rintro e w1 ⟨u1, rfl, o1, B1⟩
  have s1 := B1.size
  have BB := B1.mono (B' := w.heap.size) (by omega)
  go_wp2_with fail
  refine (k_spec_RaiseMap _ x0 _ o1.rd).mono ?_
  rintro e w2 ⟨u2, rfl, o2, B2⟩
  have s2 := B2.size
  replace o1 := o1.below B2 (by omega)
  replace BB := BB.trans (B2.mono (B' := w.heap.size) (by omega))
  go_wp2_with fail
  refine (to_I _ x0 _ (h0.below BB (Nat.le_refl _)) z0).mono ?_
  rintro e w3 ⟨u3, rfl, o3, B3⟩
  have s3 := B3.size
  replace o1 := o1.below B3 (by omega)
  replace o2 := o2.below B3 (by omega)
  replace BB := BB.trans (B3.mono (B' := w.heap.size) (by omega))
  go_wp2_with fail
  refine (k_impl_RaiseMap _ x0 _ o3.rd).mono ?_
  rintro e w4 ⟨u4, rfl, o4, B4⟩
  have s4 := B4.size
  replace o1 := o1.below B4 (by omega)
  replace o2 := o2.below B4 (by omega)
  replace o3 := o3.below B4 (by omega)
  replace BB := BB.trans (B4.mono (B' := w.heap.size) (by omega))
  go_wp2_with fail
  refine (eqv_I _ _ (raiOf x0).1 _ o4.rd o2.rd).mono ?_
  rintro e w5 ⟨rfl, B5⟩
  have s5 := B5.size
  replace o1 := o1.below B5 (by omega)
  replace o2 := o2.below B5 (by omega)
  replace o3 := o3.below B5 (by omega)
  replace o4 := o4.below B5 (by omega)
  replace BB := BB.trans (B5.mono (B' := w.heap.size) (by omega))
  go_wp2_with fail
  refine (to_I _ x0 _ (h0.below BB (Nat.le_refl _)) z0).mono ?_
  rintro e w6 ⟨u6, rfl, o6, B6⟩
  have s6 := B6.size
  replace o1 := o1.below B6 (by omega)
  replace o2 := o2.below B6 (by omega)
  replace o3 := o3.below B6 (by omega)
  replace o4 := o4.below B6 (by omega)
  replace BB := BB.trans (B6.mono (B' := w.heap.size) (by omega))
  go_wp2_with fail
  refine (eqv_I _ _ x0 _ o3.rd o6.rd).mono ?_
  rintro e w7 ⟨rfl, B7⟩
  have s7 := B7.size
  replace o1 := o1.below B7 (by omega)
  replace o2 := o2.below B7 (by omega)
  replace o3 := o3.below B7 (by omega)
  replace o4 := o4.below B7 (by omega)
  replace o6 := o6.below B7 (by omega)
  replace BB := BB.trans (B7.mono (B' := w.heap.size) (by omega))
  go_wp2_with fail
  have p8 := cntb_I x0 z0
  refine (mark_I _ x0 _ _ 1 _ o3 (by omega) (by omega)).mono ?_
  rintro e w8 ⟨rfl, o3n, B8⟩
  have s8 := B8.size
  replace o1 := o1.apart B8 (by omega)
  replace o2 := o2.apart B8 (by omega)
  replace o4 := o4.apart B8 (by omega)
  replace o6 := o6.apart B8 (by omega)
  replace o3 := o3n
  clear o3n
  replace BB := BB.trans (B8.below (B := w.heap.size) (by omega) (by omega))
  go_wp2_with fail
  refine (eqv_I _ _ (raiOf x0).1 _ o4.rd o2.rd).mono ?_
  rintro e w9 ⟨rfl, B9⟩
  have s9 := B9.size
  replace o1 := o1.below B9 (by omega)
  replace o2 := o2.below B9 (by omega)
  replace o3 := o3.below B9 (by omega)
  replace o4 := o4.below B9 (by omega)
  replace o6 := o6.below B9 (by omega)
  replace BB := BB.trans (B9.mono (B' := w.heap.size) (by omega))
  go_wp2_with fail
  have p10 := raiOf_cnt x0
  refine (mark_I _ (raiOf x0).1 _ _ 1 _ o4 (by omega) (by omega)).mono ?_
  rintro e w10 ⟨rfl, o4n, B10⟩
  have s10 := B10.size
  replace o1 := o1.apart B10 (by omega)
  replace o2 := o2.apart B10 (by omega)
  replace o3 := o3.apart B10 (by omega)
  replace o6 := o6.apart B10 (by omega)
  replace o4 := o4n
  clear o4n
  replace BB := BB.trans (B10.below (B := w.heap.size) (by omega) (by omega))
  go_wp2_with fail
  refine (held_I _ (raiOf x0).1 1 _ o4.rd (by omega) (by omega)).mono ?_
  rintro e w11 ⟨rfl, rfl⟩
  go_wp2_with fail
  refine (to_I _ x0 _ (h0.below BB (Nat.le_refl _)) z0).mono ?_
  rintro e w12 ⟨u12, rfl, o12, B12⟩
  have s12 := B12.size
  replace o1 := o1.below B12 (by omega)
  replace o2 := o2.below B12 (by omega)
  replace o3 := o3.below B12 (by omega)
  replace o4 := o4.below B12 (by omega)
  replace o6 := o6.below B12 (by omega)
  replace BB := BB.trans (B12.mono (B' := w.heap.size) (by omega))
  go_wp2_with fail
  refine (k_impl_RaiseMap _ x0 _ o12.rd).mono ?_
  rintro e w13 ⟨u13, rfl, o13, B13⟩
  have s13 := B13.size
  replace o1 := o1.below B13 (by omega)
  replace o2 := o2.below B13 (by omega)
  replace o3 := o3.below B13 (by omega)
  replace o4 := o4.below B13 (by omega)
  replace o6 := o6.below B13 (by omega)
  replace o12 := o12.below B13 (by omega)
  replace BB := BB.trans (B13.mono (B' := w.heap.size) (by omega))
  go_wp2_with fail
  refine (eqv_I _ _ (raiOf x0).1 _ o13.rd o2.rd).mono ?_
  rintro e w14 ⟨rfl, B14⟩
  have s14 := B14.size
  replace o1 := o1.below B14 (by omega)
  replace o2 := o2.below B14 (by omega)
  replace o3 := o3.below B14 (by omega)
  replace o4 := o4.below B14 (by omega)
  replace o6 := o6.below B14 (by omega)
  replace o12 := o12.below B14 (by omega)
  replace o13 := o13.below B14 (by omega)
  replace BB := BB.trans (B14.mono (B' := w.heap.size) (by omega))
  go_wp2_with fail
  refine (held_I _ (raiOf x0).1 1 _ o4.rd (by omega) (by omega)).mono ?_
  rintro e w15 ⟨rfl, rfl⟩
  go_wp2_with fail
  go_ret
  exact ⟨rfl, BB⟩
end Go.Proofs.YtfhmonacgmakbaaGreat
