/- Lemmas (14). -/
import Derived.Lib.AppendZeros
import Derived.Test.YtacbkjmkjpjhoaaGreatZA3
import Derived.Test.YtacbkjmkjpjhoaaGreatZA6
import Derived.Test.YtacbkjmkjpjhoaaGreatZA8
import Derived.Test.YtacbkjmkjpjhoaaGreatZA13
set_option linter.unusedSimpArgs false
set_option linter.unusedVariables false
namespace Go.Proofs.YtacbkjmkjpjhoaaGreat
open Go.RowKit
set_option maxHeartbeats 1000000 in
theorem walk_FnExactRootElement (v0 : Value) (x0 : List (Int × List (List Int))) (w : World) (h0 : Rd (RS RPart) w [v0] x0) : Calls Tryz.prog 4 #[v0] w (RetV w (.bool true)) := by
  go_enter Tryz.func4, Tryz.ntmps4
  go_wp2_with fail
  refine (sz_P _ x0 1048576 _ h0 (by omega) (by omega)).mono ?_
  rintro e w1 ⟨r1, rfl, hr1, B1⟩
  have s1 := B1.size
  have BB := B1.mono (B' := w.heap.size) (by omega)
  rcases hr1 with ⟨n1, z0⟩ | ⟨n1, n1b, z0⟩
  · go_wp2_with fail
    go_ret
    exact ⟨rfl, BB⟩
  go_wp2_with fail
  refine (to_P _ x0 _ (h0.below BB (Nat.le_refl _)) z0).mono ?_
  rintro e w2 ⟨u2, rfl, o2, B2⟩
  have s2 := B2.size
  replace BB := BB.trans (B2.mono (B' := w.heap.size) (by omega))
  go_wp2_with fail
  refine (k_spec_RootElement _ x0 _ o2.rd z0).mono ?_
  rintro e w3 ⟨u3, rfl, o3, B3⟩
  have s3 := B3.size
  replace o2 := o2.below B3 (by omega)
  replace BB := BB.trans (B3.mono (B' := w.heap.size) (by omega))
  go_wp2_with fail
  refine (to_P _ x0 _ (h0.below BB (Nat.le_refl _)) z0).mono ?_
  rintro e w4 ⟨u4, rfl, o4, B4⟩
  have s4 := B4.size
  replace o2 := o2.below B4 (by omega)
  replace o3 := o3.below B4 (by omega)
  replace BB := BB.trans (B4.mono (B' := w.heap.size) (by omega))
  go_wp2_with fail
  refine (k_impl_RootElement _ x0 _ o4.rd z0).mono ?_
  rintro e w5 ⟨u5, rfl, o5, B5⟩
  have s5 := B5.size
  replace o2 := o2.below B5 (by omega)
  replace o3 := o3.below B5 (by omega)
  replace o4 := o4.below B5 (by omega)
  replace BB := BB.trans (B5.mono (B' := w.heap.size) (by omega))
  go_wp2_with fail
  refine (eqv_P _ _ (rotOf x0).1 _ o5.rd o3.rd).mono ?_
  rintro e w6 ⟨rfl, B6⟩
  have s6 := B6.size
  replace o2 := o2.below B6 (by omega)
  replace o3 := o3.below B6 (by omega)
  replace o4 := o4.below B6 (by omega)
  replace o5 := o5.below B6 (by omega)
  replace BB := BB.trans (B6.mono (B' := w.heap.size) (by omega))
  go_wp2_with fail
  refine (to_P _ x0 _ (h0.below BB (Nat.le_refl _)) z0).mono ?_
  rintro e w7 ⟨u7, rfl, o7, B7⟩
  have s7 := B7.size
  replace o2 := o2.below B7 (by omega)
  replace o3 := o3.below B7 (by omega)
  replace o4 := o4.below B7 (by omega)
  replace o5 := o5.below B7 (by omega)
  replace BB := BB.trans (B7.mono (B' := w.heap.size) (by omega))
  go_wp2_with fail
  refine (eqv_P _ _ x0 _ o4.rd o7.rd).mono ?_
  rintro e w8 ⟨rfl, B8⟩
  have s8 := B8.size
  replace o2 := o2.below B8 (by omega)
  replace o3 := o3.below B8 (by omega)
  replace o4 := o4.below B8 (by omega)
  replace o5 := o5.below B8 (by omega)
  replace o7 := o7.below B8 (by omega)
  replace BB := BB.trans (B8.mono (B' := w.heap.size) (by omega))
  go_wp2_with fail
  have p9 := cntb_P x0 z0
  refine (mark_P _ x0 _ _ 1 _ o4 (by omega) (by omega)).mono ?_
  rintro e w9 ⟨rfl, o4n, B9⟩
  have s9 := B9.size
  replace o2 := o2.apart B9 (by omega)
  replace o3 := o3.apart B9 (by omega)
  replace o5 := o5.apart B9 (by omega)
  replace o7 := o7.apart B9 (by omega)
  replace o4 := o4n
  clear o4n
  replace BB := BB.trans (B9.below (B := w.heap.size) (by omega) (by omega))
  go_wp2_with fail
  refine (eqv_P _ _ (rotOf x0).1 _ o5.rd o3.rd).mono ?_
  rintro e w10 ⟨rfl, B10⟩
  have s10 := B10.size
  replace o2 := o2.below B10 (by omega)
  replace o3 := o3.below B10 (by omega)
  replace o4 := o4.below B10 (by omega)
  replace o5 := o5.below B10 (by omega)
  replace o7 := o7.below B10 (by omega)
  replace BB := BB.trans (B10.mono (B' := w.heap.size) (by omega))
  go_wp2_with fail
  have p11 := rotOf_cnt x0
  refine (mark_P _ (rotOf x0).1 _ _ 1 _ o5 (by omega) (by omega)).mono ?_
  rintro e w11 ⟨rfl, o5n, B11⟩
  have s11 := B11.size
  replace o2 := o2.apart B11 (by omega)
  replace o3 := o3.apart B11 (by omega)
  replace o4 := o4.apart B11 (by omega)
  replace o7 := o7.apart B11 (by omega)
  replace o5 := o5n
  clear o5n
  replace BB := BB.trans (B11.below (B := w.heap.size) (by omega) (by omega))
  go_wp2_with fail
  refine (held_P _ (rotOf x0).1 1 _ o5.rd (by omega) (by omega)).mono ?_
  rintro e w12 ⟨rfl, rfl⟩
  go_wp2_with fail
  refine (to_P _ x0 _ (h0.below BB (Nat.le_refl _)) z0).mono ?_
  rintro e w13 ⟨u13, rfl, o13, B13⟩
  have s13 := B13.size
  replace o2 := o2.below B13 (by omega)
  replace o3 := o3.below B13 (by omega)
  replace o4 := o4.below B13 (by omega)
  replace o5 := o5.below B13 (by omega)
  replace o7 := o7.below B13 (by omega)
  replace BB := BB.trans (B13.mono (B' := w.heap.size) (by omega))
  go_wp2_with fail
  refine (k_impl_RootElement _ x0 _ o13.rd z0).mono ?_
  rintro e w14 ⟨u14, rfl, o14, B14⟩
  have s14 := B14.size
  replace o2 := o2.below B14 (by omega)
  replace o3 := o3.below B14 (by omega)
  replace o4 := o4.below B14 (by omega)
  replace o5 := o5.below B14 (by omega)
  replace o7 := o7.below B14 (by omega)
  replace o13 := o13.below B14 (by omega)
  replace BB := BB.trans (B14.mono (B' := w.heap.size) (by omega))
  go_wp2_with fail
  refine (eqv_P _ _ (rotOf x0).1 _ o14.rd o3.rd).mono ?_
  rintro e w15 ⟨rfl, B15⟩
  have s15 := B15.size
  replace o2 := o2.below B15 (by omega)
  replace o3 := o3.below B15 (by omega)
  replace o4 := o4.below B15 (by omega)
  replace o5 := o5.below B15 (by omega)
  replace o7 := o7.below B15 (by omega)
  replace o13 := o13.below B15 (by omega)
  replace o14 := o14.below B15 (by omega)
  replace BB := BB.trans (B15.mono (B' := w.heap.size) (by omega))
  go_wp2_with fail
  refine (held_P _ (rotOf x0).1 1 _ o5.rd (by omega) (by omega)).mono ?_
  rintro e w16 ⟨rfl, rfl⟩
  go_wp2_with fail
  go_ret
  exact ⟨rfl, BB⟩
end Go.Proofs.YtacbkjmkjpjhoaaGreat
namespace Go.Proofs.YtacbkjmkjpjhoaaGreat
open Go.RowKit
theorem addS_app (d M N : Elt) : addS cmpF d (M ++ N) = addS cmpF (addS cmpF d M) N := by unfold addS; rw [List.foldl_append]
theorem mulE_one {e : Elt} (h : OkE e) : mulE 1 e = e := by
  unfold mulE
  conv => rhs; rw [← List.map_id e]
  refine List.map_congr_left fun p hp => ?_
  have := (h p hp).1
  rw [Int.one_mul, mP_small (by omega) this.2]; rfl
theorem addS_two {d e : Elt} (hd : NfS cmpF d) : addS cmpF d e = sumS cmpF (d ++ e) := by
  have h := sumS_self (c := cmpF) cmpF_cmp hd
  unfold sumS at h ⊢
  rw [addS_app, h]
theorem appE_ok {d e : Elt} (hd : OkE d) (he : OkE e) : ∀ q ∈ d ++ e, (0 ≤ q.1 ∧ q.1 < 10007) ∧ SmF q.2 := fun q hq => by
  rcases List.mem_append.1 hq with h | h
  · exact ⟨⟨by have := (hd q h).1; omega, (hd q h).1.2⟩, (hd q h).2⟩
  · exact ⟨⟨by have := (he q h).1; omega, (he q h).1.2⟩, (he q h).2⟩
theorem addOf_cnt (d e : Elt) : cnt_P (addOf d e).1 ≤ 1048576 := by
  unfold addOf
  split
  · rename_i h
    rw [Bool.and_eq_true] at h
    exact limS_cnt (appE_ok (elB_okE h.1).1 (elB_okE h.2).1)
  · simp [cnt_P]
set_option maxRecDepth 100000 in
set_option maxHeartbeats 400000 in
theorem c_slicesGrowP (n : Nat) (w : World) (hn : n ≤ 1000000000) : Calls Tryz.prog 117 #[.slice none 0 0, .int .i64 n] w (RetO (RS RPart) w []) := by
  by_cases h0 : n = 0
  · subst h0
    go_enter Tryz.func117, Tryz.ntmps117
    go_wp2_with fail
    go_ret
    exact ⟨_, rfl, Own.nil _ _, Below.refl _ _⟩
  · obtain ⟨ht, ⟨i, hi, hz, hsz, hby⟩, _, _⟩ := tPartI
    have hr := Lib.run_append_nil_zeros (P := Tryz.prog) w 24 3 24 54 i (.agg #[.int .i64 0, .slice none 0 0]) .i64 .i64 ht Tryz.underlying3 hi hz n (by omega) (by omega) (by omega) (by rw [hby]; omega)
    have hge := grownCap_ge w n 0 54
    have hcm : grownCap w n 0 54 ≤ maxLen := grownCap_le_maxLen w n 0 54 (by unfold maxLen; omega)
    obtain ⟨cp, hcp⟩ : ∃ cp, cp = grownCap w n 0 54 := ⟨_, rfl⟩
    rw [← hcp] at hr hge hcm
    obtain ⟨cur, hcur⟩ : ∃ cur, cur = Builtin.zeroCells (Value.agg #[.int .i64 0, .slice none 0 0]).cells n ++ Builtin.zeroCells (Value.agg #[.int .i64 0, .slice none 0 0]).cells (cp - n) := ⟨_, rfl⟩
    have hcs : cur.size = cp * 2 := by
      rw [hcur, Array.size_append, size_zeroCells, size_zeroCells]
      show n * 2 + (cp - n) * 2 = cp * 2
      omega
    rw [← hcur] at hr
    have hrow : Row (w.drew.alloc (.cells cur 54)) (.slice (some ⟨w.heap.size, 0, none⟩) 0 cp) 2 0 [] (some w.heap.size) :=
      ⟨rfl, .inr ⟨w.heap.size, cp, cur, 54, rfl, rfl, Go.heap_alloc_new w.drew _, Nat.zero_le _, hcm, hcs, by simp⟩⟩
    have hown : Own (RS RPart) w.heap.size (w.drew.alloc (.cells cur 54)).heap.size (w.drew.alloc (.cells cur 54)) [.slice (some ⟨w.heap.size, 0, none⟩) 0 cp] [] :=
      Own.mk' (og := some w.heap.size) (F := []) (ds := []) hrow ⟨rfl, rfl⟩ (by simp) (fun b hb => by simp at hb; subst hb; simp)
    have hbel : Below w.heap.size w (w.drew.alloc (.cells cur 54)) := ⟨rfl, rfl, rfl, by simp, fun k hk => Below.heap_alloc w.drew _ k hk⟩
    have HR := Lib.hid hr
    have HO := Lib.hid hown
    have hp : (0 : Int) < (n : Int) := by omega
    have hp2 : ¬ ((n : Int) < 0) := by omega
    unfold maxLen at hcm
    clear hr hown hrow hcp hcur hi hz hsz hby ht hcs
    go_enter Tryz.func117, Tryz.ntmps117
    go_wp2_with (at_builtin; refine StopAt (o := ⟨some 22, _, _, _, _, _⟩) ?_)
    refine Stop.go ?_
    refine Lib.wpList_append_run w rfl _ _ _ _ rfl _ _ rfl rfl _ _ HR.out ?_
    go_wp2_with fail
    go_ret
    exact ⟨_, rfl, HO.out, hbel⟩
theorem a_slicesGrowP (n : Nat) (hn : n ≤ 1000000000) : AFn Tryz.prog 117 [[.raw (.slice none 0 0)], eI n] (· = [.own 2 [] true]) :=
  AFn.of_o (xs := []) encPt (enters_of Tryz.func117 rfl rfl) (fun w A vs ⟨v1, _, e1, h1, v2, _, e2, h2, e3⟩ => by
    subst e3; subst e2; subst e1
    rw [arg_int h2, (rdV_raw.1 h1).1]
    exact c_slicesGrowP n w hn)
def ePP (x : Elt) : List D := [.sl 2 (x.map ePt)]
theorem flat_take_succ (bs : List Elt) (k : Nat) (h : k < bs.length) : (bs.take (k + 1)).flatten = (bs.take k).flatten ++ bs[k] := by
  rw [List.take_succ_eq_append_getElem h, List.flatten_append]; simp
theorem flat_take_len (bs : List Elt) (k : Nat) : (bs.take k).flatten.length ≤ bs.flatten.length := by
  conv => rhs; rw [← List.take_append_drop k bs]
  rw [List.flatten_append, List.length_append]
  omega
set_option maxHeartbeats 4000000 in
theorem a_slicesConcatP (bs : List Elt) (hsz : bs.flatten.length ≤ 1000000) (hl : bs.length ≤ 1000000) : AFn Tryz.prog 64 [[.sl 1 (bs.map ePP)]] (· = [.own 2 (bs.flatten.map ePt) false]) := by
  refine AFn.of_runs (cfg_ok 36) Tryz.func64 rfl rfl rfl (by simp only [List.length_cons, List.length_nil]; decide) ?_
  have hres : Tryz.f64.results.toList = [.tmp 2] := rfl
  have hrts : Tryz.f64.resultTypes.toList = [24] := rfl
  simp only [argRegs, argAV1, eL, eI, eLL, eB, Nat.zero_add, Nat.reduceAdd]
  intro M
  refine RunK.of ?_
  repeat' (first | with_reducible (first | refine Q1 ?_ | refine Q2 ?_ | refine Q3 ?_ | refine Q4 ?_ | refine Q5 ?_ | refine Q6 ?_ | refine Q7 ?_ | refine Q8 ?_ | refine Q9 ?_ | refine Qa ?_ | refine Qb ?_ | refine Qc ?_ | refine Qd ?_ | refine Qe ?_ | refine Qf ?_) | ((with_reducible refine Qo ?_ ?_); focus rfl) | ((with_reducible first | refine QT 28 (l := ?_) ?_ ?_ | refine QF 28 (l := ?_) ?_ ?_); rotate_left 1; focus (simp only [Zu, Nat.reduceSub, Nat.reduceBEq]; with_reducible rfl)) | ((with_reducible first | refine QS (cfg_ok 36) Tab.none (s' := ?_) ?_ ?_ | refine QC (b := ?_) ?_ ?_); rotate_left 1; focus ((with_reducible refine QW ?_); simp only [Zg, seval, if_true, if_false, reduceCtorEq, Nat.reduceEqDiff, List.length_map]; with_reducible rfl)))
  refine RunK.loop (β := Nat) (γ := Unit) (fun i => ⟨[(0, .c (.val (.sl 1 (bs.map ePP)))), (3, .c (.val (.int ((bs.take i).flatten.length : Nat)))), (9, .c (.val (.sl 1 (bs.map ePP)))), (10, .c (.val (.int bs.length))), (11, .c (.val (.int i)))], []⟩) (fun i => i ≤ bs.length) (fun i => bs.length - i)
    (fun _ => ⟨[(0, .c (.val (.sl 1 (bs.map ePP)))), (3, .c (.val (.int (bs.flatten.length : Nat))))], []⟩) (fun _ => True) 0 (Nat.zero_le _) ?_ ?_ ?_
  · (repeat' (first | with_reducible refine Qn | ((with_reducible refine Qr ?_ ?_); focus (first | with_reducible rfl | (simp only [Zz, Nat.reduceBEq, List.take_zero, List.flatten_nil, List.length_map]; done) | rfl)) | ((with_reducible refine Qj (o' := ?_) ?_ ?_ ?_); rotate_left 1; focus rfl) | ((with_reducible refine Qw ?_ ?_); (focus (first | with_reducible rfl | (simp only [Zv, List.take_zero, List.flatten_nil, List.length_map]; done))); focus (first | exact id | exact (fun h => nomatch h) | exact (fun _ => rfl)))))
  · intro i hi
    have hi : i ≤ bs.length := hi
    have hw := w64_succ (n := i) (by omega)
    by_cases h : i < bs.length
    · have i1 : ((i : Int) < (bs.length : Int)) = True := eq_true (by omega)
      have i2 : ((0 : Int) ≤ (i : Int)) = True := eq_true (by omega)
      obtain ⟨f, hf⟩ : ∃ f, f = bs[i] := ⟨_, rfl⟩
      have hg : (bs.map ePP)[i]? = some [.sl 2 (f.map ePt)] := by rw [map_get h, hf]; rfl
      have hst := congrArg List.length (flat_take_succ bs i h)
      have hle := flat_take_len bs (i + 1)
      rw [← hf, List.length_append] at hst
      obtain ⟨A, hA⟩ : ∃ A, A = (bs.take i).flatten.length := ⟨_, rfl⟩
      obtain ⟨B, hB⟩ : ∃ B, B = (bs.take (i + 1)).flatten.length := ⟨_, rfl⟩
      rw [← hA, ← hB] at hst
      rw [← hB] at hle
      have hws : w64 ((A : Int) + (f.length : Int)) = ((B : Nat) : Int) := by rw [w64_eq (by omega)]; omega
      have j1 : (((B : Nat) : Int) < 0) = False := eq_false (by omega)
      rw [← hA]
      repeat' (first | with_reducible (first | refine Q1 ?_ | refine Q2 ?_ | refine Q3 ?_ | refine Q4 ?_ | refine Q5 ?_ | refine Q6 ?_ | refine Q7 ?_ | refine Q8 ?_ | refine Q9 ?_ | refine Qa ?_ | refine Qb ?_ | refine Qc ?_ | refine Qd ?_ | refine Qe ?_ | refine Qf ?_) | ((with_reducible refine Qo ?_ ?_); focus rfl) | ((with_reducible first | refine QT 28 (l := ?_) ?_ ?_ | refine QF 28 (l := ?_) ?_ ?_); rotate_left 1; focus (simp only [Zu, Nat.reduceSub, Nat.reduceBEq]; with_reducible rfl)) | ((with_reducible first | refine QS (cfg_ok 36) Tab.none (s' := ?_) ?_ ?_ | refine QC (b := ?_) ?_ ?_); rotate_left 1; focus ((with_reducible refine QW ?_); simp only [Zg, seval, if_true, if_false, reduceCtorEq, Nat.reduceEqDiff, i1, i2, hg, hw, hws, j1, Int.toNat_natCast, List.length_map]; with_reducible rfl)))
      refine roundK.on (i + 1) ⟨h, by omega⟩ ?_
      rw [← hB]
      (repeat' (first | with_reducible refine Qn | ((with_reducible refine Qr ?_ ?_); focus (first | with_reducible rfl | (simp only [Zz, Nat.reduceBEq]; done) | rfl)) | ((with_reducible refine Qj (o' := ?_) ?_ ?_ ?_); rotate_left 1; focus rfl) | ((with_reducible refine Qw ?_ ?_); (focus (first | with_reducible rfl | (simp only [Zv]; done))); focus (first | exact id | exact (fun h => nomatch h) | exact (fun _ => rfl)))))
    · have i1 : ((i : Int) < (bs.length : Int)) = False := eq_false (by omega)
      obtain rfl : i = bs.length := by omega
      rw [List.take_length]
      repeat' (first | with_reducible (first | refine Q1 ?_ | refine Q2 ?_ | refine Q3 ?_ | refine Q4 ?_ | refine Q5 ?_ | refine Q6 ?_ | refine Q7 ?_ | refine Q8 ?_ | refine Q9 ?_ | refine Qa ?_ | refine Qb ?_ | refine Qc ?_ | refine Qd ?_ | refine Qe ?_ | refine Qf ?_) | ((with_reducible refine Qo ?_ ?_); focus rfl) | ((with_reducible first | refine QT 28 (l := ?_) ?_ ?_ | refine QF 28 (l := ?_) ?_ ?_); rotate_left 1; focus (simp only [Zu, Nat.reduceSub, Nat.reduceBEq]; with_reducible rfl)) | ((with_reducible first | refine QS (cfg_ok 36) Tab.none (s' := ?_) ?_ ?_ | refine QC (b := ?_) ?_ ?_); rotate_left 1; focus ((with_reducible refine QW ?_); simp only [Zg, seval, if_true, if_false, reduceCtorEq, Nat.reduceEqDiff, i1]; with_reducible rfl)))
      refine roundK.out () trivial ?_
      (repeat' (first | with_reducible refine Qn | ((with_reducible refine Qr ?_ ?_); focus (first | with_reducible rfl | (simp only [Zz, Nat.reduceBEq]; done) | rfl)) | ((with_reducible refine Qj (o' := ?_) ?_ ?_ ?_); rotate_left 1; focus rfl) | ((with_reducible refine Qw ?_ ?_); (focus (first | with_reducible rfl | (simp only [Zv]; done))); focus (first | exact id | exact (fun h => nomatch h) | exact (fun _ => rfl)))))
  · rintro _ _
    have hgr := a_slicesGrowP bs.flatten.length (by omega)
    repeat' (first | with_reducible (first | refine Q1 ?_ | refine Q2 ?_ | refine Q3 ?_ | refine Q4 ?_ | refine Q5 ?_ | refine Q6 ?_ | refine Q7 ?_ | refine Q8 ?_ | refine Q9 ?_ | refine Qa ?_ | refine Qb ?_ | refine Qc ?_ | refine Qd ?_ | refine Qe ?_ | refine Qf ?_) | ((with_reducible refine Qo ?_ ?_); focus rfl) | ((with_reducible first | refine QT 28 (l := ?_) ?_ ?_ | refine QF 28 (l := ?_) ?_ ?_); rotate_left 1; focus (simp only [Zu, Nat.reduceSub, Nat.reduceBEq]; with_reducible rfl)) | ((with_reducible first | refine QS (cfg_ok 36) Tab.none (s' := ?_) ?_ ?_ | refine QC (b := ?_) ?_ ?_); rotate_left 1; focus ((with_reducible refine QW ?_); simp only [Zg, seval, if_true, if_false, reduceCtorEq, Nat.reduceEqDiff, List.length_map]; with_reducible rfl)))
    refine RunK.regCut (cfg_ok 36) Tab.none 1 (s1 := ?_) ?_ ?_
    rotate_left 1
    focus (refine Work.mk ?_; simp only [Zg, seval, if_true, if_false, reduceCtorEq, Nat.reduceEqDiff]; with_reducible rfl)
    simp only [List.toList_toArray, List.drop_succ_cons, List.drop_zero]
    refine ROps.callNilP (cfg_ok 36) (d := 24) (g := 117) (xs := []) (tx := []) (pre := []) (ys := [.tmp 23]) (ty := [3]) (post := [eI (bs.flatten.length : Nat)]) rfl (by decide) rfl rfl rfl rfl rfl rfl rfl rfl hgr rfl ?_
    refine ROps.opsT (cfg_ok 36) (T := Tab.none) (s' := ?_) ?_ ?_
    rotate_left 1
    focus (simp only [Zg, seval, if_true, if_false, reduceCtorEq, Nat.reduceEqDiff]; with_reducible rfl)
    repeat' (first | with_reducible (first | refine Q1 ?_ | refine Q2 ?_ | refine Q3 ?_ | refine Q4 ?_ | refine Q5 ?_ | refine Q6 ?_ | refine Q7 ?_ | refine Q8 ?_ | refine Q9 ?_ | refine Qa ?_ | refine Qb ?_ | refine Qc ?_ | refine Qd ?_ | refine Qe ?_ | refine Qf ?_) | ((with_reducible refine Qo ?_ ?_); focus rfl) | ((with_reducible first | refine QT 28 (l := ?_) ?_ ?_ | refine QF 28 (l := ?_) ?_ ?_); rotate_left 1; focus (simp only [Zu, Nat.reduceSub, Nat.reduceBEq]; with_reducible rfl)) | ((with_reducible first | refine QS (cfg_ok 36) Tab.none (s' := ?_) ?_ ?_ | refine QC (b := ?_) ?_ ?_); rotate_left 1; focus ((with_reducible refine QW ?_); simp only [Zg, seval, if_true, if_false, reduceCtorEq, Nat.reduceEqDiff, List.length_map]; with_reducible rfl)))
    refine RunK.loop (β := Nat) (γ := Unit) (fun i => ⟨[(6, .c (.own 6 (bs.take i).flatten.length)), (25, .c (.val (.sl 1 (bs.map ePP)))), (26, .c (.val (.int bs.length))), (27, .c (.val (.int i)))], [(6, .row 2 ((bs.take i).flatten.map ePt) false)]⟩) (fun i => i ≤ bs.length) (fun i => bs.length - i)
      (fun _ => ⟨[(6, .c (.own 6 bs.flatten.length))], [(6, .row 2 (bs.flatten.map ePt) false)]⟩) (fun _ => True) 0 (Nat.zero_le _) ?_ ?_ ?_
    · (repeat' (first | with_reducible refine Qn | ((with_reducible refine Qr ?_ ?_); focus (first | with_reducible rfl | (simp only [Zz, Nat.reduceBEq, List.take_zero, List.flatten_nil, List.map_nil, List.length_map]; done) | rfl)) | ((with_reducible refine Qj (o' := ?_) ?_ ?_ ?_); rotate_left 1; focus rfl) | ((with_reducible refine Qw ?_ ?_); (focus (first | with_reducible rfl | (simp only [Zv, List.take_zero, List.flatten_nil, List.map_nil, List.length_map]; done))); focus (first | exact id | exact (fun h => nomatch h) | exact (fun _ => rfl)))))
    · intro i hi
      have hi : i ≤ bs.length := hi
      have hw := w64_succ (n := i) (by omega)
      by_cases h : i < bs.length
      · have i1 : ((i : Int) < (bs.length : Int)) = True := eq_true (by omega)
        have i2 : ((0 : Int) ≤ (i : Int)) = True := eq_true (by omega)
        obtain ⟨f, hf⟩ : ∃ f, f = bs[i] := ⟨_, rfl⟩
        have hg : (bs.map ePP)[i]? = some [.sl 2 (f.map ePt)] := by rw [map_get h, hf]; rfl
        have hle := flat_take_len bs (i + 1)
        have hfl := flat_take_succ bs i h
        rw [← hf] at hfl
        have hst := congrArg List.length hfl
        rw [List.length_append] at hst
        have q1 := big_le (n := (bs.take i).flatten.length + f.length) (by omega)
        have q2 := big_mul (n := (bs.take i).flatten.length + f.length) (c := 32) (by omega) (by omega)
        repeat' (first | with_reducible (first | refine Q1 ?_ | refine Q2 ?_ | refine Q3 ?_ | refine Q4 ?_ | refine Q5 ?_ | refine Q6 ?_ | refine Q7 ?_ | refine Q8 ?_ | refine Q9 ?_ | refine Qa ?_ | refine Qb ?_ | refine Qc ?_ | refine Qd ?_ | refine Qe ?_ | refine Qf ?_) | ((with_reducible refine Qo ?_ ?_); focus rfl) | ((with_reducible first | refine QT 28 (l := ?_) ?_ ?_ | refine QF 28 (l := ?_) ?_ ?_); rotate_left 1; focus (simp only [Zu, Nat.reduceSub, Nat.reduceBEq]; with_reducible rfl)) | ((with_reducible first | refine QS (cfg_ok 36) Tab.none (s' := ?_) ?_ ?_ | refine QC (b := ?_) ?_ ?_); rotate_left 1; focus ((with_reducible refine QW ?_); simp only [Zg, seval, if_true, if_false, reduceCtorEq, Nat.reduceEqDiff, i1, i2, hg, hw, q1, q2, Int.toNat_natCast, List.length_map]; with_reducible rfl)))
        refine roundK.on (i + 1) ⟨h, by omega⟩ ?_
        rw [hfl]
        (repeat' (first | with_reducible refine Qn | ((with_reducible refine Qr ?_ ?_); focus (first | with_reducible rfl | (simp only [Zz, Nat.reduceBEq]; done) | rfl)) | ((with_reducible refine Qj (o' := ?_) ?_ ?_ ?_); rotate_left 1; focus rfl) | ((with_reducible refine Qw ?_ ?_); (focus (first | with_reducible rfl | (simp only [Zv]; done))); focus (first | exact id | exact (fun h => nomatch h) | exact (fun _ => rfl)))))
      · have i1 : ((i : Int) < (bs.length : Int)) = False := eq_false (by omega)
        obtain rfl : i = bs.length := by omega
        rw [List.take_length]
        repeat' (first | with_reducible (first | refine Q1 ?_ | refine Q2 ?_ | refine Q3 ?_ | refine Q4 ?_ | refine Q5 ?_ | refine Q6 ?_ | refine Q7 ?_ | refine Q8 ?_ | refine Q9 ?_ | refine Qa ?_ | refine Qb ?_ | refine Qc ?_ | refine Qd ?_ | refine Qe ?_ | refine Qf ?_) | ((with_reducible refine Qo ?_ ?_); focus rfl) | ((with_reducible first | refine QT 28 (l := ?_) ?_ ?_ | refine QF 28 (l := ?_) ?_ ?_); rotate_left 1; focus (simp only [Zu, Nat.reduceSub, Nat.reduceBEq]; with_reducible rfl)) | ((with_reducible first | refine QS (cfg_ok 36) Tab.none (s' := ?_) ?_ ?_ | refine QC (b := ?_) ?_ ?_); rotate_left 1; focus ((with_reducible refine QW ?_); simp only [Zg, seval, if_true, if_false, reduceCtorEq, Nat.reduceEqDiff, i1]; with_reducible rfl)))
        refine roundK.out () trivial ?_
        (repeat' (first | with_reducible refine Qn | ((with_reducible refine Qr ?_ ?_); focus (first | with_reducible rfl | (simp only [Zz, Nat.reduceBEq]; done) | rfl)) | ((with_reducible refine Qj (o' := ?_) ?_ ?_ ?_); rotate_left 1; focus rfl) | ((with_reducible refine Qw ?_ ?_); (focus (first | with_reducible rfl | (simp only [Zv]; done))); focus (first | exact id | exact (fun h => nomatch h) | exact (fun _ => rfl)))))
    · rintro _ _
      repeat' (first | with_reducible (first | refine Q1 ?_ | refine Q2 ?_ | refine Q3 ?_ | refine Q4 ?_ | refine Q5 ?_ | refine Q6 ?_ | refine Q7 ?_ | refine Q8 ?_ | refine Q9 ?_ | refine Qa ?_ | refine Qb ?_ | refine Qc ?_ | refine Qd ?_ | refine Qe ?_ | refine Qf ?_) | ((with_reducible refine Qo ?_ ?_); focus rfl) | ((with_reducible first | refine QT 28 (l := ?_) ?_ ?_ | refine QF 28 (l := ?_) ?_ ?_); rotate_left 1; focus (simp only [Zu, Nat.reduceSub, Nat.reduceBEq]; with_reducible rfl)) | ((with_reducible first | refine QS (cfg_ok 36) Tab.none (s' := ?_) ?_ ?_ | refine QC (b := ?_) ?_ ?_); rotate_left 1; focus ((with_reducible refine QW ?_); simp only [Zg, seval, if_true, if_false, reduceCtorEq, Nat.reduceEqDiff]; with_reducible rfl)))
      (refine Ends.mk (by simp) (rs := ?_) (ks := ?_) hres hrts ?_ ?_ ?_; rotate_left 2; (focus (simp only [Ze, Zg, seval, if_true, if_false, reduceCtorEq, Nat.reduceEqDiff]; with_reducible rfl)); (focus simp); focus (first | with_reducible rfl | (simp only [Zv]; done)))
noncomputable def TEA : Tab Tryz.prog := Tab.none.add 34 (tab1 (codS 2 codPt) fun e => if e.length + szN e ≤ 1048576 then some [.val (.bool (elB e))] else none) (tab1_ok fun e rs h => by split at h; cases h; rename_i hz; exact a_impl_IsElement e hz; cases h)
noncomputable def TEAS : Tab Tryz.prog := Tab.none.add 48 (tab1 (codS 2 codPt) fun e => if e.length + szN e ≤ 1048576 then some [.val (.bool (elB e))] else none) (tab1_ok fun e rs h => by split at h; cases h; rename_i hz; exact a_l06Is e hz; cases h)
set_option maxHeartbeats 2000000 in
theorem a_impl_AddElements (d e : Elt) (hzd : szP d) (hz : szP e) : AFn Tryz.prog 22 [[.sl 2 (d.map ePt)], [.sl 2 (e.map ePt)]] (· = [.own 2 ((addOf d e).1.map ePt) true, .val (.int (addOf d e).2)]) := by
  have h1 := a_impl_IsElement d hzd
  have s1 : (d.length + szN d ≤ 1048576) = True := eq_true hzd
  have s2 : (e.length + szN e ≤ 1048576) = True := eq_true hz
  unfold addOf
  refine AFn.of_runs (cfg_ok 21) Tryz.func22 rfl rfl rfl (by simp only [List.length_cons, List.length_nil]; decide) ?_
  have hres : Tryz.f22.results.toList = [.tmp 4, .tmp 5] := rfl
  have hrts : Tryz.f22.resultTypes.toList = [24, 2] := rfl
  simp only [argRegs, argAV1, eL, eI, eLL, eB, Nat.zero_add, Nat.reduceAdd]
  intro M
  refine RunK.of ?_
  by_cases hD : elB d = true
  rotate_left
  · have hD' : elB d = false := by simpa using hD
    rw [if_neg (by rw [hD', Bool.false_and]; decide)]
    rw [hD'] at h1
    repeat' (first | with_reducible (first | refine Q1 ?_ | refine Q2 ?_ | refine Q3 ?_ | refine Q4 ?_ | refine Q5 ?_ | refine Q6 ?_ | refine Q7 ?_ | refine Q8 ?_ | refine Q9 ?_ | refine Qa ?_ | refine Qb ?_ | refine Qc ?_ | refine Qd ?_ | refine Qe ?_ | refine Qf ?_) | ((with_reducible refine Qo ?_ ?_); focus rfl) | ((with_reducible first | refine QT 6 (l := ?_) ?_ ?_ | refine QF 6 (l := ?_) ?_ ?_); rotate_left 1; focus (simp only [Zu, Nat.reduceSub, Nat.reduceBEq]; with_reducible rfl)) | ((with_reducible first | refine QS (cfg_ok 21) (Tab.none.at' 34 h1) (s' := ?_) ?_ ?_ | refine QC (b := ?_) ?_ ?_); rotate_left 1; focus ((with_reducible refine QW ?_); simp only [Zg, seval, if_true, if_false, reduceCtorEq, Nat.reduceEqDiff]; with_reducible rfl)))
    (refine Ends.mk (by simp) (rs := ?_) (ks := ?_) hres hrts ?_ ?_ ?_; rotate_left 2; (focus (simp only [Ze, Zg, seval, if_true, if_false, reduceCtorEq, Nat.reduceEqDiff]; with_reducible rfl)); (focus simp); focus (first | with_reducible rfl | (simp only [Zv]; done)))
  rw [hD] at h1
  by_cases hE : elB e = true
  rotate_left
  · have hE' : elB e = false := by simpa using hE
    rw [if_neg (by rw [hE', Bool.and_false]; decide)]
    repeat' (first | with_reducible (first | refine Q1 ?_ | refine Q2 ?_ | refine Q3 ?_ | refine Q4 ?_ | refine Q5 ?_ | refine Q6 ?_ | refine Q7 ?_ | refine Q8 ?_ | refine Q9 ?_ | refine Qa ?_ | refine Qb ?_ | refine Qc ?_ | refine Qd ?_ | refine Qe ?_ | refine Qf ?_) | ((with_reducible refine Qo ?_ ?_); focus rfl) | ((with_reducible first | refine QT 6 (l := ?_) ?_ ?_ | refine QF 6 (l := ?_) ?_ ?_); rotate_left 1; focus (simp only [Zu, Nat.reduceSub, Nat.reduceBEq]; with_reducible rfl)) | ((with_reducible first | refine QS (cfg_ok 21) TEA (s' := ?_) ?_ ?_ | refine QC (b := ?_) ?_ ?_); rotate_left 1; focus ((with_reducible refine QW ?_); simp only [Zg, seval, if_true, if_false, reduceCtorEq, Nat.reduceEqDiff, TEA, TEA, codPts_d, s1, s2, hD, hE']; with_reducible rfl)))
    (refine Ends.mk (by simp) (rs := ?_) (ks := ?_) hres hrts ?_ ?_ ?_; rotate_left 2; (focus (simp only [Ze, Zg, seval, if_true, if_false, reduceCtorEq, Nat.reduceEqDiff]; with_reducible rfl)); (focus simp); focus (first | with_reducible rfl | (simp only [Zv]; done)))
  rw [if_pos (by rw [hD, hE]; rfl)]
  obtain ⟨hod, hld, _⟩ := elB_okE hD
  obtain ⟨hoe, hle, _⟩ := elB_okE hE
  have hc := a_slicesConcatP [d, e] (by simp; omega) (by simp)
  simp only [ePP, List.map_cons, List.map_nil, List.flatten_cons, List.flatten_nil, List.append_nil] at hc
  have h4 := a_limited (d ++ e) (by rw [List.length_append]; omega) (appE_ok hod hoe)
  repeat' (first | with_reducible (first | refine Q1 ?_ | refine Q2 ?_ | refine Q3 ?_ | refine Q4 ?_ | refine Q5 ?_ | refine Q6 ?_ | refine Q7 ?_ | refine Q8 ?_ | refine Q9 ?_ | refine Qa ?_ | refine Qb ?_ | refine Qc ?_ | refine Qd ?_ | refine Qe ?_ | refine Qf ?_) | ((with_reducible refine Qo ?_ ?_); focus rfl) | ((with_reducible first | refine QT 6 (l := ?_) ?_ ?_ | refine QF 6 (l := ?_) ?_ ?_); rotate_left 1; focus (simp only [Zu, Nat.reduceSub, Nat.reduceBEq]; with_reducible rfl)) | ((with_reducible first | refine QS (cfg_ok 21) ((TEA.at' 64 hc).at' 63 h4) (s' := ?_) ?_ ?_ | refine QC (b := ?_) ?_ ?_); rotate_left 1; focus ((with_reducible refine QW ?_); simp only [Zg, seval, if_true, if_false, reduceCtorEq, Nat.reduceEqDiff, TEA, codPts_d, s1, s2, hD, hE]; with_reducible rfl)))
  (refine Ends.mk (by simp) (rs := ?_) (ks := ?_) hres hrts ?_ ?_ ?_; rotate_left 2; (focus (simp only [Ze, Zg, seval, if_true, if_false, reduceCtorEq, Nat.reduceEqDiff]; with_reducible rfl)); (focus simp); focus (first | with_reducible rfl | (simp only [Zv]; done)))
set_option maxHeartbeats 2000000 in
theorem a_spec_AddElements (d e : Elt) (hzd : szP d) (hz : szP e) : ∃ b, AFn Tryz.prog 21 [[.sl 2 (d.map ePt)], [.sl 2 (e.map ePt)]] (· = [.own 2 ((addOf d e).1.map ePt) b, .val (.int (addOf d e).2)]) := by
  have h1 := a_l06Is d hzd
  have s1 : (d.length + szN d ≤ 1048576) = True := eq_true hzd
  have s2 : (e.length + szN e ≤ 1048576) = True := eq_true hz
  unfold addOf
  by_cases hD : elB d = true
  rotate_left
  · have hD' : elB d = false := by simpa using hD
    rw [if_neg (by rw [hD', Bool.false_and]; decide)]
    rw [hD'] at h1
    refine ⟨true, ?_⟩
    refine AFn.of_runs (cfg_ok 20) Tryz.func21 rfl rfl rfl (by simp only [List.length_cons, List.length_nil]; decide) ?_
    have hres : Tryz.f21.results.toList = [.tmp 4, .tmp 5] := rfl
    have hrts : Tryz.f21.resultTypes.toList = [24, 2] := rfl
    simp only [argRegs, argAV1, eL, eI, eLL, eB, Nat.zero_add, Nat.reduceAdd]
    intro M
    refine RunK.of ?_
    repeat' (first | with_reducible (first | refine Q1 ?_ | refine Q2 ?_ | refine Q3 ?_ | refine Q4 ?_ | refine Q5 ?_ | refine Q6 ?_ | refine Q7 ?_ | refine Q8 ?_ | refine Q9 ?_ | refine Qa ?_ | refine Qb ?_ | refine Qc ?_ | refine Qd ?_ | refine Qe ?_ | refine Qf ?_) | ((with_reducible refine Qo ?_ ?_); focus rfl) | ((with_reducible first | refine QT 6 (l := ?_) ?_ ?_ | refine QF 6 (l := ?_) ?_ ?_); rotate_left 1; focus (simp only [Zu, Nat.reduceSub, Nat.reduceBEq]; with_reducible rfl)) | ((with_reducible first | refine QS (cfg_ok 20) (Tab.none.at' 48 h1) (s' := ?_) ?_ ?_ | refine QC (b := ?_) ?_ ?_); rotate_left 1; focus ((with_reducible refine QW ?_); simp only [Zg, seval, if_true, if_false, reduceCtorEq, Nat.reduceEqDiff]; with_reducible rfl)))
    (refine Ends.mk (by simp) (rs := ?_) (ks := ?_) hres hrts ?_ ?_ ?_; rotate_left 2; (focus (simp only [Ze, Zg, seval, if_true, if_false, reduceCtorEq, Nat.reduceEqDiff]; with_reducible rfl)); (focus simp); focus (first | with_reducible rfl | (simp only [Zv]; done)))
  by_cases hE : elB e = true
  rotate_left
  · have hE' : elB e = false := by simpa using hE
    rw [if_neg (by rw [hE', Bool.and_false]; decide)]
    refine ⟨true, ?_⟩
    refine AFn.of_runs (cfg_ok 20) Tryz.func21 rfl rfl rfl (by simp only [List.length_cons, List.length_nil]; decide) ?_
    have hres : Tryz.f21.results.toList = [.tmp 4, .tmp 5] := rfl
    have hrts : Tryz.f21.resultTypes.toList = [24, 2] := rfl
    simp only [argRegs, argAV1, eL, eI, eLL, eB, Nat.zero_add, Nat.reduceAdd]
    intro M
    refine RunK.of ?_
    repeat' (first | with_reducible (first | refine Q1 ?_ | refine Q2 ?_ | refine Q3 ?_ | refine Q4 ?_ | refine Q5 ?_ | refine Q6 ?_ | refine Q7 ?_ | refine Q8 ?_ | refine Q9 ?_ | refine Qa ?_ | refine Qb ?_ | refine Qc ?_ | refine Qd ?_ | refine Qe ?_ | refine Qf ?_) | ((with_reducible refine Qo ?_ ?_); focus rfl) | ((with_reducible first | refine QT 6 (l := ?_) ?_ ?_ | refine QF 6 (l := ?_) ?_ ?_); rotate_left 1; focus (simp only [Zu, Nat.reduceSub, Nat.reduceBEq]; with_reducible rfl)) | ((with_reducible first | refine QS (cfg_ok 20) TEAS (s' := ?_) ?_ ?_ | refine QC (b := ?_) ?_ ?_); rotate_left 1; focus ((with_reducible refine QW ?_); simp only [Zg, seval, if_true, if_false, reduceCtorEq, Nat.reduceEqDiff, TEAS, TEAS, codPts_d, s1, s2, hD, hE']; with_reducible rfl)))
    (refine Ends.mk (by simp) (rs := ?_) (ks := ?_) hres hrts ?_ ?_ ?_; rotate_left 2; (focus (simp only [Ze, Zg, seval, if_true, if_false, reduceCtorEq, Nat.reduceEqDiff]; with_reducible rfl)); (focus simp); focus (first | with_reducible rfl | (simp only [Zv]; done)))
  rw [if_pos (by rw [hD, hE]; rfl)]
  obtain ⟨hod, hld, _⟩ := elB_okE hD
  obtain ⟨hoe, hle, _⟩ := elB_okE hE
  have h3 := a_l06Add d e 1 hod hoe (by omega) (by omega)
  rw [mulE_one hoe, addS_two (elB_spec hD).2.1] at h3
  obtain ⟨b, h4⟩ := a_l06Own (sumS cmpF (d ++ e)) (addS_okE OkE.nil (appE_ok hod hoe)) (by have := addS_len (d ++ e) []; rw [List.length_append] at this; simp only [List.length_nil] at this; show (addS cmpF [] _).length ≤ _; omega)
  refine ⟨b, ?_⟩
  simp only [eI] at h3
  refine AFn.of_runs (cfg_ok 20) Tryz.func21 rfl rfl rfl (by simp only [List.length_cons, List.length_nil]; decide) ?_
  have hres : Tryz.f21.results.toList = [.tmp 4, .tmp 5] := rfl
  have hrts : Tryz.f21.resultTypes.toList = [24, 2] := rfl
  simp only [argRegs, argAV1, eL, eI, eLL, eB, Nat.zero_add, Nat.reduceAdd]
  intro M
  refine RunK.of ?_
  repeat' (first | with_reducible (first | refine Q1 ?_ | refine Q2 ?_ | refine Q3 ?_ | refine Q4 ?_ | refine Q5 ?_ | refine Q6 ?_ | refine Q7 ?_ | refine Q8 ?_ | refine Q9 ?_ | refine Qa ?_ | refine Qb ?_ | refine Qc ?_ | refine Qd ?_ | refine Qe ?_ | refine Qf ?_) | ((with_reducible refine Qo ?_ ?_); focus rfl) | ((with_reducible first | refine QT 6 (l := ?_) ?_ ?_ | refine QF 6 (l := ?_) ?_ ?_); rotate_left 1; focus (simp only [Zu, Nat.reduceSub, Nat.reduceBEq]; with_reducible rfl)) | ((with_reducible first | refine QS (cfg_ok 20) ((TEAS.at' 51 h3).at' 50 h4) (s' := ?_) ?_ ?_ | refine QC (b := ?_) ?_ ?_); rotate_left 1; focus ((with_reducible refine QW ?_); simp only [Zg, seval, if_true, if_false, reduceCtorEq, Nat.reduceEqDiff, TEAS, codPts_d, s1, s2, hD, hE]; with_reducible rfl)))
  (refine Ends.mk (by simp) (rs := ?_) (ks := ?_) hres hrts ?_ ?_ ?_; rotate_left 2; (focus (simp only [Ze, Zg, seval, if_true, if_false, reduceCtorEq, Nat.reduceEqDiff]; with_reducible rfl)); (focus simp); focus (first | with_reducible rfl | (simp only [Zv]; done)))
theorem k_impl_AddElements (v u : Value) (d e : Elt) (w : World) (h : Rd (RS RPart) w [v] d) (h2 : Rd (RS RPart) w [u] e) (hz : szP d) (hz2 : szP e) : Calls Tryz.prog 22 #[v, u] w (RetOC (RS RPart) w (addOf d e).1 (addOf d e).2) :=
  AFn.oi encPt (a_impl_AddElements d e hz hz2) (args2 (arg_P h) (arg_P h2))
theorem k_spec_AddElements (v u : Value) (d e : Elt) (w : World) (h : Rd (RS RPart) w [v] d) (h2 : Rd (RS RPart) w [u] e) (hz : szP d) (hz2 : szP e) : Calls Tryz.prog 21 #[v, u] w (RetGI (RS RPart) w (addOf d e).1 (addOf d e).2) := by
  obtain ⟨b, hb⟩ := a_spec_AddElements d e hz hz2
  exact AFn.gi encPt (by cases b <;> first | exact .inl rfl | exact .inr (.inl rfl)) hb (args2 (arg_P h) (arg_P h2))
end Go.Proofs.YtacbkjmkjpjhoaaGreat
namespace Go.Proofs.YtacbkjmkjpjhoaaGreat
open Go.RowKit
set_option maxHeartbeats 1000000 in
theorem walk_FnExactAddElements (v0 : Value) (v1 : Value) (x0 : List (Int × List (List Int))) (x1 : List (Int × List (List Int))) (w : World) (h0 : Rd (RS RPart) w [v0] x0) (h1 : Rd (RS RPart) w [v1] x1) : Calls Tryz.prog 5 #[v0, v1] w (RetV w (.bool true)) := by
  go_enter Tryz.func5, Tryz.ntmps5
  go_wp2_with fail
  refine (sz_P _ x0 1048576 _ h0 (by omega) (by omega)).mono ?_
  rintro e w1 ⟨r1, rfl, hr1, B1⟩
  have s1 := B1.size
  have BB := B1.mono (B' := w.heap.size) (by omega)
  rcases hr1 with ⟨n1, z0⟩ | ⟨n1, n1b, z0⟩
  · go_wp2_with fail
    go_ret
    exact ⟨rfl, BB⟩
  go_wp2_with fail
  refine (sz_P _ x1 r1 _ (h1.below BB (Nat.le_refl _)) (by omega) (by omega)).mono ?_
  rintro e w2 ⟨r2, rfl, hr2, B2⟩
  have s2 := B2.size
  replace BB := BB.trans (B2.mono (B' := w.heap.size) (by omega))
  rcases hr2 with ⟨n2, z1⟩ | ⟨n2, n2b, z1⟩
  · go_wp2_with fail
    go_ret
    exact ⟨rfl, BB⟩
  go_wp2_with fail
  refine (to_P _ x0 _ (h0.below BB (Nat.le_refl _)) z0).mono ?_
  rintro e w3 ⟨u3, rfl, o3, B3⟩
  have s3 := B3.size
  replace BB := BB.trans (B3.mono (B' := w.heap.size) (by omega))
  go_wp2_with fail
  refine (to_P _ x1 _ (h1.below BB (Nat.le_refl _)) z1).mono ?_
  rintro e w4 ⟨u4, rfl, o4, B4⟩
  have s4 := B4.size
  replace o3 := o3.below B4 (by omega)
  replace BB := BB.trans (B4.mono (B' := w.heap.size) (by omega))
  go_wp2_with fail
  refine (k_spec_AddElements _ _ x0 x1 _ o3.rd o4.rd z0 z1).mono ?_
  rintro e w5 ⟨u5, rfl, o5, B5⟩
  have s5 := B5.size
  replace o3 := o3.below B5 (by omega)
  replace o4 := o4.below B5 (by omega)
  replace BB := BB.trans (B5.mono (B' := w.heap.size) (by omega))
  go_wp2_with fail
  refine (to_P _ x0 _ (h0.below BB (Nat.le_refl _)) z0).mono ?_
  rintro e w6 ⟨u6, rfl, o6, B6⟩
  have s6 := B6.size
  replace o3 := o3.below B6 (by omega)
  replace o4 := o4.below B6 (by omega)
  replace o5 := o5.below B6 (by omega)
  replace BB := BB.trans (B6.mono (B' := w.heap.size) (by omega))
  go_wp2_with fail
  refine (to_P _ x1 _ (h1.below BB (Nat.le_refl _)) z1).mono ?_
  rintro e w7 ⟨u7, rfl, o7, B7⟩
  have s7 := B7.size
  replace o3 := o3.below B7 (by omega)
  replace o4 := o4.below B7 (by omega)
  replace o5 := o5.below B7 (by omega)
  replace o6 := o6.below B7 (by omega)
  replace BB := BB.trans (B7.mono (B' := w.heap.size) (by omega))
  go_wp2_with fail
  refine (k_impl_AddElements _ _ x0 x1 _ o6.rd o7.rd z0 z1).mono ?_
  rintro e w8 ⟨u8, rfl, o8, B8⟩
  have s8 := B8.size
  replace o3 := o3.below B8 (by omega)
  replace o4 := o4.below B8 (by omega)
  replace o5 := o5.below B8 (by omega)
  replace o6 := o6.below B8 (by omega)
  replace o7 := o7.below B8 (by omega)
  replace BB := BB.trans (B8.mono (B' := w.heap.size) (by omega))
  go_wp2_with fail
  refine (eqv_P _ _ (addOf x0 x1).1 _ o8.rd o5.rd).mono ?_
  rintro e w9 ⟨rfl, B9⟩
  have s9 := B9.size
  replace o3 := o3.below B9 (by omega)
  replace o4 := o4.below B9 (by omega)
  replace o5 := o5.below B9 (by omega)
  replace o6 := o6.below B9 (by omega)
  replace o7 := o7.below B9 (by omega)
  replace o8 := o8.below B9 (by omega)
  replace BB := BB.trans (B9.mono (B' := w.heap.size) (by omega))
  go_wp2_with fail
  refine (to_P _ x0 _ (h0.below BB (Nat.le_refl _)) z0).mono ?_
  rintro e w10 ⟨u10, rfl, o10, B10⟩
  have s10 := B10.size
  replace o3 := o3.below B10 (by omega)
  replace o4 := o4.below B10 (by omega)
  replace o5 := o5.below B10 (by omega)
  replace o6 := o6.below B10 (by omega)
  replace o7 := o7.below B10 (by omega)
  replace o8 := o8.below B10 (by omega)
  replace BB := BB.trans (B10.mono (B' := w.heap.size) (by omega))
  go_wp2_with fail
  refine (eqv_P _ _ x0 _ o6.rd o10.rd).mono ?_
  rintro e w11 ⟨rfl, B11⟩
  have s11 := B11.size
  replace o3 := o3.below B11 (by omega)
  replace o4 := o4.below B11 (by omega)
  replace o5 := o5.below B11 (by omega)
  replace o6 := o6.below B11 (by omega)
  replace o7 := o7.below B11 (by omega)
  replace o8 := o8.below B11 (by omega)
  replace o10 := o10.below B11 (by omega)
  replace BB := BB.trans (B11.mono (B' := w.heap.size) (by omega))
  go_wp2_with fail
  refine (to_P _ x1 _ (h1.below BB (Nat.le_refl _)) z1).mono ?_
  rintro e w12 ⟨u12, rfl, o12, B12⟩
  have s12 := B12.size
  replace o3 := o3.below B12 (by omega)
  replace o4 := o4.below B12 (by omega)
  replace o5 := o5.below B12 (by omega)
  replace o6 := o6.below B12 (by omega)
  replace o7 := o7.below B12 (by omega)
  replace o8 := o8.below B12 (by omega)
  replace o10 := o10.below B12 (by omega)
  replace BB := BB.trans (B12.mono (B' := w.heap.size) (by omega))
  go_wp2_with fail
  refine (eqv_P _ _ x1 _ o7.rd o12.rd).mono ?_
  rintro e w13 ⟨rfl, B13⟩
  have s13 := B13.size
  replace o3 := o3.below B13 (by omega)
  replace o4 := o4.below B13 (by omega)
  replace o5 := o5.below B13 (by omega)
  replace o6 := o6.below B13 (by omega)
  replace o7 := o7.below B13 (by omega)
  replace o8 := o8.below B13 (by omega)
  replace o10 := o10.below B13 (by omega)
  replace o12 := o12.below B13 (by omega)
  replace BB := BB.trans (B13.mono (B' := w.heap.size) (by omega))
  go_wp2_with fail
  have p14 := cntb_P x0 z0
  refine (mark_P _ x0 _ _ 1 _ o6 (by omega) (by omega)).mono ?_
  rintro e w14 ⟨rfl, o6n, B14⟩
  have s14 := B14.size
  replace o3 := o3.apart B14 (by omega)
  replace o4 := o4.apart B14 (by omega)
  replace o5 := o5.apart B14 (by omega)
  replace o7 := o7.apart B14 (by omega)
  replace o8 := o8.apart B14 (by omega)
  replace o10 := o10.apart B14 (by omega)
  replace o12 := o12.apart B14 (by omega)
  replace o6 := o6n
  clear o6n
  replace BB := BB.trans (B14.below (B := w.heap.size) (by omega) (by omega))
  go_wp2_with fail
  have p15 := cntb_P x1 z1
  refine (mark_P _ x1 _ _ (1 + (cnt_P x0 : Nat)) _ o7 (by omega) (by omega)).mono ?_
  rintro e w15 ⟨rfl, o7n, B15⟩
  have s15 := B15.size
  replace o3 := o3.apart B15 (by omega)
  replace o4 := o4.apart B15 (by omega)
  replace o5 := o5.apart B15 (by omega)
  replace o6 := o6.apart B15 (by omega)
  replace o8 := o8.apart B15 (by omega)
  replace o10 := o10.apart B15 (by omega)
  replace o12 := o12.apart B15 (by omega)
  replace o7 := o7n
  clear o7n
  replace BB := BB.trans (B15.below (B := w.heap.size) (by omega) (by omega))
  go_wp2_with fail
  refine (eqv_P _ _ (addOf x0 x1).1 _ o8.rd o5.rd).mono ?_
  rintro e w16 ⟨rfl, B16⟩
  have s16 := B16.size
  replace o3 := o3.below B16 (by omega)
  replace o4 := o4.below B16 (by omega)
  replace o5 := o5.below B16 (by omega)
  replace o6 := o6.below B16 (by omega)
  replace o7 := o7.below B16 (by omega)
  replace o8 := o8.below B16 (by omega)
  replace o10 := o10.below B16 (by omega)
  replace o12 := o12.below B16 (by omega)
  replace BB := BB.trans (B16.mono (B' := w.heap.size) (by omega))
  go_wp2_with fail
  have p17 := addOf_cnt x0 x1
  refine (mark_P _ (addOf x0 x1).1 _ _ 1 _ o8 (by omega) (by omega)).mono ?_
  rintro e w17 ⟨rfl, o8n, B17⟩
  have s17 := B17.size
  replace o3 := o3.apart B17 (by omega)
  replace o4 := o4.apart B17 (by omega)
  replace o5 := o5.apart B17 (by omega)
  replace o6 := o6.apart B17 (by omega)
  replace o7 := o7.apart B17 (by omega)
  replace o10 := o10.apart B17 (by omega)
  replace o12 := o12.apart B17 (by omega)
  replace o8 := o8n
  clear o8n
  replace BB := BB.trans (B17.below (B := w.heap.size) (by omega) (by omega))
  go_wp2_with fail
  refine (held_P _ (addOf x0 x1).1 1 _ o8.rd (by omega) (by omega)).mono ?_
  rintro e w18 ⟨rfl, rfl⟩
  go_wp2_with fail
  refine (to_P _ x0 _ (h0.below BB (Nat.le_refl _)) z0).mono ?_
  rintro e w19 ⟨u19, rfl, o19, B19⟩
  have s19 := B19.size
  replace o3 := o3.below B19 (by omega)
  replace o4 := o4.below B19 (by omega)
  replace o5 := o5.below B19 (by omega)
  replace o6 := o6.below B19 (by omega)
  replace o7 := o7.below B19 (by omega)
  replace o8 := o8.below B19 (by omega)
  replace o10 := o10.below B19 (by omega)
  replace o12 := o12.below B19 (by omega)
  replace BB := BB.trans (B19.mono (B' := w.heap.size) (by omega))
  go_wp2_with fail
  refine (to_P _ x1 _ (h1.below BB (Nat.le_refl _)) z1).mono ?_
  rintro e w20 ⟨u20, rfl, o20, B20⟩
  have s20 := B20.size
  replace o3 := o3.below B20 (by omega)
  replace o4 := o4.below B20 (by omega)
  replace o5 := o5.below B20 (by omega)
  replace o6 := o6.below B20 (by omega)
  replace o7 := o7.below B20 (by omega)
  replace o8 := o8.below B20 (by omega)
  replace o10 := o10.below B20 (by omega)
  replace o12 := o12.below B20 (by omega)
  replace o19 := o19.below B20 (by omega)
  replace BB := BB.trans (B20.mono (B' := w.heap.size) (by omega))
  go_wp2_with fail
  refine (k_impl_AddElements _ _ x0 x1 _ o19.rd o20.rd z0 z1).mono ?_
  rintro e w21 ⟨u21, rfl, o21, B21⟩
  have s21 := B21.size
  replace o3 := o3.below B21 (by omega)
  replace o4 := o4.below B21 (by omega)
  replace o5 := o5.below B21 (by omega)
  replace o6 := o6.below B21 (by omega)
  replace o7 := o7.below B21 (by omega)
  replace o8 := o8.below B21 (by omega)
  replace o10 := o10.below B21 (by omega)
  replace o12 := o12.below B21 (by omega)
  replace o19 := o19.below B21 (by omega)
  replace o20 := o20.below B21 (by omega)
  replace BB := BB.trans (B21.mono (B' := w.heap.size) (by omega))
  go_wp2_with fail
  refine (eqv_P _ _ (addOf x0 x1).1 _ o21.rd o5.rd).mono ?_
  rintro e w22 ⟨rfl, B22⟩
  have s22 := B22.size
  replace o3 := o3.below B22 (by omega)
  replace o4 := o4.below B22 (by omega)
  replace o5 := o5.below B22 (by omega)
  replace o6 := o6.below B22 (by omega)
  replace o7 := o7.below B22 (by omega)
  replace o8 := o8.below B22 (by omega)
  replace o10 := o10.below B22 (by omega)
  replace o12 := o12.below B22 (by omega)
  replace o19 := o19.below B22 (by omega)
  replace o20 := o20.below B22 (by omega)
  replace o21 := o21.below B22 (by omega)
  replace BB := BB.trans (B22.mono (B' := w.heap.size) (by omega))
  go_wp2_with fail
  refine (held_P _ (addOf x0 x1).1 1 _ o8.rd (by omega) (by omega)).mono ?_
  rintro e w23 ⟨rfl, rfl⟩
  go_wp2_with fail
  go_ret
  exact ⟨rfl, BB⟩
end Go.Proofs.YtacbkjmkjpjhoaaGreat
namespace Go.Proofs.YtacbkjmkjpjhoaaGreat
open Go.RowKit
theorem exists_not {l : List Nat} : ∃ k, k ∉ l := by
  have key : ∀ (l : List Nat), ∀ x ∈ l, x ≤ l.sum := by
    intro l
    induction l with
    | nil => intro x hx; cases hx
    | cons y l ih =>
      intro x hx
      rw [List.sum_cons]
      rcases List.mem_cons.1 hx with rfl | hx
      · omega
      · have := ih x hx; omega
  exact ⟨l.sum + 1, fun h => by have := key l _ h; omega⟩
theorem exists_free (s : St) : ∃ k, Free s k := by
  obtain ⟨k, hk⟩ := exists_not (l := s.heap.map (·.1) ++ s.regs.flatMap (·.2.refs) ++ s.heap.flatMap (·.2.refs))
  simp only [List.mem_append, not_or] at hk
  obtain ⟨⟨h1, h2⟩, h3⟩ := hk
  refine ⟨k, ?_, fun r av hr hm => h2 (List.mem_flatMap.2 ⟨_, look_all hr, hm⟩), fun q u hq hm => h3 (List.mem_flatMap.2 ⟨_, look_all hq, hm⟩)⟩
  cases e : look k s.heap with
  | none => rfl
  | some o => exact absurd (List.mem_map.2 ⟨_, look_all e, rfl⟩) h1
theorem AC.frz_id {key k : Nat} {xs : List (List D)} {x : AC} (h : key ∉ x.refs) : x.frz key k xs = x := by
  cases x with
  | own q n => simp only [AC.refs, List.mem_singleton] at h; simp only [AC.frz]; rw [if_neg (fun e => h e.symm)]
  | view q i n => simp only [AC.refs, List.mem_singleton] at h; simp only [AC.frz]; rw [if_neg (fun e => h e.symm)]
  | _ => rfl
theorem acs_frz_id {key k : Nat} {xs : List (List D)} : ∀ {cs : List AC}, key ∉ cs.flatMap AC.refs → cs.map (AC.frz key k xs) = cs
  | [], _ => rfl
  | c :: cs, h => by
    rw [List.flatMap_cons, List.mem_append, not_or] at h
    rw [List.map_cons, AC.frz_id h.1, acs_frz_id h.2]
theorem AV.frz_id {key k : Nat} {xs : List (List D)} {x : AV} (h : key ∉ x.refs) : x.frz key k xs = x := by
  cases x with
  | c x => simp only [AV.frz]; rw [AC.frz_id h]
  | eptr => rfl
  | optr q i j => simp only [AV.refs, List.mem_singleton] at h; simp only [AV.frz]; rw [if_neg (fun e => h e.symm)]
  | agg cs => simp only [AV.frz]; rw [acs_frz_id h]
  | tup cs => simp only [AV.frz]; rw [acs_frz_id h]
  | dead => rfl
theorem Obj.frz_id {key k : Nat} {xs : List (List D)} {o : Obj} (h : key ∉ o.refs) : o.frz key k xs = o := by
  cases o with
  | row => rfl
  | lit k' css =>
    simp only [Obj.frz]
    congr 1
    have h : key ∉ css.flatMap (·.flatMap AC.refs) := h
    have : ∀ css : List (List AC), key ∉ css.flatMap (·.flatMap AC.refs) → css.map (·.map (AC.frz key k xs)) = css := by
      intro css
      induction css with
      | nil => intro _; rfl
      | cons c css ih =>
        intro h
        rw [List.flatMap_cons, List.mem_append, not_or] at h
        rw [List.map_cons, acs_frz_id h.1, ih h.2]
    exact this css h
section
variable {P : Program} {cfg : Cfg} {M : Nat → Prop} {ops : Array Oper} {s s' : St} {w0 : W0} {w : World} {Ok : Nat → Prop} {N : Nat} {σ : Asg} {a : Act} {fs : List Fr} {Q : Exit → St → Prop} {T : Tab P}
def devalB (cfg : Cfg) (ops : Array Oper) (o : Oper) (s : St) : Option Tel :=
  match o.op with
  | .buildSlice t len parts => if dstOK cfg o = true ∧ awanted ops s.regs o = some true then
      o.dst.bind fun d => (cfg.sl t).bind fun i => if len = parts.size ∧ len * i.z.length ≤ 16777216 then (aparts s.regs 0 parts.toList).bind fun css => (rowsD i.z css).map fun r => ⟨⟨d, .c (.val (.sl i.z.length r.1)), []⟩, opRefs s.regs o.op.operands.toList⟩ else Option.none
    else Option.none
  | _ => Option.none
theorem Does1.lit (C : CfgOK P cfg) {i : Nat} {o : Oper} (hi : ops[i]? = some o) {t : Tel} (h : devalB cfg ops o s = some t) : Does1 P cfg ops i s t := by
  unfold devalB at h
  split at h
  · rename_i ty len parts hop
    split at h
    · rename_i hc
      obtain ⟨d, hd, h⟩ := bind_some h
      obtain ⟨it, hit, h⟩ := bind_some h
      split at h
      · rename_i hsz
        obtain ⟨css, hcss, h⟩ := bind_some h
        obtain ⟨⟨xs, b⟩, hr, rfl⟩ := map_some h
        refine ⟨o, hi, hd, fun s' h1 h2 h3 w0 Ok σ a w K Q hS hK => ?_⟩
        have hw : awanted ops s'.regs o = some true := by rw [awanted_congr h1, hc.2]
        have hopl : o.op.operands.toList = parts.toList.map (·.2) := by rw [hop]; rfl
        have hag := agree_of (xs := o.op.operands.toList) (fun x hx => hx) h1 h2
        rw [hopl] at hag
        have hcss' : aparts s'.regs 0 parts.toList = some css := by rw [aparts_congr hag, hcss]
        obtain ⟨q, hq⟩ := exists_free s'
        have hmk : mkObj it.z css = some (.row it.z.length xs b) := by unfold mkObj; rw [hr]
        have ha : anew cfg (fun k => look k s'.heap) s'.regs q o.op = some (.c (.own q len), [(q, .row it.z.length xs b)]) := by
          rw [hop]
          simp only [anew, hit, Option.bind_some]
          rw [if_pos hsz, hcss']
          simp only [Option.bind_some, hmk, Option.map_some]
        unfold wpOp
        simp only [hi, awanted_spec hS hw, if_true]
        left
        have hdN : d < cfg.N := by have := hc.1; rw [dstOK, hd] at this; simpa using this
        refine anew_doesF C hS (news := [(q, .row it.z.length xs b)]) (av := .c (.own q len)) ha (fun p ob hp => ?_) _ _ (fun v w' σ' hv hS' => ?_)
        · have hp : (if q = p then some (Obj.row it.z.length xs b) else none) = some ob := hp
          split at hp
          · rename_i e; subst e; exact hq
          · cases hp
        · rw [hd]
          have hS1 := Sim.ins hS' hdN hv
          have hS2 := Sim.frz hS1 q
          refine hK σ' _ _ ?_
          have hlq : look q (⟨insR d (.c (.own q len)) s'.regs, [(q, Obj.row it.z.length xs b)] ++ s'.heap⟩ : St).heap = some (.row it.z.length xs b) := by show look q ((q, Obj.row it.z.length xs b) :: s'.heap) = _; rw [look, if_pos rfl]
          have e : (⟨insR d (.c (.own q len)) s'.regs, [(q, Obj.row it.z.length xs b)] ++ s'.heap⟩ : St).frz q = ⟨frzR q it.z.length xs (insR d (.c (.own q len)) s'.regs), frzH q it.z.length xs (drop q ([(q, Obj.row it.z.length xs b)] ++ s'.heap))⟩ := by
            unfold St.frz; rw [hlq]
          rw [e] at hS2
          refine hS2.forget (fun r av hr => ?_) (fun k o' ho' => ?_)
          · have hr : look r (insR d (.c (.val (.sl it.z.length xs))) s'.regs) = some av := hr
            rw [look_ins] at hr
            show look r (frzR q it.z.length xs (insR d (.c (.own q len)) s'.regs)) = _
            rw [look_frzR, look_ins]
            by_cases er : d = r
            · rw [if_pos er] at hr ⊢
              cases hr
              show some (AV.c (if q = q then AC.val (.sl it.z.length xs) else AC.own q len)) = _
              rw [if_pos rfl]
            · rw [if_neg er] at hr ⊢
              rw [hr]
              show some (av.frz q it.z.length xs) = _
              rw [AV.frz_id (hq.2.1 r av hr)]
          · have ho' : look k s'.heap = some o' := ho'
            show look k (frzH q it.z.length xs (drop q ((q, Obj.row it.z.length xs b) :: s'.heap))) = _
            have hkq : k ≠ q := by rintro rfl; rw [hq.1] at ho'; cases ho'
            rw [look_frzH, look_drop, if_neg hkq, look, if_neg (fun e => hkq e.symm), ho']
            show some (o'.frz q it.z.length xs) = _
            rw [Obj.frz_id (hq.2.2 k o' ho')]
      · cases h
    · cases h
  · cases h
def devalF (fz : List Nat) (cfg : Cfg) (T : Tab P) (ops : Array Oper) (o : Oper) (s : St) : Option Tel :=
  bif fz.contains (o.dst.getD 0) then devalB cfg ops o s else devalT cfg T ops o s
def drunF (fz : List Nat) (cfg : Cfg) (T : Tab P) (ops : Array Oper) : List Oper → St → List Tel × St × List Oper
  | [], s => ([], s, [])
  | o :: l, s => match devalF fz cfg T ops o s with
    | some t => ((t :: (drunF fz cfg T ops l (s.add t.e)).1), (drunF fz cfg T ops l (s.add t.e)).2)
    | Option.none => ([], s, o :: l)
theorem drunF_spec {fz : List Nat} (C : CfgOK P cfg) : ∀ {l : List Oper} {i : Nat} {s : St}, (∀ j, l[j]? = ops[i + j]?) → Tr P cfg ops i s (drunF fz cfg T ops l s).1 ∧
    (drunF fz cfg T ops l s).2.1 = (drunF fz cfg T ops l s).1.foldl (fun s t => s.add t.e) s ∧ (drunF fz cfg T ops l s).2.2 = l.drop (drunF fz cfg T ops l s).1.length
  | [], i, s, _ => ⟨trivial, rfl, rfl⟩
  | o :: l, i, s, hl => by
    have hi : ops[i]? = some o := by have := hl 0; simpa using this.symm
    simp only [drunF]
    cases hd : devalF fz cfg T ops o s with
    | none => exact ⟨trivial, rfl, rfl⟩
    | some t =>
      obtain ⟨h1, h2, h3⟩ := drunF_spec (fz := fz) C (l := l) (i := i + 1) (s := s.add t.e) (fun j => by have := hl (j + 1); simpa [Nat.add_assoc, Nat.add_comm 1 j] using this)
      refine ⟨⟨?_, h1⟩, by simpa using h2, by simpa using h3⟩
      unfold devalF at hd
      cases hb : fz.contains (o.dst.getD 0) with
      | true => rw [hb] at hd; exact Does1.lit C hi hd
      | false => rw [hb] at hd; exact Does1.opT C hi hd
def dregF (s : St) : List Tel × St × List Oper → Option (List Tel × St × List Oper)
  | (tr, s1, rest) => if tr.all (fun t => t.e.news.all fun p => fresh s p.1) = true then some (tr, s1, rest) else Option.none
theorem dregF_mk (s : St) (tr : List Tel) (s1 : St) (rest : List Oper) : dregF s (tr, s1, rest) = if tr.all (fun t => t.e.news.all fun p => fresh s p.1) = true then some (tr, s1, rest) else Option.none := rfl
theorem RunK.wFz (C : CfgOK P cfg) (T : Tab P) (hm : P.follows .mixedOrders = true) (fz : List Nat) {id : Nat} {tr : List Tel} {s1 : St} {rest : List Oper} (hr : Work (dregF s (drunF fz cfg T ops ops.toList s)) (some (tr, s1, rest))) (h1 : ChkD ops tr)
    (h : ROps P cfg M ops rest (outK P cfg M fs Q .normal) s1) : RunK P cfg M (.region id ops true) fs Q s := by
  have hr : dregF s (drunF fz cfg T ops ops.toList s) = some (tr, s1, rest) := hr
  obtain ⟨⟨tr0, s10, rest0⟩, e⟩ : ∃ r, r = drunF fz cfg T ops ops.toList s := ⟨_, rfl⟩
  rw [← e, dregF_mk] at hr
  split at hr
  · rename_i hf
    cases hr
    obtain ⟨k1, k2, k3⟩ := drunF_spec (T := T) (fz := fz) C (ops := ops) (l := ops.toList) (i := 0) (s := s) (fun j => by simp)
    rw [← e] at k1 k2 k3
    refine Runs.draw hm k1 h1 hf ?_
    show ROps P cfg M ops (ops.toList.drop tr.length) _ (tr.foldl (fun s t => s.add t.e) s)
    rw [← k2, ← k3]
    exact h
  · cases hr
end
end Go.Proofs.YtacbkjmkjpjhoaaGreat
namespace Go.Proofs.YtacbkjmkjpjhoaaGreat
open Go.RowKit
set_option maxRecDepth 100000 in
set_option maxHeartbeats 400000 in
theorem c_slicesGrowL (n : Nat) (w : World) (hn : n ≤ 1000000000) : Calls Tryz.prog 159 #[.slice none 0 0, .int .i64 n] w (RetO (RS (RS RI)) w []) := by
  by_cases h0 : n = 0
  · subst h0
    go_enter Tryz.func159, Tryz.ntmps159
    go_wp2_with fail
    go_ret
    exact ⟨_, rfl, Own.nil _ _, Below.refl _ _⟩
  · obtain ⟨ht, ⟨i, hi, hz, hsz, hby⟩, _, _⟩ := tI64S
    have hr := Lib.run_append_nil_zeros (P := Tryz.prog) w 50 3 50 48 i (.slice none 0 0) .i64 .i64 ht Tryz.underlying3 hi hz n (by omega) (by omega) (by omega) (by rw [hby]; omega)
    have hge := grownCap_ge w n 0 48
    have hcm : grownCap w n 0 48 ≤ maxLen := grownCap_le_maxLen w n 0 48 (by unfold maxLen; omega)
    obtain ⟨cp, hcp⟩ : ∃ cp, cp = grownCap w n 0 48 := ⟨_, rfl⟩
    rw [← hcp] at hr hge hcm
    obtain ⟨cur, hcur⟩ : ∃ cur, cur = Builtin.zeroCells (Value.slice none 0 0).cells n ++ Builtin.zeroCells (Value.slice none 0 0).cells (cp - n) := ⟨_, rfl⟩
    have hcs : cur.size = cp * 1 := by
      rw [hcur, Array.size_append, size_zeroCells, size_zeroCells]
      show n * 1 + (cp - n) * 1 = cp * 1
      omega
    rw [← hcur] at hr
    have hrow : Row (w.drew.alloc (.cells cur 48)) (.slice (some ⟨w.heap.size, 0, none⟩) 0 cp) 1 0 [] (some w.heap.size) :=
      ⟨rfl, .inr ⟨w.heap.size, cp, cur, 48, rfl, rfl, Go.heap_alloc_new w.drew _, Nat.zero_le _, hcm, hcs, by simp⟩⟩
    have hown : Own (RS (RS RI)) w.heap.size (w.drew.alloc (.cells cur 48)).heap.size (w.drew.alloc (.cells cur 48)) [.slice (some ⟨w.heap.size, 0, none⟩) 0 cp] [] :=
      Own.mk' (og := some w.heap.size) (F := []) (ds := []) hrow ⟨rfl, rfl⟩ (by simp) (fun b hb => by simp at hb; subst hb; simp)
    have hbel : Below w.heap.size w (w.drew.alloc (.cells cur 48)) := ⟨rfl, rfl, rfl, by simp, fun k hk => Below.heap_alloc w.drew _ k hk⟩
    have HR := Lib.hid hr
    have HO := Lib.hid hown
    have hp : (0 : Int) < (n : Int) := by omega
    have hp2 : ¬ ((n : Int) < 0) := by omega
    unfold maxLen at hcm
    clear hr hown hrow hcp hcur hi hz hsz hby ht hcs
    go_enter Tryz.func159, Tryz.ntmps159
    go_wp2_with (at_builtin; refine StopAt (o := ⟨some 22, _, _, _, _, _⟩) ?_)
    refine Stop.go ?_
    refine Lib.wpList_append_run w rfl _ _ _ _ rfl _ _ rfl rfl _ _ HR.out ?_
    go_wp2_with fail
    go_ret
    exact ⟨_, rfl, HO.out, hbel⟩
theorem a_slicesGrowL (n : Nat) (hn : n ≤ 1000000000) : AFn Tryz.prog 159 [[.raw (.slice none 0 0)], eI n] (· = [.own 1 [] true]) :=
  AFn.of_o (xs := []) (encS encI) (enters_of Tryz.func159 rfl rfl) (fun w A vs ⟨v1, _, e1, h1, v2, _, e2, h2, e3⟩ => by
    subst e3; subst e2; subst e1
    rw [arg_int h2, (rdV_raw.1 h1).1]
    exact c_slicesGrowL n w hn)
def eLLL' (x : List (List Int)) : List D := [.sl 1 (x.map eL)]
def cntL (bs : List (List (List Int))) : Nat := (bs.map List.length).sum
theorem cntL_take_succ (bs : List (List (List Int))) (k : Nat) (h : k < bs.length) : cntL (bs.take (k + 1)) = cntL (bs.take k) + bs[k].length := by
  unfold cntL
  rw [List.take_succ_eq_append_getElem h, List.map_append, List.sum_append]; simp
theorem cntL_flat (bs : List (List (List Int))) : bs.flatten.length = cntL bs := by simp [cntL, List.length_flatten]
theorem cntL_take (bs : List (List (List Int))) (k : Nat) : cntL (bs.take k) ≤ cntL bs := by
  rw [← cntL_flat, ← cntL_flat]
  conv => rhs; rw [← List.take_append_drop k bs]
  rw [List.flatten_append, List.length_append]
  omega
set_option maxHeartbeats 4000000 in
theorem a_slicesConcatL (bs : List (List (List Int))) (hsz : cntL bs ≤ 1000000) (hl : bs.length ≤ 1000000) : AFn Tryz.prog 119 [[.sl 1 (bs.map eLLL')]] (· = [.own 1 (bs.flatten.map eL) false]) := by
  refine AFn.of_runs (cfg_ok 36) Tryz.func119 rfl rfl rfl (by simp only [List.length_cons, List.length_nil]; decide) ?_
  have hres : Tryz.f119.results.toList = [.tmp 2] := rfl
  have hrts : Tryz.f119.resultTypes.toList = [50] := rfl
  simp only [argRegs, argAV1, eL, eI, eLL, eB, Nat.zero_add, Nat.reduceAdd]
  intro M
  refine RunK.of ?_
  repeat' (first | with_reducible (first | refine Q1 ?_ | refine Q2 ?_ | refine Q3 ?_ | refine Q4 ?_ | refine Q5 ?_ | refine Q6 ?_ | refine Q7 ?_ | refine Q8 ?_ | refine Q9 ?_ | refine Qa ?_ | refine Qb ?_ | refine Qc ?_ | refine Qd ?_ | refine Qe ?_ | refine Qf ?_) | ((with_reducible refine Qo ?_ ?_); focus rfl) | ((with_reducible first | refine QT 28 (l := ?_) ?_ ?_ | refine QF 28 (l := ?_) ?_ ?_); rotate_left 1; focus (simp only [Zu, Nat.reduceSub, Nat.reduceBEq]; with_reducible rfl)) | ((with_reducible first | refine QS (cfg_ok 36) Tab.none (s' := ?_) ?_ ?_ | refine QC (b := ?_) ?_ ?_); rotate_left 1; focus ((with_reducible refine QW ?_); simp only [Zg, seval, if_true, if_false, reduceCtorEq, Nat.reduceEqDiff, List.length_map]; with_reducible rfl)))
  refine RunK.loop (β := Nat) (γ := Unit) (fun i => ⟨[(0, .c (.val (.sl 1 (bs.map eLLL')))), (3, .c (.val (.int (cntL (bs.take i) : Nat)))), (9, .c (.val (.sl 1 (bs.map eLLL')))), (10, .c (.val (.int bs.length))), (11, .c (.val (.int i)))], []⟩) (fun i => i ≤ bs.length) (fun i => bs.length - i)
    (fun _ => ⟨[(0, .c (.val (.sl 1 (bs.map eLLL')))), (3, .c (.val (.int (cntL bs : Nat))))], []⟩) (fun _ => True) 0 (Nat.zero_le _) ?_ ?_ ?_
  · (repeat' (first | with_reducible refine Qn | ((with_reducible refine Qr ?_ ?_); focus (first | with_reducible rfl | (simp only [Zz, Nat.reduceBEq, List.take_zero, show cntL [] = 0 from rfl, List.length_map]; done) | rfl)) | ((with_reducible refine Qj (o' := ?_) ?_ ?_ ?_); rotate_left 1; focus rfl) | ((with_reducible refine Qw ?_ ?_); (focus (first | with_reducible rfl | (simp only [Zv, List.take_zero, show cntL [] = 0 from rfl, List.length_map]; done))); focus (first | exact id | exact (fun h => nomatch h) | exact (fun _ => rfl)))))
  · intro i hi
    have hi : i ≤ bs.length := hi
    have hw := w64_succ (n := i) (by omega)
    by_cases h : i < bs.length
    · have i1 : ((i : Int) < (bs.length : Int)) = True := eq_true (by omega)
      have i2 : ((0 : Int) ≤ (i : Int)) = True := eq_true (by omega)
      obtain ⟨f, hf⟩ : ∃ f, f = bs[i] := ⟨_, rfl⟩
      have hg : (bs.map eLLL')[i]? = some [.sl 1 (f.map eL)] := by rw [map_get h, hf]; rfl
      have hst := cntL_take_succ bs i h
      have hle := cntL_take bs (i + 1)
      rw [← hf] at hst
      have hws : w64 ((cntL (bs.take i) : Int) + (f.length : Int)) = ((cntL (bs.take (i + 1)) : Nat) : Int) := by rw [w64_eq (by omega)]; omega
      have j1 : (((cntL (bs.take (i + 1)) : Nat) : Int) < 0) = False := eq_false (by omega)
      repeat' (first | with_reducible (first | refine Q1 ?_ | refine Q2 ?_ | refine Q3 ?_ | refine Q4 ?_ | refine Q5 ?_ | refine Q6 ?_ | refine Q7 ?_ | refine Q8 ?_ | refine Q9 ?_ | refine Qa ?_ | refine Qb ?_ | refine Qc ?_ | refine Qd ?_ | refine Qe ?_ | refine Qf ?_) | ((with_reducible refine Qo ?_ ?_); focus rfl) | ((with_reducible first | refine QT 28 (l := ?_) ?_ ?_ | refine QF 28 (l := ?_) ?_ ?_); rotate_left 1; focus (simp only [Zu, Nat.reduceSub, Nat.reduceBEq]; with_reducible rfl)) | ((with_reducible first | refine QS (cfg_ok 36) Tab.none (s' := ?_) ?_ ?_ | refine QC (b := ?_) ?_ ?_); rotate_left 1; focus ((with_reducible refine QW ?_); simp only [Zg, seval, if_true, if_false, reduceCtorEq, Nat.reduceEqDiff, i1, i2, hg, hw, hws, j1, Int.toNat_natCast, List.length_map]; with_reducible rfl)))
      refine roundK.on (i + 1) ⟨h, by omega⟩ ?_
      (repeat' (first | with_reducible refine Qn | ((with_reducible refine Qr ?_ ?_); focus (first | with_reducible rfl | (simp only [Zz, Nat.reduceBEq]; done) | rfl)) | ((with_reducible refine Qj (o' := ?_) ?_ ?_ ?_); rotate_left 1; focus rfl) | ((with_reducible refine Qw ?_ ?_); (focus (first | with_reducible rfl | (simp only [Zv]; done))); focus (first | exact id | exact (fun h => nomatch h) | exact (fun _ => rfl)))))
    · have i1 : ((i : Int) < (bs.length : Int)) = False := eq_false (by omega)
      obtain rfl : i = bs.length := by omega
      rw [List.take_length]
      repeat' (first | with_reducible (first | refine Q1 ?_ | refine Q2 ?_ | refine Q3 ?_ | refine Q4 ?_ | refine Q5 ?_ | refine Q6 ?_ | refine Q7 ?_ | refine Q8 ?_ | refine Q9 ?_ | refine Qa ?_ | refine Qb ?_ | refine Qc ?_ | refine Qd ?_ | refine Qe ?_ | refine Qf ?_) | ((with_reducible refine Qo ?_ ?_); focus rfl) | ((with_reducible first | refine QT 28 (l := ?_) ?_ ?_ | refine QF 28 (l := ?_) ?_ ?_); rotate_left 1; focus (simp only [Zu, Nat.reduceSub, Nat.reduceBEq]; with_reducible rfl)) | ((with_reducible first | refine QS (cfg_ok 36) Tab.none (s' := ?_) ?_ ?_ | refine QC (b := ?_) ?_ ?_); rotate_left 1; focus ((with_reducible refine QW ?_); simp only [Zg, seval, if_true, if_false, reduceCtorEq, Nat.reduceEqDiff, i1]; with_reducible rfl)))
      refine roundK.out () trivial ?_
      (repeat' (first | with_reducible refine Qn | ((with_reducible refine Qr ?_ ?_); focus (first | with_reducible rfl | (simp only [Zz, Nat.reduceBEq]; done) | rfl)) | ((with_reducible refine Qj (o' := ?_) ?_ ?_ ?_); rotate_left 1; focus rfl) | ((with_reducible refine Qw ?_ ?_); (focus (first | with_reducible rfl | (simp only [Zv]; done))); focus (first | exact id | exact (fun h => nomatch h) | exact (fun _ => rfl)))))
  · rintro _ _
    have hgr := a_slicesGrowL (cntL bs) (by omega)
    repeat' (first | with_reducible (first | refine Q1 ?_ | refine Q2 ?_ | refine Q3 ?_ | refine Q4 ?_ | refine Q5 ?_ | refine Q6 ?_ | refine Q7 ?_ | refine Q8 ?_ | refine Q9 ?_ | refine Qa ?_ | refine Qb ?_ | refine Qc ?_ | refine Qd ?_ | refine Qe ?_ | refine Qf ?_) | ((with_reducible refine Qo ?_ ?_); focus rfl) | ((with_reducible first | refine QT 28 (l := ?_) ?_ ?_ | refine QF 28 (l := ?_) ?_ ?_); rotate_left 1; focus (simp only [Zu, Nat.reduceSub, Nat.reduceBEq]; with_reducible rfl)) | ((with_reducible first | refine QS (cfg_ok 36) Tab.none (s' := ?_) ?_ ?_ | refine QC (b := ?_) ?_ ?_); rotate_left 1; focus ((with_reducible refine QW ?_); simp only [Zg, seval, if_true, if_false, reduceCtorEq, Nat.reduceEqDiff, List.length_map]; with_reducible rfl)))
    refine RunK.regCut (cfg_ok 36) Tab.none 1 (s1 := ?_) ?_ ?_
    rotate_left 1
    focus (refine Work.mk ?_; simp only [Zg, seval, if_true, if_false, reduceCtorEq, Nat.reduceEqDiff]; with_reducible rfl)
    simp only [List.toList_toArray, List.drop_succ_cons, List.drop_zero]
    refine ROps.callNilP (cfg_ok 36) (d := 24) (g := 159) (xs := []) (tx := []) (pre := []) (ys := [.tmp 23]) (ty := [3]) (post := [eI (cntL bs : Nat)]) rfl (by decide) rfl rfl rfl rfl rfl rfl rfl rfl hgr rfl ?_
    refine ROps.opsT (cfg_ok 36) (T := Tab.none) (s' := ?_) ?_ ?_
    rotate_left 1
    focus (simp only [Zg, seval, if_true, if_false, reduceCtorEq, Nat.reduceEqDiff]; with_reducible rfl)
    repeat' (first | with_reducible (first | refine Q1 ?_ | refine Q2 ?_ | refine Q3 ?_ | refine Q4 ?_ | refine Q5 ?_ | refine Q6 ?_ | refine Q7 ?_ | refine Q8 ?_ | refine Q9 ?_ | refine Qa ?_ | refine Qb ?_ | refine Qc ?_ | refine Qd ?_ | refine Qe ?_ | refine Qf ?_) | ((with_reducible refine Qo ?_ ?_); focus rfl) | ((with_reducible first | refine QT 28 (l := ?_) ?_ ?_ | refine QF 28 (l := ?_) ?_ ?_); rotate_left 1; focus (simp only [Zu, Nat.reduceSub, Nat.reduceBEq]; with_reducible rfl)) | ((with_reducible first | refine QS (cfg_ok 36) Tab.none (s' := ?_) ?_ ?_ | refine QC (b := ?_) ?_ ?_); rotate_left 1; focus ((with_reducible refine QW ?_); simp only [Zg, seval, if_true, if_false, reduceCtorEq, Nat.reduceEqDiff, List.length_map]; with_reducible rfl)))
    refine RunK.loop (β := Nat) (γ := Unit) (fun i => ⟨[(6, .c (.own 6 (bs.take i).flatten.length)), (25, .c (.val (.sl 1 (bs.map eLLL')))), (26, .c (.val (.int bs.length))), (27, .c (.val (.int i)))], [(6, .row 1 ((bs.take i).flatten.map eL) false)]⟩) (fun i => i ≤ bs.length) (fun i => bs.length - i)
      (fun _ => ⟨[(6, .c (.own 6 bs.flatten.length))], [(6, .row 1 (bs.flatten.map eL) false)]⟩) (fun _ => True) 0 (Nat.zero_le _) ?_ ?_ ?_
    · (repeat' (first | with_reducible refine Qn | ((with_reducible refine Qr ?_ ?_); focus (first | with_reducible rfl | (simp only [Zz, Nat.reduceBEq, List.take_zero, List.flatten_nil, List.map_nil, List.length_map]; done) | rfl)) | ((with_reducible refine Qj (o' := ?_) ?_ ?_ ?_); rotate_left 1; focus rfl) | ((with_reducible refine Qw ?_ ?_); (focus (first | with_reducible rfl | (simp only [Zv, List.take_zero, List.flatten_nil, List.map_nil, List.length_map]; done))); focus (first | exact id | exact (fun h => nomatch h) | exact (fun _ => rfl)))))
    · intro i hi
      have hi : i ≤ bs.length := hi
      have hw := w64_succ (n := i) (by omega)
      by_cases h : i < bs.length
      · have i1 : ((i : Int) < (bs.length : Int)) = True := eq_true (by omega)
        have i2 : ((0 : Int) ≤ (i : Int)) = True := eq_true (by omega)
        obtain ⟨f, hf⟩ : ∃ f, f = bs[i] := ⟨_, rfl⟩
        have hg : (bs.map eLLL')[i]? = some [.sl 1 (f.map eL)] := by rw [map_get h, hf]; rfl
        have hst := cntL_take_succ bs i h
        have hle := cntL_take bs (i + 1)
        rw [← hf] at hst
        have hfl : (bs.take (i + 1)).flatten = (bs.take i).flatten ++ f := by rw [List.take_succ_eq_append_getElem h, List.flatten_append, hf]; simp
        have hcl := cntL_flat (bs.take i)
        have q1 := big_le (n := (bs.take i).flatten.length + f.length) (by omega)
        have q2 := big_mul (n := (bs.take i).flatten.length + f.length) (c := 24) (by omega) (by omega)
        repeat' (first | with_reducible (first | refine Q1 ?_ | refine Q2 ?_ | refine Q3 ?_ | refine Q4 ?_ | refine Q5 ?_ | refine Q6 ?_ | refine Q7 ?_ | refine Q8 ?_ | refine Q9 ?_ | refine Qa ?_ | refine Qb ?_ | refine Qc ?_ | refine Qd ?_ | refine Qe ?_ | refine Qf ?_) | ((with_reducible refine Qo ?_ ?_); focus rfl) | ((with_reducible first | refine QT 28 (l := ?_) ?_ ?_ | refine QF 28 (l := ?_) ?_ ?_); rotate_left 1; focus (simp only [Zu, Nat.reduceSub, Nat.reduceBEq]; with_reducible rfl)) | ((with_reducible first | refine QS (cfg_ok 36) Tab.none (s' := ?_) ?_ ?_ | refine QC (b := ?_) ?_ ?_); rotate_left 1; focus ((with_reducible refine QW ?_); simp only [Zg, seval, if_true, if_false, reduceCtorEq, Nat.reduceEqDiff, i1, i2, hg, hw, q1, q2, Int.toNat_natCast, List.length_map]; with_reducible rfl)))
        refine roundK.on (i + 1) ⟨h, by omega⟩ ?_
        rw [hfl]
        (repeat' (first | with_reducible refine Qn | ((with_reducible refine Qr ?_ ?_); focus (first | with_reducible rfl | (simp only [Zz, Nat.reduceBEq]; done) | rfl)) | ((with_reducible refine Qj (o' := ?_) ?_ ?_ ?_); rotate_left 1; focus rfl) | ((with_reducible refine Qw ?_ ?_); (focus (first | with_reducible rfl | (simp only [Zv]; done))); focus (first | exact id | exact (fun h => nomatch h) | exact (fun _ => rfl)))))
      · have i1 : ((i : Int) < (bs.length : Int)) = False := eq_false (by omega)
        obtain rfl : i = bs.length := by omega
        rw [List.take_length]
        repeat' (first | with_reducible (first | refine Q1 ?_ | refine Q2 ?_ | refine Q3 ?_ | refine Q4 ?_ | refine Q5 ?_ | refine Q6 ?_ | refine Q7 ?_ | refine Q8 ?_ | refine Q9 ?_ | refine Qa ?_ | refine Qb ?_ | refine Qc ?_ | refine Qd ?_ | refine Qe ?_ | refine Qf ?_) | ((with_reducible refine Qo ?_ ?_); focus rfl) | ((with_reducible first | refine QT 28 (l := ?_) ?_ ?_ | refine QF 28 (l := ?_) ?_ ?_); rotate_left 1; focus (simp only [Zu, Nat.reduceSub, Nat.reduceBEq]; with_reducible rfl)) | ((with_reducible first | refine QS (cfg_ok 36) Tab.none (s' := ?_) ?_ ?_ | refine QC (b := ?_) ?_ ?_); rotate_left 1; focus ((with_reducible refine QW ?_); simp only [Zg, seval, if_true, if_false, reduceCtorEq, Nat.reduceEqDiff, i1]; with_reducible rfl)))
        refine roundK.out () trivial ?_
        (repeat' (first | with_reducible refine Qn | ((with_reducible refine Qr ?_ ?_); focus (first | with_reducible rfl | (simp only [Zz, Nat.reduceBEq]; done) | rfl)) | ((with_reducible refine Qj (o' := ?_) ?_ ?_ ?_); rotate_left 1; focus rfl) | ((with_reducible refine Qw ?_ ?_); (focus (first | with_reducible rfl | (simp only [Zv]; done))); focus (first | exact id | exact (fun h => nomatch h) | exact (fun _ => rfl)))))
    · rintro _ _
      repeat' (first | with_reducible (first | refine Q1 ?_ | refine Q2 ?_ | refine Q3 ?_ | refine Q4 ?_ | refine Q5 ?_ | refine Q6 ?_ | refine Q7 ?_ | refine Q8 ?_ | refine Q9 ?_ | refine Qa ?_ | refine Qb ?_ | refine Qc ?_ | refine Qd ?_ | refine Qe ?_ | refine Qf ?_) | ((with_reducible refine Qo ?_ ?_); focus rfl) | ((with_reducible first | refine QT 28 (l := ?_) ?_ ?_ | refine QF 28 (l := ?_) ?_ ?_); rotate_left 1; focus (simp only [Zu, Nat.reduceSub, Nat.reduceBEq]; with_reducible rfl)) | ((with_reducible first | refine QS (cfg_ok 36) Tab.none (s' := ?_) ?_ ?_ | refine QC (b := ?_) ?_ ?_); rotate_left 1; focus ((with_reducible refine QW ?_); simp only [Zg, seval, if_true, if_false, reduceCtorEq, Nat.reduceEqDiff]; with_reducible rfl)))
      (refine Ends.mk (by simp) (rs := ?_) (ks := ?_) hres hrts ?_ ?_ ?_; rotate_left 2; (focus (simp only [Ze, Zg, seval, if_true, if_false, reduceCtorEq, Nat.reduceEqDiff]; with_reducible rfl)); (focus simp); focus (first | with_reducible rfl | (simp only [Zv]; done)))
end Go.Proofs.YtacbkjmkjpjhoaaGreat
namespace Go.Proofs.YtacbkjmkjpjhoaaGreat
open Go.RowKit
theorem degE_last {e : Elt} {c : Int} {f : List (List Int)} (h : e[e.length - 1]? = some (c, f)) : degE e = sumLen f := by
  unfold degE
  rw [List.getLast?_eq_getElem?, h]
theorem a_l06Degree (e : Elt) (hz : szP e) : AFn Tryz.prog 65 [[.sl 2 (e.map ePt)]] (· = [.val (.int (degE e))]) := by
  refine AFn.of_runs (cfg_ok 14) Tryz.func65 rfl rfl rfl (by simp only [List.length_cons, List.length_nil]; decide) ?_
  have hres : Tryz.f65.results.toList = [.tmp 2] := rfl
  have hrts : Tryz.f65.resultTypes.toList = [2] := rfl
  simp only [argRegs, argAV1, eL, eI, eLL, eB, Nat.zero_add, Nat.reduceAdd]
  intro M
  refine RunK.of ?_
  by_cases h0 : e.length = 0
  · have i0 : ((e.length : Int) == 0) = true := by rw [h0]; rfl
    rw [show degE e = -1 by rw [List.eq_nil_of_length_eq_zero h0]; rfl]
    repeat' (first | with_reducible (first | refine Q1 ?_ | refine Q2 ?_ | refine Q3 ?_ | refine Q4 ?_ | refine Q5 ?_ | refine Q6 ?_ | refine Q7 ?_ | refine Q8 ?_ | refine Q9 ?_ | refine Qa ?_ | refine Qb ?_ | refine Qc ?_ | refine Qd ?_ | refine Qe ?_ | refine Qf ?_) | ((with_reducible refine Qo ?_ ?_); focus rfl) | ((with_reducible first | refine QT 3 (l := ?_) ?_ ?_ | refine QF 3 (l := ?_) ?_ ?_); rotate_left 1; focus (simp only [Zu, Nat.reduceSub, Nat.reduceBEq]; with_reducible rfl)) | ((with_reducible first | refine QS (cfg_ok 14) Tab.none (s' := ?_) ?_ ?_ | refine QC (b := ?_) ?_ ?_); rotate_left 1; focus ((with_reducible refine QW ?_); simp only [Zg, seval, if_true, if_false, reduceCtorEq, Nat.reduceEqDiff, i0, List.length_map]; with_reducible rfl)))
    (refine Ends.mk (by simp) (rs := ?_) (ks := ?_) hres hrts ?_ ?_ ?_; rotate_left 2; (focus (simp only [Ze, Zg, seval, if_true, if_false, reduceCtorEq, Nat.reduceEqDiff]; with_reducible rfl)); (focus simp); focus (first | with_reducible rfl | (simp only [Zv]; done)))
  · have i0 : ((e.length : Int) == 0) = false := beq_eq_false_iff_ne.2 (by omega)
    have hln : e.length ≤ 1048576 := by unfold szP at hz; omega
    have hs := hz.at (show e.length - 1 < e.length by omega)
    obtain ⟨c, f, ht⟩ : ∃ c f, (c, f) = e[e.length - 1] := ⟨_, _, rfl⟩
    rw [← ht] at hs
    simp only at hs
    have hg : (e.map ePt)[e.length - 1]? = some [.int c, .sl 1 (f.map eL)] := by rw [map_get (by omega), ← ht]; rfl
    have hd := degE_last (e := e) (c := c) (f := f) (by rw [List.getElem?_eq_getElem (by omega), ← ht])
    have hn : nodesB f = sumLen f := nodesB_eq f (by omega)
    have ha := a_l03Nodes f
    simp only [eLL] at ha
    have hw : w64 ((e.length : Int) - 1) = ((e.length - 1 : Nat) : Int) := by rw [w64_eq (by omega)]; omega
    have i1 : ((0 : Int) ≤ ((e.length - 1 : Nat) : Int)) = True := eq_true (by omega)
    have i2 : (((e.length - 1 : Nat) : Int) < (e.length : Int)) = True := eq_true (by omega)
    rw [hd, ← hn]
    repeat' (first | with_reducible (first | refine Q1 ?_ | refine Q2 ?_ | refine Q3 ?_ | refine Q4 ?_ | refine Q5 ?_ | refine Q6 ?_ | refine Q7 ?_ | refine Q8 ?_ | refine Q9 ?_ | refine Qa ?_ | refine Qb ?_ | refine Qc ?_ | refine Qd ?_ | refine Qe ?_ | refine Qf ?_) | ((with_reducible refine Qo ?_ ?_); focus rfl) | ((with_reducible first | refine QT 3 (l := ?_) ?_ ?_ | refine QF 3 (l := ?_) ?_ ?_); rotate_left 1; focus (simp only [Zu, Nat.reduceSub, Nat.reduceBEq]; with_reducible rfl)) | ((with_reducible first | refine QS (cfg_ok 14) ((Tab.none.at' 98 ha)) (s' := ?_) ?_ ?_ | refine QC (b := ?_) ?_ ?_); rotate_left 1; focus ((with_reducible refine QW ?_); simp only [Zg, seval, if_true, if_false, reduceCtorEq, Nat.reduceEqDiff, i0, i1, i2, hg, hw, Int.toNat_natCast, List.length_map]; with_reducible rfl)))
    (refine Ends.mk (by simp) (rs := ?_) (ks := ?_) hres hrts ?_ ?_ ?_; rotate_left 2; (focus (simp only [Ze, Zg, seval, if_true, if_false, reduceCtorEq, Nat.reduceEqDiff]; with_reducible rfl)); (focus simp); focus (first | with_reducible rfl | (simp only [Zv]; done)))
end Go.Proofs.YtacbkjmkjpjhoaaGreat
