/- Lemmas (15). -/
import Derived.Test.YtacbkjmkjpjhoaaGreatZA5
import Derived.Test.YtacbkjmkjpjhoaaGreatZA8
import Derived.Test.YtacbkjmkjpjhoaaGreatZA9
import Derived.Test.YtacbkjmkjpjhoaaGreatZA10
import Derived.Test.YtacbkjmkjpjhoaaGreatZA11
import Derived.Test.YtacbkjmkjpjhoaaGreatZA12
import Derived.Test.YtacbkjmkjpjhoaaGreatZA13
import Derived.Test.YtacbkjmkjpjhoaaGreatZA14
set_option linter.unusedSimpArgs false
set_option linter.unusedVariables false
namespace Go.Proofs.YtacbkjmkjpjhoaaGreat
open Go.RowKit
theorem prodL_len : ∀ (d e : Elt), (prodL d e).length = d.length * e.length
  | [], e => by simp [prodL]
  | p :: d, e => by
    have := prodL_len d e
    unfold prodL at this ⊢
    rw [List.flatMap_cons, List.length_append, List.length_map, this, List.length_cons, Nat.succ_mul]
    omega
theorem mul_sm {f g : List (List Int)} (hf : f.length ≤ 8 ∧ sumLen f ≤ 8) (hg : g.length ≤ 8 ∧ sumLen g ≤ 8) : SmF (mulF f g) := by
  refine ⟨?_, ?_⟩
  · rw [mulF_len]; omega
  · rw [mulF_sum]; omega
theorem tim_ok {d e : Elt} (hd : elB d = true) (he : elB e = true) : ∀ q ∈ prodL d e, (0 ≤ q.1 ∧ q.1 < 10007) ∧ SmF q.2 := fun q hq => by
  unfold prodL at hq
  obtain ⟨p, hp, hq⟩ := List.mem_flatMap.1 hq
  obtain ⟨r, hr, rfl⟩ := List.mem_map.1 hq
  exact ⟨mP_range _, mul_sm ((elB_okE hd).2.2 p hp) ((elB_okE he).2.2 r hr)⟩
theorem timOf_cnt (d e : Elt) : cnt_P (timOf d e).1 ≤ 1048576 := by
  unfold timOf
  split
  · rename_i h
    rw [Bool.and_eq_true] at h
    exact limS_cnt (tim_ok h.1 h.2)
  · simp [cnt_P]
theorem prod_len300 {d e : Elt} (hd : d.length ≤ 300) (he : e.length ≤ 300) : (prodL d e).length ≤ 90000 := by
  rw [prodL_len]
  exact Nat.le_trans (Nat.mul_le_mul hd he) (by decide)
theorem degE_snoc (L : Elt) (p : Int × List (List Int)) : degE (L ++ [p]) = sumLen p.2 := by
  unfold degE
  rw [List.getLast?_eq_getElem?]
  simp
theorem snoc_of {e : Elt} (h : 0 ≤ degE e) : ∃ L p, e = L ++ [p] := by
  rcases List.eq_nil_or_concat e with rfl | ⟨L, p, rfl⟩
  · exact absurd h (by decide)
  · exact ⟨L, p, by simp⟩
theorem tim_far {d e : Elt} (hd : elB d = true) (he : elB e = true) (h0 : 0 ≤ degE d) (h1 : 0 ≤ degE e) (h2 : 8 < degE d + degE e) : limS (sumS cmpF (prodL d e)) = ([], 3) := by
  obtain ⟨L, p, rfl⟩ := snoc_of h0
  obtain ⟨M, q, rfl⟩ := snoc_of h1
  rw [degE_snoc, degE_snoc] at h2
  obtain ⟨_, n1, s1, _⟩ := elB_spec hd
  obtain ⟨_, n2, s2, _⟩ := elB_spec he
  obtain ⟨r, hr, hs⟩ := prod_deg n1 n2 s1 s2
  unfold limS
  rw [if_neg]
  rintro ⟨_, h⟩
  have := h r hr
  omega
theorem degE_bd {e : Elt} (h : elB e = true) : degE e ≤ 8 ∧ -1 ≤ degE e := by
  rcases List.eq_nil_or_concat e with rfl | ⟨L, p, rfl⟩
  · exact ⟨by decide, by decide⟩
  · rw [List.concat_eq_append] at h ⊢
    rw [degE_snoc]
    have := ((elB_okE h).2.2 p (by simp)).2
    omega
set_option maxHeartbeats 4000000 in
theorem a_products (d e : Elt) (hd : ∀ q ∈ d, (0 ≤ q.1 ∧ q.1 < 10007) ∧ q.2.length ≤ 9 ∧ sumLen q.2 ≤ 50) (he : ∀ q ∈ e, (0 ≤ q.1 ∧ q.1 < 10007) ∧ q.2.length ≤ 9 ∧ sumLen q.2 ≤ 50) (hl : d.length ≤ 300) (hl2 : e.length ≤ 300) :
    AFn Tryz.prog 67 [[.sl 2 (d.map ePt)], [.sl 2 (e.map ePt)]] (· = [.own 2 ((sumS cmpF (prodL d e)).map ePt) true]) := by
  have hpl : ∀ i, (prodL (d.take i) e).length ≤ 90000 := fun i => prod_len300 (by rw [List.length_take]; omega) hl2
  refine AFn.of_runs (cfg_ok 44) Tryz.func67 rfl rfl rfl (by simp only [List.length_cons, List.length_nil]; decide) ?_
  have hres : Tryz.f67.results.toList = [.tmp 4] := rfl
  have hrts : Tryz.f67.resultTypes.toList = [24] := rfl
  simp only [argRegs, argAV1, eL, eI, eLL, eB, Nat.zero_add, Nat.reduceAdd]
  intro M
  refine RunK.of ?_
  repeat' (first | with_reducible (first | refine Q1 ?_ | refine Q2 ?_ | refine Q3 ?_ | refine Q4 ?_ | refine Q5 ?_ | refine Q6 ?_ | refine Q7 ?_ | refine Q8 ?_ | refine Q9 ?_ | refine Qa ?_ | refine Qb ?_ | refine Qc ?_ | refine Qd ?_ | refine Qe ?_ | refine Qf ?_) | ((with_reducible refine Qo ?_ ?_); focus rfl) | ((with_reducible first | refine QT 20 (l := ?_) ?_ ?_ | refine QF 20 (l := ?_) ?_ ?_); rotate_left 1; focus (simp only [Zu, Nat.reduceSub, Nat.reduceBEq]; with_reducible rfl)) | ((with_reducible first | refine QS (cfg_ok 44) Tab.none (s' := ?_) ?_ ?_ | refine QC (b := ?_) ?_ ?_); rotate_left 1; focus ((with_reducible refine QW ?_); simp only [Zg, seval, if_true, if_false, reduceCtorEq, Nat.reduceEqDiff]; with_reducible rfl)) | ((with_reducible refine QD (cfg_ok 44) Tab.none mixed_ok (tr := ?_) (s' := ?_) ?_ ?_ ?_); rotate_left 2; (focus ((with_reducible refine QW ?_); simp only [Zg, Zd, seval, if_true, if_false, reduceCtorEq, Nat.reduceEqDiff]; with_reducible rfl)); focus ((with_reducible refine QK ?_); simp only [Zk]; kernel_rfl)))
  refine RunK.loop (β := Nat) (γ := Unit) (fun i => ⟨[(1, .c (.val (.sl 2 (e.map ePt)))), (5, .c (.own 5 (prodL (d.take i) e).length)), (11, .c (.val (.sl 2 (d.map ePt)))), (12, .c (.val (.int d.length))), (13, .c (.val (.int i)))], [(5, .row 2 ((prodL (d.take i) e).map ePt) false)]⟩) (fun i => i ≤ d.length) (fun i => d.length - i)
    (fun _ => ⟨[(5, .c (.own 5 (prodL d e).length))], [(5, .row 2 ((prodL d e).map ePt) false)]⟩) (fun _ => True) 0 (Nat.zero_le _) ?_ ?_ ?_
  · (repeat' (first | with_reducible refine Qn | ((with_reducible refine Qr ?_ ?_); focus (first | with_reducible rfl | (simp only [Zz, Nat.reduceBEq, List.take_zero, show prodL [] e = [] from rfl, List.map_nil, List.length_map]; done) | rfl)) | ((with_reducible refine Qj (o' := ?_) ?_ ?_ ?_); rotate_left 1; focus rfl) | ((with_reducible refine Qw ?_ ?_); (focus (first | with_reducible rfl | (simp only [Zv, List.take_zero, show prodL [] e = [] from rfl, List.map_nil, List.length_map]; done))); focus (first | exact id | exact (fun h => nomatch h) | exact (fun _ => rfl)))))
  · intro i hi
    have hi : i ≤ d.length := hi
    have hw := w64_succ (n := i) (by omega)
    by_cases h : i < d.length
    · have i1 : ((i : Int) < (d.length : Int)) = True := eq_true (by omega)
      have i2 : ((0 : Int) ≤ (i : Int)) = True := eq_true (by omega)
      obtain ⟨z, hz⟩ : ∃ z, z = d[i] := ⟨_, rfl⟩
      obtain ⟨hz1, hz2, hz3⟩ := hd d[i] (List.getElem_mem _)
      have hg : (d.map ePt)[i]? = some [.int z.1, .sl 1 (z.2.map eL)] := by rw [map_get h, hz]; rfl
      rw [← hz] at hz1 hz2 hz3
      have htk : prodL (d.take (i + 1)) e = prodL (d.take i) e ++ e.map fun q => (mP (z.1 * q.1), mulF z.2 q.2) := by rw [hz, List.take_succ_eq_append_getElem h, prodL_snoc]
      have hR := hpl i
      obtain ⟨R, hRe⟩ : ∃ R, R = prodL (d.take i) e := ⟨_, rfl⟩
      rw [← hRe] at hR htk ⊢
      have hle : (d.map ePt).length = d.length := List.length_map _
      repeat' (first | with_reducible (first | refine Q1 ?_ | refine Q2 ?_ | refine Q3 ?_ | refine Q4 ?_ | refine Q5 ?_ | refine Q6 ?_ | refine Q7 ?_ | refine Q8 ?_ | refine Q9 ?_ | refine Qa ?_ | refine Qb ?_ | refine Qc ?_ | refine Qd ?_ | refine Qe ?_ | refine Qf ?_) | ((with_reducible refine Qo ?_ ?_); focus rfl) | ((with_reducible first | refine QT 20 (l := ?_) ?_ ?_ | refine QF 20 (l := ?_) ?_ ?_); rotate_left 1; focus (simp only [Zu, Nat.reduceSub, Nat.reduceBEq]; with_reducible rfl)) | ((with_reducible first | refine QS (cfg_ok 44) Tab.none (s' := ?_) ?_ ?_ | refine QC (b := ?_) ?_ ?_); rotate_left 1; focus ((with_reducible refine QW ?_); simp only [Zg, seval, if_true, if_false, reduceCtorEq, Nat.reduceEqDiff, i1, i2, hg, hle, Int.toNat_natCast]; with_reducible rfl)) | ((with_reducible refine QD (cfg_ok 44) Tab.none mixed_ok (tr := ?_) (s' := ?_) ?_ ?_ ?_); rotate_left 2; (focus ((with_reducible refine QW ?_); simp only [Zg, Zd, seval, if_true, if_false, reduceCtorEq, Nat.reduceEqDiff, i1, i2, hg, hle, Int.toNat_natCast]; with_reducible rfl)); focus ((with_reducible refine QK ?_); simp only [Zk]; kernel_rfl)))
      refine RunK.loop (β := Nat) (γ := Unit) (fun j => ⟨[(1, .c (.val (.sl 2 (e.map ePt)))), (5, .c (.own 5 (R ++ (e.take j).map fun q => (mP (z.1 * q.1), mulF z.2 q.2)).length)), (7, .optr 7 0 0), (11, .c (.val (.sl 2 (d.map ePt)))), (12, .c (.val (.int d.length))), (13, .c (.val (.int i))), (17, .c (.val (.sl 2 (e.map ePt)))), (18, .c (.val (.int e.length))), (19, .c (.val (.int j)))],
          [(5, .row 2 ((R ++ (e.take j).map fun q => (mP (z.1 * q.1), mulF z.2 q.2)).map ePt) false), (7, .row 2 [[.int z.1, .sl 1 (z.2.map eL)]] false)]⟩) (fun j => j ≤ e.length) (fun j => e.length - j)
        (fun _ => ⟨[(1, .c (.val (.sl 2 (e.map ePt)))), (5, .c (.own 5 (R ++ e.map fun q => (mP (z.1 * q.1), mulF z.2 q.2)).length)), (11, .c (.val (.sl 2 (d.map ePt)))), (12, .c (.val (.int d.length))), (13, .c (.val (.int i)))], [(5, .row 2 ((R ++ e.map fun q => (mP (z.1 * q.1), mulF z.2 q.2)).map ePt) false)]⟩) (fun _ => True) 0 (Nat.zero_le _) ?_ ?_ ?_
      · (repeat' (first | with_reducible refine Qn | ((with_reducible refine Qr ?_ ?_); focus (first | with_reducible rfl | (simp only [Zz, Nat.reduceBEq, List.take_zero, List.map_nil, List.append_nil, List.length_map]; done) | rfl)) | ((with_reducible refine Qj (o' := ?_) ?_ ?_ ?_); rotate_left 1; focus rfl) | ((with_reducible refine Qw ?_ ?_); (focus (first | with_reducible rfl | (simp only [Zv, List.take_zero, List.map_nil, List.append_nil, List.length_map]; done))); focus (first | exact id | exact (fun h => nomatch h) | exact (fun _ => rfl)))))
      · intro j hj
        have hj : j ≤ e.length := hj
        have hwj := w64_succ (n := j) (by omega)
        by_cases g : j < e.length
        · have j1 : ((j : Int) < (e.length : Int)) = True := eq_true (by omega)
          have j2 : ((0 : Int) ≤ (j : Int)) = True := eq_true (by omega)
          obtain ⟨y, hy⟩ : ∃ y, y = e[j] := ⟨_, rfl⟩
          obtain ⟨hy1, hy2, hy3⟩ := he e[j] (List.getElem_mem _)
          have hgj : (e.map ePt)[j]? = some [.int y.1, .sl 1 (y.2.map eL)] := by rw [map_get g, hy]; rfl
          rw [← hy] at hy1 hy2 hy3
          have hej : (e.map ePt).length = e.length := List.length_map _
          have hb := small_mul hz1 hy1
          have hwm := w64_eq (n := z.1 * y.1) (by omega)
          have hc := AFn.val1 (a_slicesConcatL [z.2, y.2] (by simp [cntL]; omega) (by simp))
          have ho := AFn.valT (a_forestOf (z.2 ++ y.2) (by rw [List.length_append]; omega) (by rw [sumLen_append]; omega))
          simp only [eLLL', eLL, List.map_cons, List.map_nil, List.flatten_cons, List.flatten_nil, List.append_nil] at hc ho
          have hmf : mulF z.2 y.2 = forest (z.2 ++ y.2) := rfl
          have htj : (R ++ (e.take (j + 1)).map fun q => (mP (z.1 * q.1), mulF z.2 q.2)) = (R ++ (e.take j).map fun q => (mP (z.1 * q.1), mulF z.2 q.2)) ++ [(mP (z.1 * y.1), mulF z.2 y.2)] := by rw [hy, List.take_succ_eq_append_getElem g, List.map_append, List.append_assoc]; rfl
          have hKl : (R ++ (e.take j).map fun q => (mP (z.1 * q.1), mulF z.2 q.2)).length ≤ 100000 := by rw [List.length_append, List.length_map, List.length_take]; omega
          obtain ⟨K, hK⟩ : ∃ K, K = R ++ (e.take j).map fun q => (mP (z.1 * q.1), mulF z.2 q.2) := ⟨_, rfl⟩
          rw [← hK] at hKl htj ⊢
          have hlt : (K.map ePt).length = K.length := List.length_map _
          have q1 := big_le (n := K.length + 1) (by omega)
          have q2 := big_mul (n := K.length + 1) (c := 32) (by omega) (by omega)
          repeat' (first | with_reducible (first | refine Q1 ?_ | refine Q2 ?_ | refine Q3 ?_ | refine Q4 ?_ | refine Q5 ?_ | refine Q6 ?_ | refine Q7 ?_ | refine Q8 ?_ | refine Q9 ?_ | refine Qa ?_ | refine Qb ?_ | refine Qc ?_ | refine Qd ?_ | refine Qe ?_ | refine Qf ?_) | ((with_reducible refine Qo ?_ ?_); focus rfl) | ((with_reducible first | refine QT 20 (l := ?_) ?_ ?_ | refine QF 20 (l := ?_) ?_ ?_); rotate_left 1; focus (simp only [Zu, Nat.reduceSub, Nat.reduceBEq]; with_reducible rfl)) | ((with_reducible first | refine QS (cfg_ok 44) Tab.none (s' := ?_) ?_ ?_ | refine QC (b := ?_) ?_ ?_); rotate_left 1; focus ((with_reducible refine QW ?_); simp only [Zg, seval, if_true, if_false, reduceCtorEq, Nat.reduceEqDiff, j1, j2, hgj, hwj, hlt, hej, Int.toNat_natCast]; with_reducible rfl)) | ((with_reducible refine QD (cfg_ok 44) Tab.none mixed_ok (tr := ?_) (s' := ?_) ?_ ?_ ?_); rotate_left 2; (focus ((with_reducible refine QW ?_); simp only [Zg, Zd, seval, if_true, if_false, reduceCtorEq, Nat.reduceEqDiff, j1, j2, hgj, hwj, hlt, hej, Int.toNat_natCast]; with_reducible rfl)); focus ((with_reducible refine QK ?_); simp only [Zk]; kernel_rfl)))
          (((with_reducible refine RunK.wFz (cfg_ok 44) ((TSm.at' 119 hc).at' 91 ho) mixed_ok [34] (tr := ?_) (s1 := ?_) (rest := ?_) ?_ ?_ ?_); rotate_left 3; (focus ((with_reducible refine QW ?_); simp only [Zg, Zd, seval, if_true, if_false, reduceCtorEq, Nat.reduceEqDiff, drunF, devalF, devalB, dregF_mk, List.contains_cons, List.contains_nil, TSm, hwm, q1, q2, hlt]; with_reducible rfl)); focus ((with_reducible refine QK ?_); simp only [Zk]; kernel_rfl)); (refine ROps.opsT (cfg_ok 44) (T := ((TSm.at' 119 hc).at' 91 ho)) (s' := ?_) ?_ ?_; rotate_left 1; focus (simp only [Zg, seval, if_true, if_false, reduceCtorEq, Nat.reduceEqDiff, TSm, hwm, q1, q2, hlt]; with_reducible rfl)))
          repeat' (first | with_reducible (first | refine Q1 ?_ | refine Q2 ?_ | refine Q3 ?_ | refine Q4 ?_ | refine Q5 ?_ | refine Q6 ?_ | refine Q7 ?_ | refine Q8 ?_ | refine Q9 ?_ | refine Qa ?_ | refine Qb ?_ | refine Qc ?_ | refine Qd ?_ | refine Qe ?_ | refine Qf ?_) | ((with_reducible refine Qo ?_ ?_); focus rfl) | ((with_reducible first | refine QT 20 (l := ?_) ?_ ?_ | refine QF 20 (l := ?_) ?_ ?_); rotate_left 1; focus (simp only [Zu, Nat.reduceSub, Nat.reduceBEq]; with_reducible rfl)) | ((with_reducible first | refine QS (cfg_ok 44) Tab.none (s' := ?_) ?_ ?_ | refine QC (b := ?_) ?_ ?_); rotate_left 1; focus ((with_reducible refine QW ?_); simp only [Zg, seval, if_true, if_false, reduceCtorEq, Nat.reduceEqDiff, hwj]; with_reducible rfl)) | ((with_reducible refine QD (cfg_ok 44) Tab.none mixed_ok (tr := ?_) (s' := ?_) ?_ ?_ ?_); rotate_left 2; (focus ((with_reducible refine QW ?_); simp only [Zg, Zd, seval, if_true, if_false, reduceCtorEq, Nat.reduceEqDiff, hwj]; with_reducible rfl)); focus ((with_reducible refine QK ?_); simp only [Zk]; kernel_rfl)))
          refine roundK.on (j + 1) ⟨g, by omega⟩ ?_
          rw [htj]
          (repeat' (first | with_reducible refine Qn | ((with_reducible refine Qr ?_ ?_); focus (first | with_reducible rfl | (simp only [Zz, Nat.reduceBEq, ePt, hmf]; done) | rfl)) | ((with_reducible refine Qj (o' := ?_) ?_ ?_ ?_); rotate_left 1; focus rfl) | ((with_reducible refine Qw ?_ ?_); (focus (first | with_reducible rfl | (simp only [Zv, ePt, hmf]; done))); focus (first | exact id | exact (fun h => nomatch h) | exact (fun _ => rfl)))))
        · have j1 : ((j : Int) < (e.length : Int)) = False := eq_false (by omega)
          obtain rfl : j = e.length := by omega
          rw [List.take_length]
          repeat' (first | with_reducible (first | refine Q1 ?_ | refine Q2 ?_ | refine Q3 ?_ | refine Q4 ?_ | refine Q5 ?_ | refine Q6 ?_ | refine Q7 ?_ | refine Q8 ?_ | refine Q9 ?_ | refine Qa ?_ | refine Qb ?_ | refine Qc ?_ | refine Qd ?_ | refine Qe ?_ | refine Qf ?_) | ((with_reducible refine Qo ?_ ?_); focus rfl) | ((with_reducible first | refine QT 20 (l := ?_) ?_ ?_ | refine QF 20 (l := ?_) ?_ ?_); rotate_left 1; focus (simp only [Zu, Nat.reduceSub, Nat.reduceBEq]; with_reducible rfl)) | ((with_reducible first | refine QS (cfg_ok 44) Tab.none (s' := ?_) ?_ ?_ | refine QC (b := ?_) ?_ ?_); rotate_left 1; focus ((with_reducible refine QW ?_); simp only [Zg, seval, if_true, if_false, reduceCtorEq, Nat.reduceEqDiff, j1, List.length_map]; with_reducible rfl)) | ((with_reducible refine QD (cfg_ok 44) Tab.none mixed_ok (tr := ?_) (s' := ?_) ?_ ?_ ?_); rotate_left 2; (focus ((with_reducible refine QW ?_); simp only [Zg, Zd, seval, if_true, if_false, reduceCtorEq, Nat.reduceEqDiff, j1, List.length_map]; with_reducible rfl)); focus ((with_reducible refine QK ?_); simp only [Zk]; kernel_rfl)))
          refine roundK.out () trivial ?_
          (repeat' (first | with_reducible refine Qn | ((with_reducible refine Qr ?_ ?_); focus (first | with_reducible rfl | (simp only [Zz, Nat.reduceBEq]; done) | rfl)) | ((with_reducible refine Qj (o' := ?_) ?_ ?_ ?_); rotate_left 1; focus rfl) | ((with_reducible refine Qw ?_ ?_); (focus (first | with_reducible rfl | (simp only [Zv]; done))); focus (first | exact id | exact (fun h => nomatch h) | exact (fun _ => rfl)))))
      · rintro _ _
        repeat' (first | with_reducible (first | refine Q1 ?_ | refine Q2 ?_ | refine Q3 ?_ | refine Q4 ?_ | refine Q5 ?_ | refine Q6 ?_ | refine Q7 ?_ | refine Q8 ?_ | refine Q9 ?_ | refine Qa ?_ | refine Qb ?_ | refine Qc ?_ | refine Qd ?_ | refine Qe ?_ | refine Qf ?_) | ((with_reducible refine Qo ?_ ?_); focus rfl) | ((with_reducible first | refine QT 20 (l := ?_) ?_ ?_ | refine QF 20 (l := ?_) ?_ ?_); rotate_left 1; focus (simp only [Zu, Nat.reduceSub, Nat.reduceBEq]; with_reducible rfl)) | ((with_reducible first | refine QS (cfg_ok 44) Tab.none (s' := ?_) ?_ ?_ | refine QC (b := ?_) ?_ ?_); rotate_left 1; focus ((with_reducible refine QW ?_); simp only [Zg, seval, if_true, if_false, reduceCtorEq, Nat.reduceEqDiff, hw]; with_reducible rfl)) | ((with_reducible refine QD (cfg_ok 44) Tab.none mixed_ok (tr := ?_) (s' := ?_) ?_ ?_ ?_); rotate_left 2; (focus ((with_reducible refine QW ?_); simp only [Zg, Zd, seval, if_true, if_false, reduceCtorEq, Nat.reduceEqDiff, hw]; with_reducible rfl)); focus ((with_reducible refine QK ?_); simp only [Zk]; kernel_rfl)))
        refine roundK.on (i + 1) ⟨h, by omega⟩ ?_
        rw [htk]
        (repeat' (first | with_reducible refine Qn | ((with_reducible refine Qr ?_ ?_); focus (first | with_reducible rfl | (simp only [Zz, Nat.reduceBEq]; done) | rfl)) | ((with_reducible refine Qj (o' := ?_) ?_ ?_ ?_); rotate_left 1; focus rfl) | ((with_reducible refine Qw ?_ ?_); (focus (first | with_reducible rfl | (simp only [Zv]; done))); focus (first | exact id | exact (fun h => nomatch h) | exact (fun _ => rfl)))))
    · have i1 : ((i : Int) < (d.length : Int)) = False := eq_false (by omega)
      obtain rfl : i = d.length := by omega
      rw [List.take_length]
      repeat' (first | with_reducible (first | refine Q1 ?_ | refine Q2 ?_ | refine Q3 ?_ | refine Q4 ?_ | refine Q5 ?_ | refine Q6 ?_ | refine Q7 ?_ | refine Q8 ?_ | refine Q9 ?_ | refine Qa ?_ | refine Qb ?_ | refine Qc ?_ | refine Qd ?_ | refine Qe ?_ | refine Qf ?_) | ((with_reducible refine Qo ?_ ?_); focus rfl) | ((with_reducible first | refine QT 20 (l := ?_) ?_ ?_ | refine QF 20 (l := ?_) ?_ ?_); rotate_left 1; focus (simp only [Zu, Nat.reduceSub, Nat.reduceBEq]; with_reducible rfl)) | ((with_reducible first | refine QS (cfg_ok 44) Tab.none (s' := ?_) ?_ ?_ | refine QC (b := ?_) ?_ ?_); rotate_left 1; focus ((with_reducible refine QW ?_); simp only [Zg, seval, if_true, if_false, reduceCtorEq, Nat.reduceEqDiff, i1, List.length_map]; with_reducible rfl)) | ((with_reducible refine QD (cfg_ok 44) Tab.none mixed_ok (tr := ?_) (s' := ?_) ?_ ?_ ?_); rotate_left 2; (focus ((with_reducible refine QW ?_); simp only [Zg, Zd, seval, if_true, if_false, reduceCtorEq, Nat.reduceEqDiff, i1, List.length_map]; with_reducible rfl)); focus ((with_reducible refine QK ?_); simp only [Zk]; kernel_rfl)))
      refine roundK.out () trivial ?_
      (repeat' (first | with_reducible refine Qn | ((with_reducible refine Qr ?_ ?_); focus (first | with_reducible rfl | (simp only [Zz, Nat.reduceBEq]; done) | rfl)) | ((with_reducible refine Qj (o' := ?_) ?_ ?_ ?_); rotate_left 1; focus rfl) | ((with_reducible refine Qw ?_ ?_); (focus (first | with_reducible rfl | (simp only [Zv]; done))); focus (first | exact id | exact (fun h => nomatch h) | exact (fun _ => rfl)))))
  · rintro _ _
    have hp : ∀ z ∈ prodL d e, (0 ≤ z.1 ∧ z.1 < 10007) ∧ z.2.length ≤ 19 ∧ sumLen z.2 ≤ 1000 := fun z hz => by
      unfold prodL at hz
      obtain ⟨p, hp, hz⟩ := List.mem_flatMap.1 hz
      obtain ⟨r, hr, rfl⟩ := List.mem_map.1 hz
      have h1 := (hd p hp).2
      have h2 := (he r hr).2
      refine ⟨mP_range _, ?_, ?_⟩
      · simp only; rw [mulF_len]; omega
      · simp only; rw [mulF_sum]; omega
    have h4 := a_summed (prodL d e) (by have := prod_len300 hl hl2; omega) (fun z hz' => ⟨(hp z hz').1, by have := (hp z hz').2.1; omega, by have := (hp z hz').2.2; omega⟩)
    repeat' (first | with_reducible (first | refine Q1 ?_ | refine Q2 ?_ | refine Q3 ?_ | refine Q4 ?_ | refine Q5 ?_ | refine Q6 ?_ | refine Q7 ?_ | refine Q8 ?_ | refine Q9 ?_ | refine Qa ?_ | refine Qb ?_ | refine Qc ?_ | refine Qd ?_ | refine Qe ?_ | refine Qf ?_) | ((with_reducible refine Qo ?_ ?_); focus rfl) | ((with_reducible first | refine QT 20 (l := ?_) ?_ ?_ | refine QF 20 (l := ?_) ?_ ?_); rotate_left 1; focus (simp only [Zu, Nat.reduceSub, Nat.reduceBEq]; with_reducible rfl)) | ((with_reducible first | refine QS (cfg_ok 44) (Tab.none.at' 54 h4) (s' := ?_) ?_ ?_ | refine QC (b := ?_) ?_ ?_); rotate_left 1; focus ((with_reducible refine QW ?_); simp only [Zg, seval, if_true, if_false, reduceCtorEq, Nat.reduceEqDiff]; with_reducible rfl)) | ((with_reducible refine QD (cfg_ok 44) (Tab.none.at' 54 h4) mixed_ok (tr := ?_) (s' := ?_) ?_ ?_ ?_); rotate_left 2; (focus ((with_reducible refine QW ?_); simp only [Zg, Zd, seval, if_true, if_false, reduceCtorEq, Nat.reduceEqDiff]; with_reducible rfl)); focus ((with_reducible refine QK ?_); simp only [Zk]; kernel_rfl)))
    (refine Ends.mk (by simp) (rs := ?_) (ks := ?_) hres hrts ?_ ?_ ?_; rotate_left 2; (focus (simp only [Ze, Zg, seval, if_true, if_false, reduceCtorEq, Nat.reduceEqDiff]; with_reducible rfl)); (focus simp); focus (first | with_reducible rfl | (simp only [Zv]; done)))
theorem elB_sm {e : Elt} (h : elB e = true) : ∀ q ∈ e, (0 ≤ q.1 ∧ q.1 < 10007) ∧ q.2.length ≤ 9 ∧ sumLen q.2 ≤ 50 := fun q hq => by
  obtain ⟨h1, _, h3⟩ := elB_okE h
  have h4 := (h1 q hq).1
  have h5 := h3 q hq
  exact ⟨⟨by omega, h4.2⟩, by omega, by omega⟩
set_option maxHeartbeats 2000000 in
theorem a_impl_TimesElements (d e : Elt) (hzd : szP d) (hz : szP e) : AFn Tryz.prog 24 [[.sl 2 (d.map ePt)], [.sl 2 (e.map ePt)]] (· = [.own 2 ((timOf d e).1.map ePt) true, .val (.int (timOf d e).2)]) := by
  have h1 := a_impl_IsElement d hzd
  have s1 : (d.length + szN d ≤ 1048576) = True := eq_true hzd
  have s2 : (e.length + szN e ≤ 1048576) = True := eq_true hz
  unfold timOf
  refine AFn.of_runs (cfg_ok 20) Tryz.func24 rfl rfl rfl (by simp only [List.length_cons, List.length_nil]; decide) ?_
  have hres : Tryz.f24.results.toList = [.tmp 4, .tmp 5] := rfl
  have hrts : Tryz.f24.resultTypes.toList = [24, 2] := rfl
  simp only [argRegs, argAV1, eL, eI, eLL, eB, Nat.zero_add, Nat.reduceAdd]
  intro M
  refine RunK.of ?_
  by_cases hD : elB d = true
  rotate_left
  · have hD' : elB d = false := by simpa using hD
    rw [if_neg (by rw [hD', Bool.false_and]; decide)]
    rw [hD'] at h1
    repeat' (first | with_reducible (first | refine Q1 ?_ | refine Q2 ?_ | refine Q3 ?_ | refine Q4 ?_ | refine Q5 ?_ | refine Q6 ?_ | refine Q7 ?_ | refine Q8 ?_ | refine Q9 ?_ | refine Qa ?_ | refine Qb ?_ | refine Qc ?_ | refine Qd ?_ | refine Qe ?_ | refine Qf ?_) | ((with_reducible refine Qo ?_ ?_); focus rfl) | ((with_reducible first | refine QT 6 (l := ?_) ?_ ?_ | refine QF 6 (l := ?_) ?_ ?_); rotate_left 1; focus (simp only [Zu, Nat.reduceSub, Nat.reduceBEq]; with_reducible rfl)) | ((with_reducible first | refine QS (cfg_ok 20) (Tab.none.at' 34 h1) (s' := ?_) ?_ ?_ | refine QC (b := ?_) ?_ ?_); rotate_left 1; focus ((with_reducible refine QW ?_); simp only [Zg, seval, if_true, if_false, reduceCtorEq, Nat.reduceEqDiff]; with_reducible rfl)))
    (refine Ends.mk (by simp) (rs := ?_) (ks := ?_) hres hrts ?_ ?_ ?_; rotate_left 2; (focus (simp only [Ze, Zg, seval, if_true, if_false, reduceCtorEq, Nat.reduceEqDiff]; with_reducible rfl)); (focus simp); focus (first | with_reducible rfl | (simp only [Zv]; done)))
  rw [hD] at h1
  by_cases hE : elB e = true
  rotate_left
  · have hE' : elB e = false := by simpa using hE
    rw [if_neg (by rw [hE', Bool.and_false]; decide)]
    repeat' (first | with_reducible (first | refine Q1 ?_ | refine Q2 ?_ | refine Q3 ?_ | refine Q4 ?_ | refine Q5 ?_ | refine Q6 ?_ | refine Q7 ?_ | refine Q8 ?_ | refine Q9 ?_ | refine Qa ?_ | refine Qb ?_ | refine Qc ?_ | refine Qd ?_ | refine Qe ?_ | refine Qf ?_) | ((with_reducible refine Qo ?_ ?_); focus rfl) | ((with_reducible first | refine QT 6 (l := ?_) ?_ ?_ | refine QF 6 (l := ?_) ?_ ?_); rotate_left 1; focus (simp only [Zu, Nat.reduceSub, Nat.reduceBEq]; with_reducible rfl)) | ((with_reducible first | refine QS (cfg_ok 20) TEA (s' := ?_) ?_ ?_ | refine QC (b := ?_) ?_ ?_); rotate_left 1; focus ((with_reducible refine QW ?_); simp only [Zg, seval, if_true, if_false, reduceCtorEq, Nat.reduceEqDiff, TEA, TEA, codPts_d, s1, s2, hD, hE']; with_reducible rfl)))
    (refine Ends.mk (by simp) (rs := ?_) (ks := ?_) hres hrts ?_ ?_ ?_; rotate_left 2; (focus (simp only [Ze, Zg, seval, if_true, if_false, reduceCtorEq, Nat.reduceEqDiff]; with_reducible rfl)); (focus simp); focus (first | with_reducible rfl | (simp only [Zv]; done)))
  rw [if_pos (by rw [hD, hE]; rfl)]
  have hld := (elB_okE hD).2.1
  have hle := (elB_okE hE).2.1
  have hc := a_products d e (elB_sm hD) (elB_sm hE) hld hle
  have hok := tim_ok hD hE
  have hsl := addS_len (prodL d e) []
  simp only [List.length_nil] at hsl
  have hpl := prod_len300 hld hle
  have h4 := a_limited (sumS cmpF (prodL d e)) (by show (addS cmpF [] _).length ≤ _; omega) (fun q hq => by
    have := addS_okE OkE.nil hok q hq
    exact ⟨⟨by have := this.1; omega, this.1.2⟩, this.2⟩)
  rw [sumS_self cmpF_cmp (sumS_nf cmpF_cmp (fun q hq => (hok q hq).1))] at h4
  repeat' (first | with_reducible (first | refine Q1 ?_ | refine Q2 ?_ | refine Q3 ?_ | refine Q4 ?_ | refine Q5 ?_ | refine Q6 ?_ | refine Q7 ?_ | refine Q8 ?_ | refine Q9 ?_ | refine Qa ?_ | refine Qb ?_ | refine Qc ?_ | refine Qd ?_ | refine Qe ?_ | refine Qf ?_) | ((with_reducible refine Qo ?_ ?_); focus rfl) | ((with_reducible first | refine QT 6 (l := ?_) ?_ ?_ | refine QF 6 (l := ?_) ?_ ?_); rotate_left 1; focus (simp only [Zu, Nat.reduceSub, Nat.reduceBEq]; with_reducible rfl)) | ((with_reducible first | refine QS (cfg_ok 20) ((TEA.at' 67 hc).at' 63 h4) (s' := ?_) ?_ ?_ | refine QC (b := ?_) ?_ ?_); rotate_left 1; focus ((with_reducible refine QW ?_); simp only [Zg, seval, if_true, if_false, reduceCtorEq, Nat.reduceEqDiff, TEA, codPts_d, s1, s2, hD, hE]; with_reducible rfl)))
  (refine Ends.mk (by simp) (rs := ?_) (ks := ?_) hres hrts ?_ ?_ ?_; rotate_left 2; (focus (simp only [Ze, Zg, seval, if_true, if_false, reduceCtorEq, Nat.reduceEqDiff]; with_reducible rfl)); (focus simp); focus (first | with_reducible rfl | (simp only [Zv]; done)))
set_option maxHeartbeats 4000000 in
theorem a_l06Times (d e : Elt) (hd : ∀ q ∈ d, (0 ≤ q.1 ∧ q.1 < 10007) ∧ q.2.length ≤ 9 ∧ sumLen q.2 ≤ 50) (he : ∀ q ∈ e, (0 ≤ q.1 ∧ q.1 < 10007) ∧ q.2.length ≤ 9 ∧ sumLen q.2 ≤ 50) (hl : d.length ≤ 300) (hl2 : e.length ≤ 300) :
    AFn Tryz.prog 66 [[.sl 2 (d.map ePt)], [.sl 2 (e.map ePt)]] (· = [.val (.sl 2 ((sumS cmpF (prodL d e)).map ePt))]) := by
  have hpl : ∀ i, (prodL (d.take i) e).length ≤ 90000 := fun i => prod_len300 (by rw [List.length_take]; omega) hl2
  have hok : ∀ i, ∀ q ∈ prodL (d.take i) e, (0 ≤ q.1 ∧ q.1 < 10007) ∧ SmF q.2 := fun i q hq => by
    unfold prodL at hq
    obtain ⟨p, hp, hq⟩ := List.mem_flatMap.1 hq
    obtain ⟨r, hr, rfl⟩ := List.mem_map.1 hq
    have h1 := (hd p (List.mem_of_mem_take hp)).2
    have h2 := (he r hr).2
    refine ⟨mP_range _, ?_, ?_⟩
    · simp only; rw [mulF_len]; omega
    · simp only; rw [mulF_sum]; omega
  refine AFn.of_runs (cfg_ok 46) Tryz.func66 rfl rfl rfl (by simp only [List.length_cons, List.length_nil]; decide) ?_
  have hres : Tryz.f66.results.toList = [.tmp 4] := rfl
  have hrts : Tryz.f66.resultTypes.toList = [24] := rfl
  simp only [argRegs, argAV1, eL, eI, eLL, eB, Nat.zero_add, Nat.reduceAdd]
  intro M
  refine RunK.of ?_
  repeat' (first | with_reducible (first | refine Q1 ?_ | refine Q2 ?_ | refine Q3 ?_ | refine Q4 ?_ | refine Q5 ?_ | refine Q6 ?_ | refine Q7 ?_ | refine Q8 ?_ | refine Q9 ?_ | refine Qa ?_ | refine Qb ?_ | refine Qc ?_ | refine Qd ?_ | refine Qe ?_ | refine Qf ?_) | ((with_reducible refine Qo ?_ ?_); focus rfl) | ((with_reducible first | refine QT 8 (l := ?_) ?_ ?_ | refine QF 8 (l := ?_) ?_ ?_); rotate_left 1; focus (simp only [Zu, Nat.reduceSub, Nat.reduceBEq]; with_reducible rfl)) | ((with_reducible first | refine QS (cfg_ok 46) Tab.none (s' := ?_) ?_ ?_ | refine QC (b := ?_) ?_ ?_); rotate_left 1; focus ((with_reducible refine QW ?_); simp only [Zg, seval, if_true, if_false, reduceCtorEq, Nat.reduceEqDiff]; with_reducible rfl)) | ((with_reducible refine QD (cfg_ok 46) Tab.none mixed_ok (tr := ?_) (s' := ?_) ?_ ?_ ?_); rotate_left 2; (focus ((with_reducible refine QW ?_); simp only [Zg, Zd, seval, if_true, if_false, reduceCtorEq, Nat.reduceEqDiff]; with_reducible rfl)); focus ((with_reducible refine QK ?_); simp only [Zk]; kernel_rfl)))
  refine RunK.frz 5 ?_
  refine RunK.fits (s0 := ⟨[(0, .c (.val (.sl 2 (d.map ePt)))), (1, .c (.val (.sl 2 (e.map ePt)))), (5, .c (.val (.sl 2 []))), (6, .c (.val (.int 0)))], []⟩) ?_ ?_
  · (repeat' (first | with_reducible refine Qn | ((with_reducible refine Qr ?_ ?_); focus (first | with_reducible rfl | (simp only [Zz, Nat.reduceBEq, St.frz, frzR, frzH, look, AV.frz, AC.frz, drop]; done) | rfl)) | ((with_reducible refine Qj (o' := ?_) ?_ ?_ ?_); rotate_left 1; focus rfl) | ((with_reducible refine Qw ?_ ?_); (focus (first | with_reducible rfl | (simp only [Zv, St.frz, frzR, frzH, look, AV.frz, AC.frz, drop]; done))); focus (first | exact id | exact (fun h => nomatch h) | exact (fun _ => rfl)))))
  refine RunK.loop (β := Nat) (γ := Unit) (fun i => ⟨[(0, .c (.val (.sl 2 (d.map ePt)))), (1, .c (.val (.sl 2 (e.map ePt)))), (5, .c (.val (.sl 2 ((sumS cmpF (prodL (d.take i) e)).map ePt)))), (6, .c (.val (.int i)))], []⟩) (fun i => i ≤ d.length) (fun i => d.length - i)
    (fun _ => ⟨[(5, .c (.val (.sl 2 ((sumS cmpF (prodL d e)).map ePt))))], []⟩) (fun _ => True) 0 (Nat.zero_le _) ?_ ?_ ?_
  · (repeat' (first | with_reducible refine Qn | ((with_reducible refine Qr ?_ ?_); focus (first | with_reducible rfl | (simp only [Zz, Nat.reduceBEq, List.take_zero, show prodL [] e = [] from rfl, show sumS cmpF [] = [] from rfl, List.map_nil, Int.natCast_zero]; done) | rfl)) | ((with_reducible refine Qj (o' := ?_) ?_ ?_ ?_); rotate_left 1; focus rfl) | ((with_reducible refine Qw ?_ ?_); (focus (first | with_reducible rfl | (simp only [Zv, List.take_zero, show prodL [] e = [] from rfl, show sumS cmpF [] = [] from rfl, List.map_nil, Int.natCast_zero]; done))); focus (first | exact id | exact (fun h => nomatch h) | exact (fun _ => rfl)))))
  · intro i hi
    have hi : i ≤ d.length := hi
    have hw := w64_succ (n := i) (by omega)
    by_cases h : i < d.length
    · have i1 : ((i : Int) < (d.length : Int)) = True := eq_true (by omega)
      have i2 : ((0 : Int) ≤ (i : Int)) = True := eq_true (by omega)
      obtain ⟨z, hz⟩ : ∃ z, z = d[i] := ⟨_, rfl⟩
      obtain ⟨hz1, hz2, hz3⟩ := hd d[i] (List.getElem_mem _)
      have hg : (d.map ePt)[i]? = some [.int z.1, .sl 1 (z.2.map eL)] := by rw [map_get h, hz]; rfl
      rw [← hz] at hz1 hz2 hz3
      have htk : sumS cmpF (prodL (d.take (i + 1)) e) = addS cmpF (sumS cmpF (prodL (d.take i) e)) (e.map fun q => (mP (z.1 * q.1), mulF z.2 q.2)) := by
        rw [hz, List.take_succ_eq_append_getElem h, prodL_snoc]
        exact addS_app _ _ _
      have hR := addS_len (prodL (d.take i) e) []
      have hRk : OkE (sumS cmpF (prodL (d.take i) e)) := addS_okE OkE.nil (hok i)
      have hR2 := hpl i
      simp only [List.length_nil] at hR
      have hR : (sumS cmpF (prodL (d.take i) e)).length ≤ 90000 := by show (addS cmpF [] _).length ≤ _; omega
      obtain ⟨R, hRe⟩ : ∃ R, R = sumS cmpF (prodL (d.take i) e) := ⟨_, rfl⟩
      rw [← hRe] at hR hRk htk ⊢
      have hM : ∀ q ∈ e.map (fun q => (mP (z.1 * q.1), mulF z.2 q.2)), (0 ≤ q.1 ∧ q.1 < 10007) ∧ SmF q.2 := fun q hq => by
        obtain ⟨r, hr, rfl⟩ := List.mem_map.1 hq
        have h2 := (he r hr).2
        refine ⟨mP_range _, ?_, ?_⟩
        · simp only; rw [mulF_len]; omega
        · simp only; rw [mulF_sum]; omega
      obtain ⟨M', hMe⟩ : ∃ M', M' = e.map fun q => (mP (z.1 * q.1), mulF z.2 q.2) := ⟨_, rfl⟩
      have hMl : M'.length = e.length := by rw [hMe, List.length_map]
      rw [← hMe] at hM htk
      have hle : (d.map ePt).length = d.length := List.length_map _
      repeat' (first | with_reducible (first | refine Q1 ?_ | refine Q2 ?_ | refine Q3 ?_ | refine Q4 ?_ | refine Q5 ?_ | refine Q6 ?_ | refine Q7 ?_ | refine Q8 ?_ | refine Q9 ?_ | refine Qa ?_ | refine Qb ?_ | refine Qc ?_ | refine Qd ?_ | refine Qe ?_ | refine Qf ?_) | ((with_reducible refine Qo ?_ ?_); focus rfl) | ((with_reducible first | refine QT 8 (l := ?_) ?_ ?_ | refine QF 8 (l := ?_) ?_ ?_); rotate_left 1; focus (simp only [Zu, Nat.reduceSub, Nat.reduceBEq]; with_reducible rfl)) | ((with_reducible first | refine QS (cfg_ok 46) Tab.none (s' := ?_) ?_ ?_ | refine QC (b := ?_) ?_ ?_); rotate_left 1; focus ((with_reducible refine QW ?_); simp only [Zg, seval, if_true, if_false, reduceCtorEq, Nat.reduceEqDiff, i1, i2, hle, Int.toNat_natCast]; with_reducible rfl)) | ((with_reducible refine QD (cfg_ok 46) Tab.none mixed_ok (tr := ?_) (s' := ?_) ?_ ?_ ?_); rotate_left 2; (focus ((with_reducible refine QW ?_); simp only [Zg, Zd, seval, if_true, if_false, reduceCtorEq, Nat.reduceEqDiff, i1, i2, hle, Int.toNat_natCast]; with_reducible rfl)); focus ((with_reducible refine QK ?_); simp only [Zk]; kernel_rfl)))
      refine RunK.loop (β := Nat) (γ := Unit) (fun j => ⟨[(0, .c (.val (.sl 2 (d.map ePt)))), (1, .c (.val (.sl 2 (e.map ePt)))), (5, .c (.val (.sl 2 ((addS cmpF R (M'.take j)).map ePt)))), (6, .c (.val (.int i))), (7, .c (.val (.int j)))], []⟩) (fun j => j ≤ e.length) (fun j => e.length - j)
        (fun _ => ⟨[(0, .c (.val (.sl 2 (d.map ePt)))), (1, .c (.val (.sl 2 (e.map ePt)))), (5, .c (.val (.sl 2 ((addS cmpF R M').map ePt)))), (6, .c (.val (.int i)))], []⟩) (fun _ => True) 0 (Nat.zero_le _) ?_ ?_ ?_
      · (repeat' (first | with_reducible refine Qn | ((with_reducible refine Qr ?_ ?_); focus (first | with_reducible rfl | (simp only [Zz, Nat.reduceBEq, List.take_zero, show addS cmpF R [] = R from rfl, Int.natCast_zero]; done) | rfl)) | ((with_reducible refine Qj (o' := ?_) ?_ ?_ ?_); rotate_left 1; focus rfl) | ((with_reducible refine Qw ?_ ?_); (focus (first | with_reducible rfl | (simp only [Zv, List.take_zero, show addS cmpF R [] = R from rfl, Int.natCast_zero]; done))); focus (first | exact id | exact (fun h => nomatch h) | exact (fun _ => rfl)))))
      · intro j hj
        have hj : j ≤ e.length := hj
        have hwj := w64_succ (n := j) (by omega)
        by_cases g : j < e.length
        · have j1 : ((j : Int) < (e.length : Int)) = True := eq_true (by omega)
          have j2 : ((0 : Int) ≤ (j : Int)) = True := eq_true (by omega)
          obtain ⟨y, hy⟩ : ∃ y, y = e[j] := ⟨_, rfl⟩
          obtain ⟨hy1, hy2, hy3⟩ := he e[j] (List.getElem_mem _)
          have hgj : (e.map ePt)[j]? = some [.int y.1, .sl 1 (y.2.map eL)] := by rw [map_get g, hy]; rfl
          rw [← hy] at hy1 hy2 hy3
          have hej : (e.map ePt).length = e.length := List.length_map _
          have hm := a_l01Mul z.1 y.1 (by have := small_mul hz1 hy1; omega)
          have ht := AFn.valT (a_l03Times z.2 y.2 (by omega) (fun b hb => by have := sumLen_mem hb; omega) (by omega) (fun b hb => by have := sumLen_mem hb; omega))
          have hsf : SmF (mulF z.2 y.2) := by
            refine ⟨?_, ?_⟩
            · rw [mulF_len]; omega
            · rw [mulF_sum]; omega
          have hput := a_l06Put (addS cmpF R (M'.take j)) (mP (z.1 * y.1)) (mulF z.2 y.2) (by
            have := addS_len (M'.take j) R
            rw [List.length_take] at this; omega) (addS_okE hRk (fun q hq => hM q (List.mem_of_mem_take hq))) (mP_range _) hsf
          have hst : addS cmpF R (M'.take (j + 1)) = putS cmpF (addS cmpF R (M'.take j)) (mP (z.1 * y.1)) (mulF z.2 y.2) := by
            have hj' : j < M'.length := by rw [hMl]; exact g
            have hgm : M'[j]'hj' = (mP (z.1 * y.1), mulF z.2 y.2) := by simp only [hMe, hy]; exact List.getElem_map _
            rw [List.take_succ_eq_append_getElem hj', addS_snoc, hgm]
          simp only [eI, eLL] at hm hput ht
          repeat' (first | with_reducible (first | refine Q1 ?_ | refine Q2 ?_ | refine Q3 ?_ | refine Q4 ?_ | refine Q5 ?_ | refine Q6 ?_ | refine Q7 ?_ | refine Q8 ?_ | refine Q9 ?_ | refine Qa ?_ | refine Qb ?_ | refine Qc ?_ | refine Qd ?_ | refine Qe ?_ | refine Qf ?_) | ((with_reducible refine Qo ?_ ?_); focus rfl) | ((with_reducible first | refine QT 8 (l := ?_) ?_ ?_ | refine QF 8 (l := ?_) ?_ ?_); rotate_left 1; focus (simp only [Zu, Nat.reduceSub, Nat.reduceBEq]; with_reducible rfl)) | ((with_reducible first | refine QS (cfg_ok 46) (((Tab.none.at' 70 hm).at' 118 ht).at' 59 hput) (s' := ?_) ?_ ?_ | refine QC (b := ?_) ?_ ?_); rotate_left 1; focus ((with_reducible refine QW ?_); simp only [Zg, seval, if_true, if_false, reduceCtorEq, Nat.reduceEqDiff, i1, i2, j1, j2, hg, hgj, hwj, hle, hej, Int.toNat_natCast]; with_reducible rfl)) | ((with_reducible refine QD (cfg_ok 46) (((Tab.none.at' 70 hm).at' 118 ht).at' 59 hput) mixed_ok (tr := ?_) (s' := ?_) ?_ ?_ ?_); rotate_left 2; (focus ((with_reducible refine QW ?_); simp only [Zg, Zd, seval, if_true, if_false, reduceCtorEq, Nat.reduceEqDiff, i1, i2, j1, j2, hg, hgj, hwj, hle, hej, Int.toNat_natCast]; with_reducible rfl)); focus ((with_reducible refine QK ?_); simp only [Zk]; kernel_rfl)))
          refine roundK.on (j + 1) ⟨g, by omega⟩ ?_
          rw [hst]
          (repeat' (first | with_reducible refine Qn | ((with_reducible refine Qr ?_ ?_); focus (first | with_reducible rfl | (simp only [Zz, Nat.reduceBEq]; done) | rfl)) | ((with_reducible refine Qj (o' := ?_) ?_ ?_ ?_); rotate_left 1; focus rfl) | ((with_reducible refine Qw ?_ ?_); (focus (first | with_reducible rfl | (simp only [Zv]; done))); focus (first | exact id | exact (fun h => nomatch h) | exact (fun _ => rfl)))))
        · have j1 : ((j : Int) < (e.length : Int)) = False := eq_false (by omega)
          obtain rfl : j = e.length := by omega
          rw [← hMl, List.take_length, hMl]
          repeat' (first | with_reducible (first | refine Q1 ?_ | refine Q2 ?_ | refine Q3 ?_ | refine Q4 ?_ | refine Q5 ?_ | refine Q6 ?_ | refine Q7 ?_ | refine Q8 ?_ | refine Q9 ?_ | refine Qa ?_ | refine Qb ?_ | refine Qc ?_ | refine Qd ?_ | refine Qe ?_ | refine Qf ?_) | ((with_reducible refine Qo ?_ ?_); focus rfl) | ((with_reducible first | refine QT 8 (l := ?_) ?_ ?_ | refine QF 8 (l := ?_) ?_ ?_); rotate_left 1; focus (simp only [Zu, Nat.reduceSub, Nat.reduceBEq]; with_reducible rfl)) | ((with_reducible first | refine QS (cfg_ok 46) Tab.none (s' := ?_) ?_ ?_ | refine QC (b := ?_) ?_ ?_); rotate_left 1; focus ((with_reducible refine QW ?_); simp only [Zg, seval, if_true, if_false, reduceCtorEq, Nat.reduceEqDiff, j1, List.length_map]; with_reducible rfl)) | ((with_reducible refine QD (cfg_ok 46) Tab.none mixed_ok (tr := ?_) (s' := ?_) ?_ ?_ ?_); rotate_left 2; (focus ((with_reducible refine QW ?_); simp only [Zg, Zd, seval, if_true, if_false, reduceCtorEq, Nat.reduceEqDiff, j1, List.length_map]; with_reducible rfl)); focus ((with_reducible refine QK ?_); simp only [Zk]; kernel_rfl)))
          refine roundK.out () trivial ?_
          (repeat' (first | with_reducible refine Qn | ((with_reducible refine Qr ?_ ?_); focus (first | with_reducible rfl | (simp only [Zz, Nat.reduceBEq]; done) | rfl)) | ((with_reducible refine Qj (o' := ?_) ?_ ?_ ?_); rotate_left 1; focus rfl) | ((with_reducible refine Qw ?_ ?_); (focus (first | with_reducible rfl | (simp only [Zv]; done))); focus (first | exact id | exact (fun h => nomatch h) | exact (fun _ => rfl)))))
      · rintro _ _
        repeat' (first | with_reducible (first | refine Q1 ?_ | refine Q2 ?_ | refine Q3 ?_ | refine Q4 ?_ | refine Q5 ?_ | refine Q6 ?_ | refine Q7 ?_ | refine Q8 ?_ | refine Q9 ?_ | refine Qa ?_ | refine Qb ?_ | refine Qc ?_ | refine Qd ?_ | refine Qe ?_ | refine Qf ?_) | ((with_reducible refine Qo ?_ ?_); focus rfl) | ((with_reducible first | refine QT 8 (l := ?_) ?_ ?_ | refine QF 8 (l := ?_) ?_ ?_); rotate_left 1; focus (simp only [Zu, Nat.reduceSub, Nat.reduceBEq]; with_reducible rfl)) | ((with_reducible first | refine QS (cfg_ok 46) Tab.none (s' := ?_) ?_ ?_ | refine QC (b := ?_) ?_ ?_); rotate_left 1; focus ((with_reducible refine QW ?_); simp only [Zg, seval, if_true, if_false, reduceCtorEq, Nat.reduceEqDiff, hw]; with_reducible rfl)) | ((with_reducible refine QD (cfg_ok 46) Tab.none mixed_ok (tr := ?_) (s' := ?_) ?_ ?_ ?_); rotate_left 2; (focus ((with_reducible refine QW ?_); simp only [Zg, Zd, seval, if_true, if_false, reduceCtorEq, Nat.reduceEqDiff, hw]; with_reducible rfl)); focus ((with_reducible refine QK ?_); simp only [Zk]; kernel_rfl)))
        refine roundK.on (i + 1) ⟨h, by omega⟩ ?_
        rw [htk]
        (repeat' (first | with_reducible refine Qn | ((with_reducible refine Qr ?_ ?_); focus (first | with_reducible rfl | (simp only [Zz, Nat.reduceBEq]; done) | rfl)) | ((with_reducible refine Qj (o' := ?_) ?_ ?_ ?_); rotate_left 1; focus rfl) | ((with_reducible refine Qw ?_ ?_); (focus (first | with_reducible rfl | (simp only [Zv]; done))); focus (first | exact id | exact (fun h => nomatch h) | exact (fun _ => rfl)))))
    · have i1 : ((i : Int) < (d.length : Int)) = False := eq_false (by omega)
      obtain rfl : i = d.length := by omega
      rw [List.take_length]
      repeat' (first | with_reducible (first | refine Q1 ?_ | refine Q2 ?_ | refine Q3 ?_ | refine Q4 ?_ | refine Q5 ?_ | refine Q6 ?_ | refine Q7 ?_ | refine Q8 ?_ | refine Q9 ?_ | refine Qa ?_ | refine Qb ?_ | refine Qc ?_ | refine Qd ?_ | refine Qe ?_ | refine Qf ?_) | ((with_reducible refine Qo ?_ ?_); focus rfl) | ((with_reducible first | refine QT 8 (l := ?_) ?_ ?_ | refine QF 8 (l := ?_) ?_ ?_); rotate_left 1; focus (simp only [Zu, Nat.reduceSub, Nat.reduceBEq]; with_reducible rfl)) | ((with_reducible first | refine QS (cfg_ok 46) Tab.none (s' := ?_) ?_ ?_ | refine QC (b := ?_) ?_ ?_); rotate_left 1; focus ((with_reducible refine QW ?_); simp only [Zg, seval, if_true, if_false, reduceCtorEq, Nat.reduceEqDiff, i1, List.length_map]; with_reducible rfl)) | ((with_reducible refine QD (cfg_ok 46) Tab.none mixed_ok (tr := ?_) (s' := ?_) ?_ ?_ ?_); rotate_left 2; (focus ((with_reducible refine QW ?_); simp only [Zg, Zd, seval, if_true, if_false, reduceCtorEq, Nat.reduceEqDiff, i1, List.length_map]; with_reducible rfl)); focus ((with_reducible refine QK ?_); simp only [Zk]; kernel_rfl)))
      refine roundK.out () trivial ?_
      (repeat' (first | with_reducible refine Qn | ((with_reducible refine Qr ?_ ?_); focus (first | with_reducible rfl | (simp only [Zz, Nat.reduceBEq]; done) | rfl)) | ((with_reducible refine Qj (o' := ?_) ?_ ?_ ?_); rotate_left 1; focus rfl) | ((with_reducible refine Qw ?_ ?_); (focus (first | with_reducible rfl | (simp only [Zv]; done))); focus (first | exact id | exact (fun h => nomatch h) | exact (fun _ => rfl)))))
  · rintro _ _
    repeat' (first | with_reducible (first | refine Q1 ?_ | refine Q2 ?_ | refine Q3 ?_ | refine Q4 ?_ | refine Q5 ?_ | refine Q6 ?_ | refine Q7 ?_ | refine Q8 ?_ | refine Q9 ?_ | refine Qa ?_ | refine Qb ?_ | refine Qc ?_ | refine Qd ?_ | refine Qe ?_ | refine Qf ?_) | ((with_reducible refine Qo ?_ ?_); focus rfl) | ((with_reducible first | refine QT 8 (l := ?_) ?_ ?_ | refine QF 8 (l := ?_) ?_ ?_); rotate_left 1; focus (simp only [Zu, Nat.reduceSub, Nat.reduceBEq]; with_reducible rfl)) | ((with_reducible first | refine QS (cfg_ok 46) Tab.none (s' := ?_) ?_ ?_ | refine QC (b := ?_) ?_ ?_); rotate_left 1; focus ((with_reducible refine QW ?_); simp only [Zg, seval, if_true, if_false, reduceCtorEq, Nat.reduceEqDiff]; with_reducible rfl)) | ((with_reducible refine QD (cfg_ok 46) Tab.none mixed_ok (tr := ?_) (s' := ?_) ?_ ?_ ?_); rotate_left 2; (focus ((with_reducible refine QW ?_); simp only [Zg, Zd, seval, if_true, if_false, reduceCtorEq, Nat.reduceEqDiff]; with_reducible rfl)); focus ((with_reducible refine QK ?_); simp only [Zk]; kernel_rfl)))
    (refine Ends.mk (by simp) (rs := ?_) (ks := ?_) hres hrts ?_ ?_ ?_; rotate_left 2; (focus (simp only [Ze, Zg, seval, if_true, if_false, reduceCtorEq, Nat.reduceEqDiff]; with_reducible rfl)); (focus simp); focus (first | with_reducible rfl | (simp only [Zv]; done)))
noncomputable def TTS : Tab Tryz.prog := TEAS.add 65 (tab1 (codS 2 codPt) fun e => if e.length + szN e ≤ 1048576 then some [.val (.int (degE e))] else none) (tab1_ok fun e rs h => by split at h; cases h; rename_i hz; exact a_l06Degree e hz; cases h)
set_option maxHeartbeats 4000000 in
theorem a_spec_TimesElements (d e : Elt) (hzd : szP d) (hz : szP e) : ∃ b, AFn Tryz.prog 23 [[.sl 2 (d.map ePt)], [.sl 2 (e.map ePt)]] (· = [.own 2 ((timOf d e).1.map ePt) b, .val (.int (timOf d e).2)]) := by
  have h1 := a_l06Is d hzd
  have s1 : (d.length + szN d ≤ 1048576) = True := eq_true hzd
  have s2 : (e.length + szN e ≤ 1048576) = True := eq_true hz
  unfold timOf
  by_cases hD : elB d = true
  rotate_left
  · have hD' : elB d = false := by simpa using hD
    rw [if_neg (by rw [hD', Bool.false_and]; decide)]
    rw [hD'] at h1
    refine ⟨true, ?_⟩
    refine AFn.of_runs (cfg_ok 36) Tryz.func23 rfl rfl rfl (by simp only [List.length_cons, List.length_nil]; decide) ?_
    have hres : Tryz.f23.results.toList = [.tmp 4, .tmp 5] := rfl
    have hrts : Tryz.f23.resultTypes.toList = [24, 2] := rfl
    simp only [argRegs, argAV1, eL, eI, eLL, eB, Nat.zero_add, Nat.reduceAdd]
    intro M
    refine RunK.of ?_
    repeat' (first | with_reducible (first | refine Q1 ?_ | refine Q2 ?_ | refine Q3 ?_ | refine Q4 ?_ | refine Q5 ?_ | refine Q6 ?_ | refine Q7 ?_ | refine Q8 ?_ | refine Q9 ?_ | refine Qa ?_ | refine Qb ?_ | refine Qc ?_ | refine Qd ?_ | refine Qe ?_ | refine Qf ?_) | ((with_reducible refine Qo ?_ ?_); focus rfl) | ((with_reducible first | refine QT 6 (l := ?_) ?_ ?_ | refine QF 6 (l := ?_) ?_ ?_); rotate_left 1; focus (simp only [Zu, Nat.reduceSub, Nat.reduceBEq]; with_reducible rfl)) | ((with_reducible first | refine QS (cfg_ok 36) (Tab.none.at' 48 h1) (s' := ?_) ?_ ?_ | refine QC (b := ?_) ?_ ?_); rotate_left 1; focus ((with_reducible refine QW ?_); simp only [Zg, seval, if_true, if_false, reduceCtorEq, Nat.reduceEqDiff]; with_reducible rfl)))
    (refine Ends.mk (by simp) (rs := ?_) (ks := ?_) hres hrts ?_ ?_ ?_; rotate_left 2; (focus (simp only [Ze, Zg, seval, if_true, if_false, reduceCtorEq, Nat.reduceEqDiff]; with_reducible rfl)); (focus simp); focus (first | with_reducible rfl | (simp only [Zv]; done)))
  by_cases hE : elB e = true
  rotate_left
  · have hE' : elB e = false := by simpa using hE
    rw [if_neg (by rw [hE', Bool.and_false]; decide)]
    refine ⟨true, ?_⟩
    refine AFn.of_runs (cfg_ok 36) Tryz.func23 rfl rfl rfl (by simp only [List.length_cons, List.length_nil]; decide) ?_
    have hres : Tryz.f23.results.toList = [.tmp 4, .tmp 5] := rfl
    have hrts : Tryz.f23.resultTypes.toList = [24, 2] := rfl
    simp only [argRegs, argAV1, eL, eI, eLL, eB, Nat.zero_add, Nat.reduceAdd]
    intro M
    refine RunK.of ?_
    repeat' (first | with_reducible (first | refine Q1 ?_ | refine Q2 ?_ | refine Q3 ?_ | refine Q4 ?_ | refine Q5 ?_ | refine Q6 ?_ | refine Q7 ?_ | refine Q8 ?_ | refine Q9 ?_ | refine Qa ?_ | refine Qb ?_ | refine Qc ?_ | refine Qd ?_ | refine Qe ?_ | refine Qf ?_) | ((with_reducible refine Qo ?_ ?_); focus rfl) | ((with_reducible first | refine QT 6 (l := ?_) ?_ ?_ | refine QF 6 (l := ?_) ?_ ?_); rotate_left 1; focus (simp only [Zu, Nat.reduceSub, Nat.reduceBEq]; with_reducible rfl)) | ((with_reducible first | refine QS (cfg_ok 36) TEAS (s' := ?_) ?_ ?_ | refine QC (b := ?_) ?_ ?_); rotate_left 1; focus ((with_reducible refine QW ?_); simp only [Zg, seval, if_true, if_false, reduceCtorEq, Nat.reduceEqDiff, TEAS, TEAS, codPts_d, s1, s2, hD, hE']; with_reducible rfl)))
    (refine Ends.mk (by simp) (rs := ?_) (ks := ?_) hres hrts ?_ ?_ ?_; rotate_left 2; (focus (simp only [Ze, Zg, seval, if_true, if_false, reduceCtorEq, Nat.reduceEqDiff]; with_reducible rfl)); (focus simp); focus (first | with_reducible rfl | (simp only [Zv]; done)))
  rw [if_pos (by rw [hD, hE]; rfl)]
  obtain ⟨d1, d2⟩ := degE_bd hD
  obtain ⟨e1, e2⟩ := degE_bd hE
  have hw := w64_eq (n := degE d + degE e) (by omega)
  by_cases hT : 0 ≤ degE d ∧ 0 ≤ degE e ∧ 8 < degE d + degE e
  · rw [tim_far hD hE hT.1 hT.2.1 hT.2.2]
    have i1 : (degE d ≥ 0) = True := eq_true hT.1
    have i2 : (degE e ≥ 0) = True := eq_true hT.2.1
    have i3 : (degE d + degE e > 8) = True := eq_true hT.2.2
    refine ⟨true, ?_⟩
    refine AFn.of_runs (cfg_ok 36) Tryz.func23 rfl rfl rfl (by simp only [List.length_cons, List.length_nil]; decide) ?_
    have hres : Tryz.f23.results.toList = [.tmp 4, .tmp 5] := rfl
    have hrts : Tryz.f23.resultTypes.toList = [24, 2] := rfl
    simp only [argRegs, argAV1, eL, eI, eLL, eB, Nat.zero_add, Nat.reduceAdd]
    intro M
    refine RunK.of ?_
    repeat' (first | with_reducible (first | refine Q1 ?_ | refine Q2 ?_ | refine Q3 ?_ | refine Q4 ?_ | refine Q5 ?_ | refine Q6 ?_ | refine Q7 ?_ | refine Q8 ?_ | refine Q9 ?_ | refine Qa ?_ | refine Qb ?_ | refine Qc ?_ | refine Qd ?_ | refine Qe ?_ | refine Qf ?_) | ((with_reducible refine Qo ?_ ?_); focus rfl) | ((with_reducible first | refine QT 6 (l := ?_) ?_ ?_ | refine QF 6 (l := ?_) ?_ ?_); rotate_left 1; focus (simp only [Zu, Nat.reduceSub, Nat.reduceBEq]; with_reducible rfl)) | ((with_reducible first | refine QS (cfg_ok 36) TTS (s' := ?_) ?_ ?_ | refine QC (b := ?_) ?_ ?_); rotate_left 1; focus ((with_reducible refine QW ?_); simp only [Zg, seval, if_true, if_false, reduceCtorEq, Nat.reduceEqDiff, TTS, TTS, TEAS, codPts_d, s1, s2, hD, hE, hw, i1, i2, i3]; with_reducible rfl)))
    (refine Ends.mk (by simp) (rs := ?_) (ks := ?_) hres hrts ?_ ?_ ?_; rotate_left 2; (focus (simp only [Ze, Zg, seval, if_true, if_false, reduceCtorEq, Nat.reduceEqDiff]; with_reducible rfl)); (focus simp); focus (first | with_reducible rfl | (simp only [Zv]; done)))
  have hld := (elB_okE hD).2.1
  have hle := (elB_okE hE).2.1
  have h3 := a_l06Times d e (elB_sm hD) (elB_sm hE) hld hle
  have hsl := addS_len (prodL d e) []
  simp only [List.length_nil] at hsl
  have hpl := prod_len300 hld hle
  obtain ⟨b, h4⟩ := a_l06Own (sumS cmpF (prodL d e)) (addS_okE OkE.nil (tim_ok hD hE)) (by show (addS cmpF [] _).length ≤ _; omega)
  refine ⟨b, ?_⟩
  refine AFn.of_runs (cfg_ok 36) Tryz.func23 rfl rfl rfl (by simp only [List.length_cons, List.length_nil]; decide) ?_
  have hres : Tryz.f23.results.toList = [.tmp 4, .tmp 5] := rfl
  have hrts : Tryz.f23.resultTypes.toList = [24, 2] := rfl
  simp only [argRegs, argAV1, eL, eI, eLL, eB, Nat.zero_add, Nat.reduceAdd]
  intro M
  refine RunK.of ?_
  by_cases g1 : 0 ≤ degE d
  rotate_left
  · have i1 : (degE d ≥ 0) = False := eq_false g1
    repeat' (first | with_reducible (first | refine Q1 ?_ | refine Q2 ?_ | refine Q3 ?_ | refine Q4 ?_ | refine Q5 ?_ | refine Q6 ?_ | refine Q7 ?_ | refine Q8 ?_ | refine Q9 ?_ | refine Qa ?_ | refine Qb ?_ | refine Qc ?_ | refine Qd ?_ | refine Qe ?_ | refine Qf ?_) | ((with_reducible refine Qo ?_ ?_); focus rfl) | ((with_reducible first | refine QT 6 (l := ?_) ?_ ?_ | refine QF 6 (l := ?_) ?_ ?_); rotate_left 1; focus (simp only [Zu, Nat.reduceSub, Nat.reduceBEq]; with_reducible rfl)) | ((with_reducible first | refine QS (cfg_ok 36) ((TTS.at' 66 h3).at' 50 h4) (s' := ?_) ?_ ?_ | refine QC (b := ?_) ?_ ?_); rotate_left 1; focus ((with_reducible refine QW ?_); simp only [Zg, seval, if_true, if_false, reduceCtorEq, Nat.reduceEqDiff, TTS, TEAS, codPts_d, s1, s2, hD, hE, i1]; with_reducible rfl)))
    (refine Ends.mk (by simp) (rs := ?_) (ks := ?_) hres hrts ?_ ?_ ?_; rotate_left 2; (focus (simp only [Ze, Zg, seval, if_true, if_false, reduceCtorEq, Nat.reduceEqDiff]; with_reducible rfl)); (focus simp); focus (first | with_reducible rfl | (simp only [Zv]; done)))
  have i1 : (degE d ≥ 0) = True := eq_true g1
  by_cases g2 : 0 ≤ degE e
  rotate_left
  · have i2 : (degE e ≥ 0) = False := eq_false g2
    repeat' (first | with_reducible (first | refine Q1 ?_ | refine Q2 ?_ | refine Q3 ?_ | refine Q4 ?_ | refine Q5 ?_ | refine Q6 ?_ | refine Q7 ?_ | refine Q8 ?_ | refine Q9 ?_ | refine Qa ?_ | refine Qb ?_ | refine Qc ?_ | refine Qd ?_ | refine Qe ?_ | refine Qf ?_) | ((with_reducible refine Qo ?_ ?_); focus rfl) | ((with_reducible first | refine QT 6 (l := ?_) ?_ ?_ | refine QF 6 (l := ?_) ?_ ?_); rotate_left 1; focus (simp only [Zu, Nat.reduceSub, Nat.reduceBEq]; with_reducible rfl)) | ((with_reducible first | refine QS (cfg_ok 36) ((TTS.at' 66 h3).at' 50 h4) (s' := ?_) ?_ ?_ | refine QC (b := ?_) ?_ ?_); rotate_left 1; focus ((with_reducible refine QW ?_); simp only [Zg, seval, if_true, if_false, reduceCtorEq, Nat.reduceEqDiff, TTS, TEAS, codPts_d, s1, s2, hD, hE, i1, i2]; with_reducible rfl)))
    (refine Ends.mk (by simp) (rs := ?_) (ks := ?_) hres hrts ?_ ?_ ?_; rotate_left 2; (focus (simp only [Ze, Zg, seval, if_true, if_false, reduceCtorEq, Nat.reduceEqDiff]; with_reducible rfl)); (focus simp); focus (first | with_reducible rfl | (simp only [Zv]; done)))
  have i2 : (degE e ≥ 0) = True := eq_true g2
  have i3 : (degE d + degE e > 8) = False := eq_false (by omega)
  repeat' (first | with_reducible (first | refine Q1 ?_ | refine Q2 ?_ | refine Q3 ?_ | refine Q4 ?_ | refine Q5 ?_ | refine Q6 ?_ | refine Q7 ?_ | refine Q8 ?_ | refine Q9 ?_ | refine Qa ?_ | refine Qb ?_ | refine Qc ?_ | refine Qd ?_ | refine Qe ?_ | refine Qf ?_) | ((with_reducible refine Qo ?_ ?_); focus rfl) | ((with_reducible first | refine QT 6 (l := ?_) ?_ ?_ | refine QF 6 (l := ?_) ?_ ?_); rotate_left 1; focus (simp only [Zu, Nat.reduceSub, Nat.reduceBEq]; with_reducible rfl)) | ((with_reducible first | refine QS (cfg_ok 36) ((TTS.at' 66 h3).at' 50 h4) (s' := ?_) ?_ ?_ | refine QC (b := ?_) ?_ ?_); rotate_left 1; focus ((with_reducible refine QW ?_); simp only [Zg, seval, if_true, if_false, reduceCtorEq, Nat.reduceEqDiff, TTS, TEAS, codPts_d, s1, s2, hD, hE, hw, i1, i2, i3]; with_reducible rfl)))
  (refine Ends.mk (by simp) (rs := ?_) (ks := ?_) hres hrts ?_ ?_ ?_; rotate_left 2; (focus (simp only [Ze, Zg, seval, if_true, if_false, reduceCtorEq, Nat.reduceEqDiff]; with_reducible rfl)); (focus simp); focus (first | with_reducible rfl | (simp only [Zv]; done)))
theorem k_impl_TimesElements (v u : Value) (d e : Elt) (w : World) (h : Rd (RS RPart) w [v] d) (h2 : Rd (RS RPart) w [u] e) (hz : szP d) (hz2 : szP e) : Calls Tryz.prog 24 #[v, u] w (RetOC (RS RPart) w (timOf d e).1 (timOf d e).2) :=
  AFn.oi encPt (a_impl_TimesElements d e hz hz2) (args2 (arg_P h) (arg_P h2))
theorem k_spec_TimesElements (v u : Value) (d e : Elt) (w : World) (h : Rd (RS RPart) w [v] d) (h2 : Rd (RS RPart) w [u] e) (hz : szP d) (hz2 : szP e) : Calls Tryz.prog 23 #[v, u] w (RetGI (RS RPart) w (timOf d e).1 (timOf d e).2) := by
  obtain ⟨b, hb⟩ := a_spec_TimesElements d e hz hz2
  exact AFn.gi encPt (by cases b <;> first | exact .inl rfl | exact .inr (.inl rfl)) hb (args2 (arg_P h) (arg_P h2))
end Go.Proofs.YtacbkjmkjpjhoaaGreat
namespace Go.Proofs.YtacbkjmkjpjhoaaGreat
open Go.RowKit
set_option maxHeartbeats 1000000 in
theorem walk_FnExactTimesElements (v0 : Value) (v1 : Value) (x0 : List (Int × List (List Int))) (x1 : List (Int × List (List Int))) (w : World) (h0 : Rd (RS RPart) w [v0] x0) (h1 : Rd (RS RPart) w [v1] x1) : Calls Tryz.prog 6 #[v0, v1] w (RetV w (.bool true)) := by
  go_enter Tryz.func6, Tryz.ntmps6
  go_wp2_with fail
  refine (sz_P _ x0 1048576 _ h0 (by omega) (by omega)).mono ?_
  rintro e w1 ⟨r1, rfl, hr1, B1⟩
  have s1 := B1.size
  have BB := B1.mono (B' := w.heap.size) (by omega)
  rcases hr1 with ⟨n1, z0⟩ | ⟨n1, n1b, z0⟩
  · go_wp2_with fail
    go_ret
    exact ⟨rfl, BB⟩
  go_wp2_with fail
  refine (sz_P _ x1 r1 _ (h1.below BB (Nat.le_refl _)) (by omega) (by omega)).mono ?_
  rintro e w2 ⟨r2, rfl, hr2, B2⟩
  have s2 := B2.size
  replace BB := BB.trans (B2.mono (B' := w.heap.size) (by omega))
  rcases hr2 with ⟨n2, z1⟩ | ⟨n2, n2b, z1⟩
  · go_wp2_with fail
    go_ret
    exact ⟨rfl, BB⟩
  go_wp2_with fail
  refine (to_P _ x0 _ (h0.below BB (Nat.le_refl _)) z0).mono ?_
  rintro e w3 ⟨u3, rfl, o3, B3⟩
  have s3 := B3.size
  replace BB := BB.trans (B3.mono (B' := w.heap.size) (by omega))
  go_wp2_with fail
  refine (to_P _ x1 _ (h1.below BB (Nat.le_refl _)) z1).mono ?_
  rintro e w4 ⟨u4, rfl, o4, B4⟩
  have s4 := B4.size
  replace o3 := o3.below B4 (by omega)
  replace BB := BB.trans (B4.mono (B' := w.heap.size) (by omega))
  go_wp2_with fail
  refine (k_spec_TimesElements _ _ x0 x1 _ o3.rd o4.rd z0 z1).mono ?_
  rintro e w5 ⟨u5, rfl, o5, B5⟩
  have s5 := B5.size
  replace o3 := o3.below B5 (by omega)
  replace o4 := o4.below B5 (by omega)
  replace BB := BB.trans (B5.mono (B' := w.heap.size) (by omega))
  go_wp2_with fail
  refine (to_P _ x0 _ (h0.below BB (Nat.le_refl _)) z0).mono ?_
  rintro e w6 ⟨u6, rfl, o6, B6⟩
  have s6 := B6.size
  replace o3 := o3.below B6 (by omega)
  replace o4 := o4.below B6 (by omega)
  replace o5 := o5.below B6 (by omega)
  replace BB := BB.trans (B6.mono (B' := w.heap.size) (by omega))
  go_wp2_with fail
  refine (to_P _ x1 _ (h1.below BB (Nat.le_refl _)) z1).mono ?_
  rintro e w7 ⟨u7, rfl, o7, B7⟩
  have s7 := B7.size
  replace o3 := o3.below B7 (by omega)
  replace o4 := o4.below B7 (by omega)
  replace o5 := o5.below B7 (by omega)
  replace o6 := o6.below B7 (by omega)
  replace BB := BB.trans (B7.mono (B' := w.heap.size) (by omega))
  go_wp2_with fail
  refine (k_impl_TimesElements _ _ x0 x1 _ o6.rd o7.rd z0 z1).mono ?_
  rintro e w8 ⟨u8, rfl, o8, B8⟩
  have s8 := B8.size
  replace o3 := o3.below B8 (by omega)
  replace o4 := o4.below B8 (by omega)
  replace o5 := o5.below B8 (by omega)
  replace o6 := o6.below B8 (by omega)
  replace o7 := o7.below B8 (by omega)
  replace BB := BB.trans (B8.mono (B' := w.heap.size) (by omega))
  go_wp2_with fail
  refine (eqv_P _ _ (timOf x0 x1).1 _ o8.rd o5.rd).mono ?_
  rintro e w9 ⟨rfl, B9⟩
  have s9 := B9.size
  replace o3 := o3.below B9 (by omega)
  replace o4 := o4.below B9 (by omega)
  replace o5 := o5.below B9 (by omega)
  replace o6 := o6.below B9 (by omega)
  replace o7 := o7.below B9 (by omega)
  replace o8 := o8.below B9 (by omega)
  replace BB := BB.trans (B9.mono (B' := w.heap.size) (by omega))
  go_wp2_with fail
  refine (to_P _ x0 _ (h0.below BB (Nat.le_refl _)) z0).mono ?_
  rintro e w10 ⟨u10, rfl, o10, B10⟩
  have s10 := B10.size
  replace o3 := o3.below B10 (by omega)
  replace o4 := o4.below B10 (by omega)
  replace o5 := o5.below B10 (by omega)
  replace o6 := o6.below B10 (by omega)
  replace o7 := o7.below B10 (by omega)
  replace o8 := o8.below B10 (by omega)
  replace BB := BB.trans (B10.mono (B' := w.heap.size) (by omega))
  go_wp2_with fail
  refine (eqv_P _ _ x0 _ o6.rd o10.rd).mono ?_
  rintro e w11 ⟨rfl, B11⟩
  have s11 := B11.size
  replace o3 := o3.below B11 (by omega)
  replace o4 := o4.below B11 (by omega)
  replace o5 := o5.below B11 (by omega)
  replace o6 := o6.below B11 (by omega)
  replace o7 := o7.below B11 (by omega)
  replace o8 := o8.below B11 (by omega)
  replace o10 := o10.below B11 (by omega)
  replace BB := BB.trans (B11.mono (B' := w.heap.size) (by omega))
  go_wp2_with fail
  refine (to_P _ x1 _ (h1.below BB (Nat.le_refl _)) z1).mono ?_
  rintro e w12 ⟨u12, rfl, o12, B12⟩
  have s12 := B12.size
  replace o3 := o3.below B12 (by omega)
  replace o4 := o4.below B12 (by omega)
  replace o5 := o5.below B12 (by omega)
  replace o6 := o6.below B12 (by omega)
  replace o7 := o7.below B12 (by omega)
  replace o8 := o8.below B12 (by omega)
  replace o10 := o10.below B12 (by omega)
  replace BB := BB.trans (B12.mono (B' := w.heap.size) (by omega))
  go_wp2_with fail
  refine (eqv_P _ _ x1 _ o7.rd o12.rd).mono ?_
  rintro e w13 ⟨rfl, B13⟩
  have s13 := B13.size
  replace o3 := o3.below B13 (by omega)
  replace o4 := o4.below B13 (by omega)
  replace o5 := o5.below B13 (by omega)
  replace o6 := o6.below B13 (by omega)
  replace o7 := o7.below B13 (by omega)
  replace o8 := o8.below B13 (by omega)
  replace o10 := o10.below B13 (by omega)
  replace o12 := o12.below B13 (by omega)
  replace BB := BB.trans (B13.mono (B' := w.heap.size) (by omega))
  go_wp2_with fail
  have p14 := cntb_P x0 z0
  refine (mark_P _ x0 _ _ 1 _ o6 (by omega) (by omega)).mono ?_
  rintro e w14 ⟨rfl, o6n, B14⟩
  have s14 := B14.size
  replace o3 := o3.apart B14 (by omega)
  replace o4 := o4.apart B14 (by omega)
  replace o5 := o5.apart B14 (by omega)
  replace o7 := o7.apart B14 (by omega)
  replace o8 := o8.apart B14 (by omega)
  replace o10 := o10.apart B14 (by omega)
  replace o12 := o12.apart B14 (by omega)
  replace o6 := o6n
  clear o6n
  replace BB := BB.trans (B14.below (B := w.heap.size) (by omega) (by omega))
  go_wp2_with fail
  have p15 := cntb_P x1 z1
  refine (mark_P _ x1 _ _ (1 + (cnt_P x0 : Nat)) _ o7 (by omega) (by omega)).mono ?_
  rintro e w15 ⟨rfl, o7n, B15⟩
  have s15 := B15.size
  replace o3 := o3.apart B15 (by omega)
  replace o4 := o4.apart B15 (by omega)
  replace o5 := o5.apart B15 (by omega)
  replace o6 := o6.apart B15 (by omega)
  replace o8 := o8.apart B15 (by omega)
  replace o10 := o10.apart B15 (by omega)
  replace o12 := o12.apart B15 (by omega)
  replace o7 := o7n
  clear o7n
  replace BB := BB.trans (B15.below (B := w.heap.size) (by omega) (by omega))
  go_wp2_with fail
  refine (eqv_P _ _ (timOf x0 x1).1 _ o8.rd o5.rd).mono ?_
  rintro e w16 ⟨rfl, B16⟩
  have s16 := B16.size
  replace o3 := o3.below B16 (by omega)
  replace o4 := o4.below B16 (by omega)
  replace o5 := o5.below B16 (by omega)
  replace o6 := o6.below B16 (by omega)
  replace o7 := o7.below B16 (by omega)
  replace o8 := o8.below B16 (by omega)
  replace o10 := o10.below B16 (by omega)
  replace o12 := o12.below B16 (by omega)
  replace BB := BB.trans (B16.mono (B' := w.heap.size) (by omega))
  go_wp2_with fail
  have p17 := timOf_cnt x0 x1
  refine (mark_P _ (timOf x0 x1).1 _ _ 1 _ o8 (by omega) (by omega)).mono ?_
  rintro e w17 ⟨rfl, o8n, B17⟩
  have s17 := B17.size
  replace o3 := o3.apart B17 (by omega)
  replace o4 := o4.apart B17 (by omega)
  replace o5 := o5.apart B17 (by omega)
  replace o6 := o6.apart B17 (by omega)
  replace o7 := o7.apart B17 (by omega)
  replace o10 := o10.apart B17 (by omega)
  replace o12 := o12.apart B17 (by omega)
  replace o8 := o8n
  clear o8n
  replace BB := BB.trans (B17.below (B := w.heap.size) (by omega) (by omega))
  go_wp2_with fail
  refine (held_P _ (timOf x0 x1).1 1 _ o8.rd (by omega) (by omega)).mono ?_
  rintro e w18 ⟨rfl, rfl⟩
  go_wp2_with fail
  refine (to_P _ x0 _ (h0.below BB (Nat.le_refl _)) z0).mono ?_
  rintro e w19 ⟨u19, rfl, o19, B19⟩
  have s19 := B19.size
  replace o3 := o3.below B19 (by omega)
  replace o4 := o4.below B19 (by omega)
  replace o5 := o5.below B19 (by omega)
  replace o6 := o6.below B19 (by omega)
  replace o7 := o7.below B19 (by omega)
  replace o8 := o8.below B19 (by omega)
  replace o10 := o10.below B19 (by omega)
  replace o12 := o12.below B19 (by omega)
  replace BB := BB.trans (B19.mono (B' := w.heap.size) (by omega))
  go_wp2_with fail
  refine (to_P _ x1 _ (h1.below BB (Nat.le_refl _)) z1).mono ?_
  rintro e w20 ⟨u20, rfl, o20, B20⟩
  have s20 := B20.size
  replace o3 := o3.below B20 (by omega)
  replace o4 := o4.below B20 (by omega)
  replace o5 := o5.below B20 (by omega)
  replace o6 := o6.below B20 (by omega)
  replace o7 := o7.below B20 (by omega)
  replace o8 := o8.below B20 (by omega)
  replace o10 := o10.below B20 (by omega)
  replace o12 := o12.below B20 (by omega)
  replace o19 := o19.below B20 (by omega)
  replace BB := BB.trans (B20.mono (B' := w.heap.size) (by omega))
  go_wp2_with fail
  refine (k_impl_TimesElements _ _ x0 x1 _ o19.rd o20.rd z0 z1).mono ?_
  rintro e w21 ⟨u21, rfl, o21, B21⟩
  have s21 := B21.size
  replace o3 := o3.below B21 (by omega)
  replace o4 := o4.below B21 (by omega)
  replace o5 := o5.below B21 (by omega)
  replace o6 := o6.below B21 (by omega)
  replace o7 := o7.below B21 (by omega)
  replace o8 := o8.below B21 (by omega)
  replace o10 := o10.below B21 (by omega)
  replace o12 := o12.below B21 (by omega)
  replace o19 := o19.below B21 (by omega)
  replace o20 := o20.below B21 (by omega)
  replace BB := BB.trans (B21.mono (B' := w.heap.size) (by omega))
  go_wp2_with fail
  refine (eqv_P _ _ (timOf x0 x1).1 _ o21.rd o5.rd).mono ?_
  rintro e w22 ⟨rfl, B22⟩
  have s22 := B22.size
  replace o3 := o3.below B22 (by omega)
  replace o4 := o4.below B22 (by omega)
  replace o5 := o5.below B22 (by omega)
  replace o6 := o6.below B22 (by omega)
  replace o7 := o7.below B22 (by omega)
  replace o8 := o8.below B22 (by omega)
  replace o10 := o10.below B22 (by omega)
  replace o12 := o12.below B22 (by omega)
  replace o19 := o19.below B22 (by omega)
  replace o20 := o20.below B22 (by omega)
  replace o21 := o21.below B22 (by omega)
  replace BB := BB.trans (B22.mono (B' := w.heap.size) (by omega))
  go_wp2_with fail
  refine (held_P _ (timOf x0 x1).1 1 _ o8.rd (by omega) (by omega)).mono ?_
  rintro e w23 ⟨rfl, rfl⟩
  go_wp2_with fail
  go_ret
  exact ⟨rfl, BB⟩
end Go.Proofs.YtacbkjmkjpjhoaaGreat
