/- Lemmas (12). -/
import Derived.Test.YtkdkikmhlhcndaaGreatZD0
import Derived.Test.YtkdkikmhlhcndaaGreatZD7
import Derived.Test.YtkdkikmhlhcndaaGreatZD8
import Derived.Test.YtkdkikmhlhcndaaGreatZD10
import Derived.Test.YtkdkikmhlhcndaaGreatZD11
set_option linter.unusedSimpArgs false
set_option linter.unusedVariables false
namespace Go.Proofs.YtkdkikmhlhcndaaGreat
open Go.RowKit
set_option maxRecDepth 20000 in
set_option maxHeartbeats 8000000 in
theorem a_splitForest (f : List (List Int)) (hlev : ∀ b ∈ f, LevP b) (h8 : sumLen f ≤ 8) : AFn Tryz.prog 40 [eLL f] (· = [.own 3 ((prodS (f.map split)).map eS0) false]) := by
  have hbl := len_sum hlev
  have hlen8 : ∀ b ∈ f, b.length ≤ 8 := fun b hb => by have := sumLen_mem hb; omega
  have hAg : ∀ k, (∀ s ∈ prodS ((f.take k).map split), GoodS (sumLen (f.take k)) s) ∧ (prodS ((f.take k).map split)).length ≤ 256 ∧ sumLen (f.take k) ≤ 8 := fun k => by
    have h1 := sumLen_take' f k
    exact ⟨prod_good (mem_take hlev), prod_len (mem_take hlev) (by omega), by omega⟩
  refine AFn.of_runs (cfg_ok 54) Tryz.func40 rfl rfl rfl (by simp only [List.length_cons, List.length_nil]; decide) ?_
  have hres : Tryz.f40.results.toList = [.tmp 2] := rfl
  have hrts : Tryz.f40.resultTypes.toList = [24] := rfl
  simp only [argRegs, argAV1, eL, eI, eLL, eB, Nat.zero_add, Nat.reduceAdd]
  intro M
  refine RunK.of ?_
  repeat' (first | with_reducible (first | refine Q1 ?_ | refine Q2 ?_ | refine Q3 ?_ | refine Q4 ?_ | refine Q5 ?_ | refine Q6 ?_ | refine Q7 ?_ | refine Q8 ?_ | refine Q9 ?_ | refine Qa ?_ | refine Qb ?_ | refine Qc ?_ | refine Qd ?_ | refine Qe ?_ | refine Qf ?_) | ((with_reducible refine Qo ?_ ?_); focus rfl) | ((with_reducible first | refine QT 30 (l := ?_) ?_ ?_ | refine QF 30 (l := ?_) ?_ ?_); rotate_left 1; focus (simp only [Zu, Nat.reduceSub, Nat.reduceBEq]; with_reducible rfl)) | ((with_reducible first | refine QS (cfg_ok 54) Tab.none (s' := ?_) ?_ ?_ | refine QC (b := ?_) ?_ ?_); rotate_left 1; focus ((with_reducible refine QW ?_); simp only [Zg, seval, if_true, if_false, reduceCtorEq, Nat.reduceEqDiff, List.length_map]; with_reducible rfl)) | ((with_reducible refine QD (cfg_ok 54) Tab.none mixed_ok (tr := ?_) (s' := ?_) ?_ ?_ ?_); rotate_left 2; (focus ((with_reducible refine QW ?_); simp only [Zg, Zd, seval, if_true, if_false, reduceCtorEq, Nat.reduceEqDiff, List.length_map]; with_reducible rfl)); focus ((with_reducible refine QK ?_); simp only [Zk]; kernel_rfl)))
  refine RunK.loop (β := Nat) (γ := Unit) (fun k => ⟨[(3, .c (.own 3 (prodS ((f.take k).map split)).length)), (13, .c (.val (.sl 1 (f.map eL)))), (14, .c (.val (.int f.length))), (15, .c (.val (.int k)))], [(3, .row 3 ((prodS ((f.take k).map split)).map eS0) false)]⟩) (fun k => k ≤ f.length) (fun k => f.length - k)
    (fun _ => ⟨[(3, .c (.own 3 (prodS (f.map split)).length))], [(3, .row 3 ((prodS (f.map split)).map eS0) false)]⟩) (fun _ => True) 0 (Nat.zero_le _) ?_ ?_ ?_
  · (repeat' (first | with_reducible refine Qn | ((with_reducible refine Qr ?_ ?_); focus (first | with_reducible rfl | (simp only [Zz, Nat.reduceBEq, List.take_zero, List.map_nil, show prodS [] = [([], [])] from rfl, List.map_cons, eS0, List.length_singleton, Int.natCast_zero]; done) | rfl)) | ((with_reducible refine Qj (o' := ?_) ?_ ?_ ?_); rotate_left 1; focus rfl) | ((with_reducible refine Qw ?_ ?_); (focus (first | with_reducible rfl | (simp only [Zv, List.take_zero, List.map_nil, show prodS [] = [([], [])] from rfl, List.map_cons, eS0, List.length_singleton, Int.natCast_zero]; done))); focus (first | exact id | exact (fun h => nomatch h) | exact (fun _ => rfl)))))
  · intro k hk
    have hk : k ≤ f.length := hk
    have hwk := w64_succ (n := k) (by omega)
    obtain ⟨g1, g2, g3⟩ := hAg k
    by_cases hkb : k < f.length
    · have i1 : ((k : Int) < (f.length : Int)) = True := eq_true (by omega)
      have i2 : ((0 : Int) ≤ (k : Int)) = True := eq_true (by omega)
      obtain ⟨b, hb⟩ : ∃ b, b = f[k] := ⟨_, rfl⟩
      have hbm : b ∈ f := by rw [hb]; exact List.getElem_mem _
      have hg : (f.map eL)[k]? = some [.sl 1 (b.map eI)] := by rw [map_get hkb, hb]; rfl
      have hle : (f.map eL).length = f.length := List.length_map _
      have hblen := hlen8 b hbm
      have hih := AFn.val1 (a_splitTree 8 (by omega) b (hlev b hbm) (by omega))
      have hgB := split_good _ (Nat.le_refl _) (hlev b hbm)
      have hlB : (split b).length ≤ 256 := by
        have h1 := split_len _ (Nat.le_refl _) (hlev b hbm)
        have h2 : 2 ^ b.length ≤ 2 ^ 8 := Nat.pow_le_pow_right (by decide) (by omega)
        omega
      have htk : prodS ((f.take (k + 1)).map split) = (prodS ((f.take k).map split)).flatMap fun s => (split b).map (catS s) := by
        rw [hb, List.take_succ_eq_append_getElem hkb, List.map_append]; exact foldS_snoc _ _ _
      have hn2 : (prodS ((f.take (k + 1)).map split)).length ≤ 256 := (hAg (k + 1)).2.1
      obtain ⟨A, hA⟩ : ∃ A, A = prodS ((f.take k).map split) := ⟨_, rfl⟩
      obtain ⟨B, hB⟩ : ∃ B, B = split b := ⟨_, rfl⟩
      rw [← hA] at g1 g2 htk ⊢
      rw [← hB] at hih hgB hlB htk
      rw [htk] at hn2
      simp only [eL] at hih
      have hsA : ∀ s ∈ A, SmS s := fun s hs => ((g1 s hs).ha (by omega)).sm
      have hsB : ∀ s ∈ B, SmS s := fun s hs => ((hgB s hs).ha (by omega)).sm
      have hAl : (A.map eS0).length = A.length := List.length_map _
      repeat' (first | with_reducible (first | refine Q1 ?_ | refine Q2 ?_ | refine Q3 ?_ | refine Q4 ?_ | refine Q5 ?_ | refine Q6 ?_ | refine Q7 ?_ | refine Q8 ?_ | refine Q9 ?_ | refine Qa ?_ | refine Qb ?_ | refine Qc ?_ | refine Qd ?_ | refine Qe ?_ | refine Qf ?_) | ((with_reducible refine Qo ?_ ?_); focus rfl) | ((with_reducible first | refine QT 30 (l := ?_) ?_ ?_ | refine QF 30 (l := ?_) ?_ ?_); rotate_left 1; focus (simp only [Zu, Nat.reduceSub, Nat.reduceBEq]; with_reducible rfl)) | ((with_reducible first | refine QS (cfg_ok 54) Tab.none (s' := ?_) ?_ ?_ | refine QC (b := ?_) ?_ ?_); rotate_left 1; focus ((with_reducible refine QW ?_); simp only [Zg, seval, if_true, if_false, reduceCtorEq, Nat.reduceEqDiff, i1, i2, hg, hle, Int.toNat_natCast, List.length_map]; with_reducible rfl)) | ((with_reducible refine QD (cfg_ok 54) Tab.none mixed_ok (tr := ?_) (s' := ?_) ?_ ?_ ?_); rotate_left 2; (focus ((with_reducible refine QW ?_); simp only [Zg, Zd, seval, if_true, if_false, reduceCtorEq, Nat.reduceEqDiff, i1, i2, hg, hle, Int.toNat_natCast, List.length_map]; with_reducible rfl)); focus ((with_reducible refine QK ?_); simp only [Zk]; kernel_rfl)))
      refine RunK.loop (β := Nat) (γ := Unit) (fun i => ⟨[(3, .c (.own 3 A.length)), (5, .c (.val (.sl 1 (b.map eI)))), (6, .c (.own 6 ((A.take i).flatMap fun s => B.map (catS s)).length)), (13, .c (.val (.sl 1 (f.map eL)))), (14, .c (.val (.int f.length))), (15, .c (.val (.int k))), (20, .c (.own 3 A.length)), (21, .c (.val (.int A.length))), (22, .c (.val (.int i)))],
          [(3, .row 3 (A.map eS0) false), (6, .row 3 (((A.take i).flatMap fun s => B.map (catS s)).map eS0) false)]⟩) (fun i => i ≤ A.length) (fun i => A.length - i)
        (fun _ => ⟨[(6, .c (.own 6 (A.flatMap fun s => B.map (catS s)).length)), (13, .c (.val (.sl 1 (f.map eL)))), (14, .c (.val (.int f.length))), (15, .c (.val (.int k)))], [(6, .row 3 ((A.flatMap fun s => B.map (catS s)).map eS0) false)]⟩) (fun _ => True) 0 (Nat.zero_le _) ?_ ?_ ?_
      · (repeat' (first | with_reducible refine Qn | ((with_reducible refine Qr ?_ ?_); focus (first | with_reducible rfl | (simp only [Zz, Nat.reduceBEq, List.take_zero, List.flatMap_nil, List.map_nil, List.length_nil, Int.natCast_zero]; done) | rfl)) | ((with_reducible refine Qj (o' := ?_) ?_ ?_ ?_); rotate_left 1; focus rfl) | ((with_reducible refine Qw ?_ ?_); (focus (first | with_reducible rfl | (simp only [Zv, List.take_zero, List.flatMap_nil, List.map_nil, List.length_nil, Int.natCast_zero]; done))); focus (first | exact id | exact (fun h => nomatch h) | exact (fun _ => rfl)))))
      · intro i hi
        have hi : i ≤ A.length := hi
        have hwi := w64_succ (n := i) (by omega)
        by_cases hiA : i < A.length
        · have j1 : ((i : Int) < (A.length : Int)) = True := eq_true (by omega)
          have j2 : ((0 : Int) ≤ (i : Int)) = True := eq_true (by omega)
          obtain ⟨s, hs⟩ : ∃ s, s = A[i] := ⟨_, rfl⟩
          have hsm := hsA A[i] (List.getElem_mem _)
          have hgs : (A.map eS0)[i]? = some [.sl 1 (s.1.map eL), .sl 1 (s.2.map eL), .int 0] := by rw [map_get hiA, hs]; rfl
          have htkA : (A.take (i + 1)).flatMap (fun s => B.map (catS s)) = ((A.take i).flatMap fun s => B.map (catS s)) ++ B.map (catS s) := by
            rw [hs, List.take_succ_eq_append_getElem hiA, List.flatMap_append]; simp
          have hXl : ((A.take i).flatMap fun s => B.map (catS s)).length + B.length ≤ 256 := by
            rw [flatS_len] at hn2 ⊢
            rw [List.length_take, Nat.min_eq_left hi]
            have : (i + 1) * B.length ≤ A.length * B.length := Nat.mul_le_mul_right _ hiA
            rw [Nat.succ_mul] at this; omega
          rw [← hs] at hsm
          obtain ⟨X, hX⟩ : ∃ X, X = (A.take i).flatMap fun s => B.map (catS s) := ⟨_, rfl⟩
          rw [← hX] at htkA hXl ⊢
          have hBl : (B.map eS0).length = B.length := List.length_map _
          repeat' (first | with_reducible (first | refine Q1 ?_ | refine Q2 ?_ | refine Q3 ?_ | refine Q4 ?_ | refine Q5 ?_ | refine Q6 ?_ | refine Q7 ?_ | refine Q8 ?_ | refine Q9 ?_ | refine Qa ?_ | refine Qb ?_ | refine Qc ?_ | refine Qd ?_ | refine Qe ?_ | refine Qf ?_) | ((with_reducible refine Qo ?_ ?_); focus rfl) | ((with_reducible first | refine QT 30 (l := ?_) ?_ ?_ | refine QF 30 (l := ?_) ?_ ?_); rotate_left 1; focus (simp only [Zu, Nat.reduceSub, Nat.reduceBEq]; with_reducible rfl)) | ((with_reducible first | refine QS (cfg_ok 54) (Tab.none.at' 57 hih) (s' := ?_) ?_ ?_ | refine QC (b := ?_) ?_ ?_); rotate_left 1; focus ((with_reducible refine QW ?_); simp only [Zg, seval, if_true, if_false, reduceCtorEq, Nat.reduceEqDiff, j1, j2, hgs, hAl, hBl, Int.toNat_natCast]; with_reducible rfl)) | ((with_reducible refine QD (cfg_ok 54) (Tab.none.at' 57 hih) mixed_ok (tr := ?_) (s' := ?_) ?_ ?_ ?_); rotate_left 2; (focus ((with_reducible refine QW ?_); simp only [Zg, Zd, seval, if_true, if_false, reduceCtorEq, Nat.reduceEqDiff, j1, j2, hgs, hAl, hBl, Int.toNat_natCast]; with_reducible rfl)); focus ((with_reducible refine QK ?_); simp only [Zk]; kernel_rfl)))
          refine RunK.loop (β := Nat) (γ := Unit) (fun j => ⟨[(3, .c (.own 3 A.length)), (5, .c (.val (.sl 1 (b.map eI)))), (6, .c (.own 6 (X ++ (B.take j).map (catS s)).length)), (8, .optr 8 0 0), (13, .c (.val (.sl 1 (f.map eL)))), (14, .c (.val (.int f.length))), (15, .c (.val (.int k))), (20, .c (.own 3 A.length)), (21, .c (.val (.int A.length))), (22, .c (.val (.int i))), (27, .c (.val (.sl 3 (B.map eS0)))), (28, .c (.val (.int B.length))), (29, .c (.val (.int j)))],
              [(3, .row 3 (A.map eS0) false), (6, .row 3 ((X ++ (B.take j).map (catS s)).map eS0) false), (8, .row 3 [[.sl 1 (s.1.map eL), .sl 1 (s.2.map eL), .int 0]] false)]⟩) (fun j => j ≤ B.length) (fun j => B.length - j)
            (fun _ => ⟨[(3, .c (.own 3 A.length)), (5, .c (.val (.sl 1 (b.map eI)))), (6, .c (.own 6 (X ++ B.map (catS s)).length)), (13, .c (.val (.sl 1 (f.map eL)))), (14, .c (.val (.int f.length))), (15, .c (.val (.int k))), (20, .c (.own 3 A.length)), (21, .c (.val (.int A.length))), (22, .c (.val (.int i)))],
              [(3, .row 3 (A.map eS0) false), (6, .row 3 ((X ++ B.map (catS s)).map eS0) false)]⟩) (fun _ => True) 0 (Nat.zero_le _) ?_ ?_ ?_
          · (repeat' (first | with_reducible refine Qn | ((with_reducible refine Qr ?_ ?_); focus (first | with_reducible rfl | (simp only [Zz, Nat.reduceBEq, List.take_zero, List.map_nil, List.append_nil, Int.natCast_zero]; done) | rfl)) | ((with_reducible refine Qj (o' := ?_) ?_ ?_ ?_); rotate_left 1; focus rfl) | ((with_reducible refine Qw ?_ ?_); (focus (first | with_reducible rfl | (simp only [Zv, List.take_zero, List.map_nil, List.append_nil, Int.natCast_zero]; done))); focus (first | exact id | exact (fun h => nomatch h) | exact (fun _ => rfl)))))
          · intro j hj
            have hj : j ≤ B.length := hj
            have hwj := w64_succ (n := j) (by omega)
            by_cases hjB : j < B.length
            · have l1 : ((j : Int) < (B.length : Int)) = True := eq_true (by omega)
              have l2 : ((0 : Int) ≤ (j : Int)) = True := eq_true (by omega)
              obtain ⟨c, hc⟩ : ∃ c, c = B[j] := ⟨_, rfl⟩
              have hcm := hsB B[j] (List.getElem_mem _)
              have hgc : (B.map eS0)[j]? = some [.sl 1 (c.1.map eL), .sl 1 (c.2.map eL), .int 0] := by rw [map_get hjB, hc]; rfl
              have htkB : X ++ (B.take (j + 1)).map (catS s) = (X ++ (B.take j).map (catS s)) ++ [catS s c] := by
                rw [hc, List.take_succ_eq_append_getElem hjB, List.map_append, List.append_assoc]; rfl
              rw [← hc] at hcm
              have hYl : (X ++ (B.take j).map (catS s)).length ≤ 256 := by rw [List.length_append, List.length_map, List.length_take]; omega
              obtain ⟨Y, hY⟩ : ∃ Y, Y = X ++ (B.take j).map (catS s) := ⟨_, rfl⟩
              rw [← hY] at htkB hYl ⊢
              have q1 := big_le (n := Y.length + 1) (by omega)
              have q2 := big_mul (n := Y.length + 1) (c := 56) (by omega) (by omega)
              have hYm : (Y.map eS0).length = Y.length := List.length_map _
              have e1 := eq_true (And.intro hsm.1 hcm.1)
              have e2 := eq_true (And.intro hsm.2 hcm.2)
              repeat' (first | with_reducible (first | refine Q1 ?_ | refine Q2 ?_ | refine Q3 ?_ | refine Q4 ?_ | refine Q5 ?_ | refine Q6 ?_ | refine Q7 ?_ | refine Q8 ?_ | refine Q9 ?_ | refine Qa ?_ | refine Qb ?_ | refine Qc ?_ | refine Qd ?_ | refine Qe ?_ | refine Qf ?_) | ((with_reducible refine Qo ?_ ?_); focus rfl) | ((with_reducible first | refine QT 30 (l := ?_) ?_ ?_ | refine QF 30 (l := ?_) ?_ ?_); rotate_left 1; focus (simp only [Zu, Nat.reduceSub, Nat.reduceBEq]; with_reducible rfl)) | ((with_reducible first | refine QS (cfg_ok 54) Tab.none (s' := ?_) ?_ ?_ | refine QC (b := ?_) ?_ ?_); rotate_left 1; focus ((with_reducible refine QW ?_); simp only [Zg, seval, if_true, if_false, reduceCtorEq, Nat.reduceEqDiff, l1, l2, hgc, hBl, Int.toNat_natCast]; with_reducible rfl)) | ((with_reducible refine QD (cfg_ok 54) Tab.none mixed_ok (tr := ?_) (s' := ?_) ?_ ?_ ?_); rotate_left 2; (focus ((with_reducible refine QW ?_); simp only [Zg, Zd, seval, if_true, if_false, reduceCtorEq, Nat.reduceEqDiff, l1, l2, hgc, hBl, Int.toNat_natCast]; with_reducible rfl)); focus ((with_reducible refine QK ?_); simp only [Zk]; kernel_rfl)))
              (((with_reducible refine RunK.wFz (cfg_ok 54) TCat mixed_ok [38, 44] (tr := ?_) (s1 := ?_) (rest := ?_) ?_ ?_ ?_); rotate_left 3; (focus ((with_reducible refine QW ?_); simp only [Zg, Zd, seval, if_true, if_false, reduceCtorEq, Nat.reduceEqDiff, drunF, devalF, devalB, dregF_mk, List.contains_cons, List.contains_nil, TCat, TCat, codLLL_d, cat2_eq, e1, e2, q1, q2, hYm]; with_reducible rfl)); focus ((with_reducible refine QK ?_); simp only [Zk]; kernel_rfl)); (refine ROps.opsT (cfg_ok 54) (T := TCat) (s' := ?_) ?_ ?_; rotate_left 1; focus (simp only [Zg, seval, if_true, if_false, reduceCtorEq, Nat.reduceEqDiff, TCat, TCat, codLLL_d, cat2_eq, e1, e2, q1, q2, hYm]; with_reducible rfl)))
              repeat' (first | with_reducible (first | refine Q1 ?_ | refine Q2 ?_ | refine Q3 ?_ | refine Q4 ?_ | refine Q5 ?_ | refine Q6 ?_ | refine Q7 ?_ | refine Q8 ?_ | refine Q9 ?_ | refine Qa ?_ | refine Qb ?_ | refine Qc ?_ | refine Qd ?_ | refine Qe ?_ | refine Qf ?_) | ((with_reducible refine Qo ?_ ?_); focus rfl) | ((with_reducible first | refine QT 30 (l := ?_) ?_ ?_ | refine QF 30 (l := ?_) ?_ ?_); rotate_left 1; focus (simp only [Zu, Nat.reduceSub, Nat.reduceBEq]; with_reducible rfl)) | ((with_reducible first | refine QS (cfg_ok 54) Tab.none (s' := ?_) ?_ ?_ | refine QC (b := ?_) ?_ ?_); rotate_left 1; focus ((with_reducible refine QW ?_); simp only [Zg, seval, if_true, if_false, reduceCtorEq, Nat.reduceEqDiff, hwj]; with_reducible rfl)) | ((with_reducible refine QD (cfg_ok 54) Tab.none mixed_ok (tr := ?_) (s' := ?_) ?_ ?_ ?_); rotate_left 2; (focus ((with_reducible refine QW ?_); simp only [Zg, Zd, seval, if_true, if_false, reduceCtorEq, Nat.reduceEqDiff, hwj]; with_reducible rfl)); focus ((with_reducible refine QK ?_); simp only [Zk]; kernel_rfl)))
              refine roundK.on (j + 1) ⟨hjB, by omega⟩ ?_
              rw [htkB]
              (repeat' (first | with_reducible refine Qn | ((with_reducible refine Qr ?_ ?_); focus (first | with_reducible rfl | (simp only [Zz, Nat.reduceBEq, eS0, catS]; done) | rfl)) | ((with_reducible refine Qj (o' := ?_) ?_ ?_ ?_); rotate_left 1; focus rfl) | ((with_reducible refine Qw ?_ ?_); (focus (first | with_reducible rfl | (simp only [Zv, eS0, catS]; done))); focus (first | exact id | exact (fun h => nomatch h) | exact (fun _ => rfl)))))
            · have l1 : ((j : Int) < (B.length : Int)) = False := eq_false (by omega)
              obtain rfl : j = B.length := by omega
              rw [List.take_length]
              repeat' (first | with_reducible (first | refine Q1 ?_ | refine Q2 ?_ | refine Q3 ?_ | refine Q4 ?_ | refine Q5 ?_ | refine Q6 ?_ | refine Q7 ?_ | refine Q8 ?_ | refine Q9 ?_ | refine Qa ?_ | refine Qb ?_ | refine Qc ?_ | refine Qd ?_ | refine Qe ?_ | refine Qf ?_) | ((with_reducible refine Qo ?_ ?_); focus rfl) | ((with_reducible first | refine QT 30 (l := ?_) ?_ ?_ | refine QF 30 (l := ?_) ?_ ?_); rotate_left 1; focus (simp only [Zu, Nat.reduceSub, Nat.reduceBEq]; with_reducible rfl)) | ((with_reducible first | refine QS (cfg_ok 54) Tab.none (s' := ?_) ?_ ?_ | refine QC (b := ?_) ?_ ?_); rotate_left 1; focus ((with_reducible refine QW ?_); simp only [Zg, seval, if_true, if_false, reduceCtorEq, Nat.reduceEqDiff, l1]; with_reducible rfl)) | ((with_reducible refine QD (cfg_ok 54) Tab.none mixed_ok (tr := ?_) (s' := ?_) ?_ ?_ ?_); rotate_left 2; (focus ((with_reducible refine QW ?_); simp only [Zg, Zd, seval, if_true, if_false, reduceCtorEq, Nat.reduceEqDiff, l1]; with_reducible rfl)); focus ((with_reducible refine QK ?_); simp only [Zk]; kernel_rfl)))
              refine roundK.out () trivial ?_
              (repeat' (first | with_reducible refine Qn | ((with_reducible refine Qr ?_ ?_); focus (first | with_reducible rfl | (simp only [Zz, Nat.reduceBEq]; done) | rfl)) | ((with_reducible refine Qj (o' := ?_) ?_ ?_ ?_); rotate_left 1; focus rfl) | ((with_reducible refine Qw ?_ ?_); (focus (first | with_reducible rfl | (simp only [Zv]; done))); focus (first | exact id | exact (fun h => nomatch h) | exact (fun _ => rfl)))))
          · rintro _ _
            repeat' (first | with_reducible (first | refine Q1 ?_ | refine Q2 ?_ | refine Q3 ?_ | refine Q4 ?_ | refine Q5 ?_ | refine Q6 ?_ | refine Q7 ?_ | refine Q8 ?_ | refine Q9 ?_ | refine Qa ?_ | refine Qb ?_ | refine Qc ?_ | refine Qd ?_ | refine Qe ?_ | refine Qf ?_) | ((with_reducible refine Qo ?_ ?_); focus rfl) | ((with_reducible first | refine QT 30 (l := ?_) ?_ ?_ | refine QF 30 (l := ?_) ?_ ?_); rotate_left 1; focus (simp only [Zu, Nat.reduceSub, Nat.reduceBEq]; with_reducible rfl)) | ((with_reducible first | refine QS (cfg_ok 54) Tab.none (s' := ?_) ?_ ?_ | refine QC (b := ?_) ?_ ?_); rotate_left 1; focus ((with_reducible refine QW ?_); simp only [Zg, seval, if_true, if_false, reduceCtorEq, Nat.reduceEqDiff, hwi]; with_reducible rfl)) | ((with_reducible refine QD (cfg_ok 54) Tab.none mixed_ok (tr := ?_) (s' := ?_) ?_ ?_ ?_); rotate_left 2; (focus ((with_reducible refine QW ?_); simp only [Zg, Zd, seval, if_true, if_false, reduceCtorEq, Nat.reduceEqDiff, hwi]; with_reducible rfl)); focus ((with_reducible refine QK ?_); simp only [Zk]; kernel_rfl)))
            refine roundK.on (i + 1) ⟨hiA, by omega⟩ ?_
            rw [htkA]
            (repeat' (first | with_reducible refine Qn | ((with_reducible refine Qr ?_ ?_); focus (first | with_reducible rfl | (simp only [Zz, Nat.reduceBEq]; done) | rfl)) | ((with_reducible refine Qj (o' := ?_) ?_ ?_ ?_); rotate_left 1; focus rfl) | ((with_reducible refine Qw ?_ ?_); (focus (first | with_reducible rfl | (simp only [Zv]; done))); focus (first | exact id | exact (fun h => nomatch h) | exact (fun _ => rfl)))))
        · have j1 : ((i : Int) < (A.length : Int)) = False := eq_false (by omega)
          obtain rfl : i = A.length := by omega
          rw [List.take_length]
          repeat' (first | with_reducible (first | refine Q1 ?_ | refine Q2 ?_ | refine Q3 ?_ | refine Q4 ?_ | refine Q5 ?_ | refine Q6 ?_ | refine Q7 ?_ | refine Q8 ?_ | refine Q9 ?_ | refine Qa ?_ | refine Qb ?_ | refine Qc ?_ | refine Qd ?_ | refine Qe ?_ | refine Qf ?_) | ((with_reducible refine Qo ?_ ?_); focus rfl) | ((with_reducible first | refine QT 30 (l := ?_) ?_ ?_ | refine QF 30 (l := ?_) ?_ ?_); rotate_left 1; focus (simp only [Zu, Nat.reduceSub, Nat.reduceBEq]; with_reducible rfl)) | ((with_reducible first | refine QS (cfg_ok 54) Tab.none (s' := ?_) ?_ ?_ | refine QC (b := ?_) ?_ ?_); rotate_left 1; focus ((with_reducible refine QW ?_); simp only [Zg, seval, if_true, if_false, reduceCtorEq, Nat.reduceEqDiff, j1]; with_reducible rfl)) | ((with_reducible refine QD (cfg_ok 54) Tab.none mixed_ok (tr := ?_) (s' := ?_) ?_ ?_ ?_); rotate_left 2; (focus ((with_reducible refine QW ?_); simp only [Zg, Zd, seval, if_true, if_false, reduceCtorEq, Nat.reduceEqDiff, j1]; with_reducible rfl)); focus ((with_reducible refine QK ?_); simp only [Zk]; kernel_rfl)))
          refine roundK.out () trivial ?_
          (repeat' (first | with_reducible refine Qn | ((with_reducible refine Qr ?_ ?_); focus (first | with_reducible rfl | (simp only [Zz, Nat.reduceBEq]; done) | rfl)) | ((with_reducible refine Qj (o' := ?_) ?_ ?_ ?_); rotate_left 1; focus rfl) | ((with_reducible refine Qw ?_ ?_); (focus (first | with_reducible rfl | (simp only [Zv]; done))); focus (first | exact id | exact (fun h => nomatch h) | exact (fun _ => rfl)))))
      · rintro _ _
        repeat' (first | with_reducible (first | refine Q1 ?_ | refine Q2 ?_ | refine Q3 ?_ | refine Q4 ?_ | refine Q5 ?_ | refine Q6 ?_ | refine Q7 ?_ | refine Q8 ?_ | refine Q9 ?_ | refine Qa ?_ | refine Qb ?_ | refine Qc ?_ | refine Qd ?_ | refine Qe ?_ | refine Qf ?_) | ((with_reducible refine Qo ?_ ?_); focus rfl) | ((with_reducible first | refine QT 30 (l := ?_) ?_ ?_ | refine QF 30 (l := ?_) ?_ ?_); rotate_left 1; focus (simp only [Zu, Nat.reduceSub, Nat.reduceBEq]; with_reducible rfl)) | ((with_reducible first | refine QS (cfg_ok 54) Tab.none (s' := ?_) ?_ ?_ | refine QC (b := ?_) ?_ ?_); rotate_left 1; focus ((with_reducible refine QW ?_); simp only [Zg, seval, if_true, if_false, reduceCtorEq, Nat.reduceEqDiff, hwk]; with_reducible rfl)) | ((with_reducible refine QD (cfg_ok 54) Tab.none mixed_ok (tr := ?_) (s' := ?_) ?_ ?_ ?_); rotate_left 2; (focus ((with_reducible refine QW ?_); simp only [Zg, Zd, seval, if_true, if_false, reduceCtorEq, Nat.reduceEqDiff, hwk]; with_reducible rfl)); focus ((with_reducible refine QK ?_); simp only [Zk]; kernel_rfl)))
        refine roundK.on (k + 1) ⟨hkb, by omega⟩ ?_
        rw [htk]
        (repeat' (first | with_reducible refine Qn | ((with_reducible refine Qr ?_ ?_); focus (first | with_reducible rfl | (simp only [Zz, Nat.reduceBEq]; done) | rfl)) | ((with_reducible refine Qj (o' := ?_) ?_ ?_ ?_); rotate_left 1; focus rfl) | ((with_reducible refine Qw ?_ ?_); (focus (first | with_reducible rfl | (simp only [Zv]; done))); focus (first | exact id | exact (fun h => nomatch h) | exact (fun _ => rfl)))))
    · have i1 : ((k : Int) < (f.length : Int)) = False := eq_false (by omega)
      obtain rfl : k = f.length := by omega
      rw [List.take_length]
      repeat' (first | with_reducible (first | refine Q1 ?_ | refine Q2 ?_ | refine Q3 ?_ | refine Q4 ?_ | refine Q5 ?_ | refine Q6 ?_ | refine Q7 ?_ | refine Q8 ?_ | refine Q9 ?_ | refine Qa ?_ | refine Qb ?_ | refine Qc ?_ | refine Qd ?_ | refine Qe ?_ | refine Qf ?_) | ((with_reducible refine Qo ?_ ?_); focus rfl) | ((with_reducible first | refine QT 30 (l := ?_) ?_ ?_ | refine QF 30 (l := ?_) ?_ ?_); rotate_left 1; focus (simp only [Zu, Nat.reduceSub, Nat.reduceBEq]; with_reducible rfl)) | ((with_reducible first | refine QS (cfg_ok 54) Tab.none (s' := ?_) ?_ ?_ | refine QC (b := ?_) ?_ ?_); rotate_left 1; focus ((with_reducible refine QW ?_); simp only [Zg, seval, if_true, if_false, reduceCtorEq, Nat.reduceEqDiff, i1]; with_reducible rfl)) | ((with_reducible refine QD (cfg_ok 54) Tab.none mixed_ok (tr := ?_) (s' := ?_) ?_ ?_ ?_); rotate_left 2; (focus ((with_reducible refine QW ?_); simp only [Zg, Zd, seval, if_true, if_false, reduceCtorEq, Nat.reduceEqDiff, i1]; with_reducible rfl)); focus ((with_reducible refine QK ?_); simp only [Zk]; kernel_rfl)))
      refine roundK.out () trivial ?_
      (repeat' (first | with_reducible refine Qn | ((with_reducible refine Qr ?_ ?_); focus (first | with_reducible rfl | (simp only [Zz, Nat.reduceBEq]; done) | rfl)) | ((with_reducible refine Qj (o' := ?_) ?_ ?_ ?_); rotate_left 1; focus rfl) | ((with_reducible refine Qw ?_ ?_); (focus (first | with_reducible rfl | (simp only [Zv]; done))); focus (first | exact id | exact (fun h => nomatch h) | exact (fun _ => rfl)))))
  · rintro _ _
    repeat' (first | with_reducible (first | refine Q1 ?_ | refine Q2 ?_ | refine Q3 ?_ | refine Q4 ?_ | refine Q5 ?_ | refine Q6 ?_ | refine Q7 ?_ | refine Q8 ?_ | refine Q9 ?_ | refine Qa ?_ | refine Qb ?_ | refine Qc ?_ | refine Qd ?_ | refine Qe ?_ | refine Qf ?_) | ((with_reducible refine Qo ?_ ?_); focus rfl) | ((with_reducible first | refine QT 30 (l := ?_) ?_ ?_ | refine QF 30 (l := ?_) ?_ ?_); rotate_left 1; focus (simp only [Zu, Nat.reduceSub, Nat.reduceBEq]; with_reducible rfl)) | ((with_reducible first | refine QS (cfg_ok 54) Tab.none (s' := ?_) ?_ ?_ | refine QC (b := ?_) ?_ ?_); rotate_left 1; focus ((with_reducible refine QW ?_); simp only [Zg, seval, if_true, if_false, reduceCtorEq, Nat.reduceEqDiff]; with_reducible rfl)) | ((with_reducible refine QD (cfg_ok 54) Tab.none mixed_ok (tr := ?_) (s' := ?_) ?_ ?_ ?_); rotate_left 2; (focus ((with_reducible refine QW ?_); simp only [Zg, Zd, seval, if_true, if_false, reduceCtorEq, Nat.reduceEqDiff]; with_reducible rfl)); focus ((with_reducible refine QK ?_); simp only [Zk]; kernel_rfl)))
    (refine Ends.mk (by simp) (rs := ?_) (ks := ?_) hres hrts ?_ ?_ ?_; rotate_left 2; (focus (simp only [Ze, Zg, seval, if_true, if_false, reduceCtorEq, Nat.reduceEqDiff]; with_reducible rfl)); (focus simp); focus (first | with_reducible rfl | (simp only [Zv]; done)))
end Go.Proofs.YtkdkikmhlhcndaaGreat
namespace Go.Proofs.YtkdkikmhlhcndaaGreat
open Go.RowKit
theorem AFn.of_v {P : Program} {f : FuncId} {ds : List (List D)} {d : D} {v : Value} (eg : ∀ args w, (callFunc f args).run P w = .ok (.enter f args) w) (hd : ∀ A w, rdV A w v d)
    (h : ∀ (w : World) (A : Nat → Prop) vs, relArgs A w ds vs → Calls P f vs.toArray w (RetV w v)) : AFn P f ds (· = [.val d]) := by
  refine ⟨eg, fun A w vs hA hv => (h w A vs hv).mono ?_⟩
  rintro e w' ⟨rfl, hb⟩
  exact ⟨v, _, rfl, rfl, hb, [v], [], [], rfl, List.nodup_nil, by simp, v, [], [], [], [], [], rfl, rfl, rfl, (hd (fun _ => True) w).one, ⟨hd _ _, rfl, rfl⟩, rfl, rfl, rfl⟩
theorem ChgF.cell {F : List Nat} {w w' : World} (h : ChgF F w w') {g off : Nat} (hg : g < w.heap.size) (hn : g ∉ F) : w'.cell? ⟨g, off, none⟩ = w.cell? ⟨g, off, none⟩ := by
  have := h.block g hg hn
  simp only [World.cell?, this]
section
variable {β γ : Type} {S : Rep β} {T : Rep γ} {w : World}
theorem OwnF.at3 {v : Value} {xs : List ((β × γ) × Int)} {F : List Nat} (h : OwnF (RS (RP (RP S T) RI)) F w [v] xs) (hS : S.k = 1) (hT : T.k = 1) (i : Nat) (hi : i < xs.length) :
    ∃ g cap s t G1 G2, v = .slice (some ⟨g, 0, none⟩) xs.length cap ∧ xs.length ≤ cap ∧ cap ≤ 9223372036854775807 ∧ g < w.heap.size ∧ w.cell? ⟨g, i * 3, none⟩ = some s ∧ w.cell? ⟨g, i * 3 + 1, none⟩ = some t ∧ w.cell? ⟨g, i * 3 + 2, none⟩ = some (.int .i64 xs[i].2) ∧ w.frozen? ⟨g, i * 3 + 2, none⟩ = false ∧
      OwnF S G1 w [s] xs[i].1.1 ∧ OwnF T G2 w [t] xs[i].1.2 ∧ (∀ b, b ∈ G1 → b ∈ F ∧ b ≠ g) ∧ (∀ b, b ∈ G2 → b ∈ F ∧ b ≠ g) ∧ (∀ b, b ∈ G1 → b ∉ G2) ∧
      (∀ (w' : World) (y : β) (z : γ), OwnF S G1 w' [s] y → OwnF T G2 w' [t] z → ChgF (G1 ++ G2) w w' → OwnF (RS (RP (RP S T) RI)) F w' [v] (xs.set i ((y, z), xs[i].2)) ∧ ChgF F w w') ∧
      (∀ n, In64 n → OwnF (RS (RP (RP S T) RI)) F (w.setCell ⟨g, i * 3 + 2, none⟩ (.int .i64 n)) [v] (xs.set i (xs[i].1, n)) ∧ ChgF F w (w.setCell ⟨g, i * 3 + 2, none⟩ (.int .i64 n))) := by
  have hlt := h.lt
  have hnd := h.2
  have hk3 : (RP (RP S T) RI).k = 3 := by show S.k + T.k + 1 = 3; omega
  obtain ⟨g, cap, d1, c, d2, F1, G0, F2, hv, hc1, hc2, rfl, hcl, hd1, hx, hrow, hK⟩ := h.lens i hi
  rw [hk3] at hd1 hrow
  have hx0 := hx
  obtain ⟨c12, c3, G12, G3, rfl, rfl, ⟨c1, c2, G1, G2, rfl, rfl, hs, ht⟩, ⟨rfl, hb⟩, rfl⟩ := hx0
  have hsl := S.rd_len (S.own_rd hs)
  have htl := T.rd_len (T.own_rd ht)
  rw [hS] at hsl
  rw [hT] at htl
  match c1, hsl, c2, htl with
  | [s], _, [t], _ =>
  simp only [List.append_nil] at *
  have hn1 := List.nodup_cons.1 hnd
  have hn2 := List.nodup_append.1 hn1.2
  have hn3 := List.nodup_append.1 hn2.2.1
  have hn4 := List.nodup_append.1 hn3.1
  have e1 : d1 ++ (([s] ++ [t] ++ [Value.int IntKind.i64 xs[i].2]) ++ d2) = d1 ++ (s :: t :: Value.int IntKind.i64 xs[i].2 :: d2) := by simp
  have g1 : w.cell? ⟨g, i * 3, none⟩ = some s := hrow.cells (i * 3) _ (by rw [e1, List.getElem?_append_right (by omega), hd1]; simp)
  have g2 : w.cell? ⟨g, i * 3 + 1, none⟩ = some t := hrow.cells (i * 3 + 1) _ (by rw [e1, List.getElem?_append_right (by omega), hd1]; simp)
  have g3 : w.cell? ⟨g, i * 3 + 2, none⟩ = some (.int .i64 xs[i].2) := hrow.cells (i * 3 + 2) _ (by rw [e1, List.getElem?_append_right (by omega), hd1]; simp)
  have hG1F : ∀ b, b ∈ G1 → b ∈ g :: (F1 ++ (G1 ++ G2 ++ F2)) ∧ b ≠ g := fun b hb => ⟨by simp [hb], fun e => hn1.1 (by subst e; simp [hb])⟩
  have hG2F : ∀ b, b ∈ G2 → b ∈ g :: (F1 ++ (G1 ++ G2 ++ F2)) ∧ b ≠ g := fun b hb => ⟨by simp [hb], fun e => hn1.1 (by subst e; simp [hb])⟩
  refine ⟨g, cap, s, t, G1, G2, hv, hc1, hc2, hlt g (by simp), g1, g2, g3, hrow.frozen _, ⟨hs, hn4.1⟩, ⟨ht, hn4.2.1⟩, hG1F, hG2F, fun b hb hb' => hn4.2.2 b hb b hb' rfl, ?_, ?_⟩
  · intro w' y z hy hz hch
    have hfr : ∀ b, b ∈ F1 ++ F2 → w'.heap[b]? = w.heap[b]? := by
      intro b hm
      refine hch.block b (hlt b ?_) ?_
      · rcases List.mem_append.1 hm with hm | hm
        · simp [hm]
        · simp [hm]
      · intro hG
        rcases List.mem_append.1 hm with hm | hm
        · exact hn2.2.2 b hm b (List.mem_append_left _ hG) rfl
        · exact hn3.2.2 b hG b hm rfl
    have hgn : g ∉ G1 ++ G2 := fun hg => by
      rcases List.mem_append.1 hg with hg | hg
      · exact (hG1F g hg).2 rfl
      · exact (hG2F g hg).2 rfl
    have hrow' : Row w' v 3 xs.length (d1 ++ (([s] ++ [t] ++ [Value.int IntKind.i64 xs[i].2]) ++ d2)) (some g) := hrow.frame (fun g' hg' => by cases hg'; exact hch.block g (hlt g (by simp)) hgn)
    refine ⟨hK _ ([s] ++ [t] ++ [.int .i64 xs[i].2]) ((y, z), xs[i].2) (G1 ++ G2) (by rw [hk3]; rfl) ⟨[s] ++ [t], [.int .i64 xs[i].2], G1 ++ G2, [], rfl, by simp, ⟨[s], [t], G1, G2, rfl, rfl, hy.1, hz.1⟩, ⟨rfl, hb⟩, rfl⟩ hfr (by rw [hk3]; exact hrow') hnd, hch.mono (fun b hb => ?_)⟩
    rcases List.mem_append.1 hb with hb | hb
    · exact (hG1F b hb).1
    · exact (hG2F b hb).1
  · intro n hn
    obtain ⟨hst, hgr⟩ := hrow.store (i * 3 + 2) (.int .i64 n)
    have hset : (d1 ++ (([s] ++ [t] ++ [Value.int IntKind.i64 xs[i].2]) ++ d2)).set (i * 3 + 2) (.int .i64 n) = d1 ++ (([s] ++ [t] ++ [Value.int IntKind.i64 n]) ++ d2) := by
      rw [List.set_append_right _ _ (by omega), hd1, Nat.add_sub_cancel_left]; rfl
    rw [hset] at hst
    have hfr : ∀ b, b ≠ g → (w.setCell ⟨g, i * 3 + 2, none⟩ (.int .i64 n)).heap[b]? = w.heap[b]? := fun b hb => heap_setCell_other w ⟨g, i * 3 + 2, none⟩ b _ hb
    refine ⟨hK _ ([s] ++ [t] ++ [.int .i64 n]) (xs[i].1, n) (G1 ++ G2) (by rw [hk3]; rfl) ⟨[s] ++ [t], [.int .i64 n], G1 ++ G2, [], rfl, by simp, ⟨[s], [t], G1, G2, rfl, rfl, S.own_frame hs (fun b hb => hfr b (hG1F b hb).2), T.own_frame ht (fun b hb => hfr b (hG2F b hb).2)⟩, ⟨rfl, hn⟩, rfl⟩ (fun b hb => hfr b ?_) (by rw [hk3]; exact hst) hnd, (ChgF.of_grown hgr).mono (fun b hb => by simp at hb; simp [hb])⟩
    intro e
    subst e
    rcases List.mem_append.1 hb with h | h
    · exact hn1.1 (by simp [h])
    · exact hn1.1 (by simp [h])
end
end Go.Proofs.YtkdkikmhlhcndaaGreat
namespace Go.Proofs.YtkdkikmhlhcndaaGreat
open Go.RowKit
abbrev RSplit : Rep ((List (List Int) × List (List Int)) × Int) := RP (RP (RS (RS RI)) (RS (RS RI))) RI
def eSs (c : (List (List Int) × List (List Int)) × Int) : List D := [.sl 1 (c.1.1.map eL), .sl 1 (c.1.2.map eL), .int c.2]
theorem encSs : Enc RSplit eSs := encP (encP (encS (encS encI)) (encS (encS encI))) encI
theorem arg_S {w : World} {u : Value} {xs : List ((List (List Int) × List (List Int)) × Int)} (h : Rd (RS RSplit) w [u] xs) : relArg (· < w.heap.size) w [.sl 3 (xs.map eSs)] u := ((encS encSs).rdV (x := xs) rfl).1 h
def cnt_S : List ((List (List Int) × List (List Int)) × Int) → Nat
  | [] => 0
  | p :: ps => cnt_II p.1.1 + cnt_II p.1.2 + 1 + cnt_S ps
def mkd_S : List ((List (List Int) × List (List Int)) × Int) → Int → List ((List (List Int) × List (List Int)) × Int)
  | [], _ => []
  | p :: ps, k => ((mkd_II p.1.1 k, mkd_II p.1.2 (k + cnt_II p.1.1)), k + cnt_II p.1.1 + cnt_II p.1.2) :: mkd_S ps (k + cnt_II p.1.1 + cnt_II p.1.2 + 1)
theorem mkd_S_len : ∀ (ps : List ((List (List Int) × List (List Int)) × Int)) (k : Int), (mkd_S ps k).length = ps.length
  | [], _ => rfl
  | p :: ps, k => by simp [mkd_S, mkd_S_len ps]
theorem mkd_S_get : ∀ (ps : List ((List (List Int) × List (List Int)) × Int)) (k : Int) (i : Nat) (h : i < ps.length), (mkd_S ps k)[i]'(by rw [mkd_S_len]; exact h) = ((mkd_II ps[i].1.1 (k + cnt_S (ps.take i)), mkd_II ps[i].1.2 (k + cnt_S (ps.take i) + cnt_II ps[i].1.1)), k + cnt_S (ps.take i) + cnt_II ps[i].1.1 + cnt_II ps[i].1.2)
  | p :: ps, k, 0, h => by simp [mkd_S, cnt_S]
  | p :: ps, k, i + 1, h => by
    simp only [mkd_S, List.getElem_cons_succ, List.take_succ_cons]
    rw [mkd_S_get ps _ i (by simpa using h)]
    simp only [cnt_S]
    have e : k + (cnt_II p.1.1 : Int) + (cnt_II p.1.2 : Int) + 1 + (cnt_S (ps.take i) : Nat) = k + ((cnt_II p.1.1 + cnt_II p.1.2 + 1 + cnt_S (ps.take i) : Nat) : Int) := by omega
    rw [e]
theorem cnt_S_append : ∀ (ps qs : List ((List (List Int) × List (List Int)) × Int)), cnt_S (ps ++ qs) = cnt_S ps + cnt_S qs
  | [], qs => by simp [cnt_S]
  | p :: ps, qs => by simp only [List.cons_append, cnt_S, cnt_S_append ps qs]; omega
theorem cnt_S_take_succ (ps : List ((List (List Int) × List (List Int)) × Int)) (k : Nat) (h : k < ps.length) : cnt_S (ps.take (k + 1)) = cnt_S (ps.take k) + (cnt_II ps[k].1.1 + cnt_II ps[k].1.2 + 1) := by
  rw [List.take_succ_eq_append_getElem h, cnt_S_append]; simp [cnt_S]
theorem cnt_S_take (ps : List ((List (List Int) × List (List Int)) × Int)) (k : Nat) : cnt_S (ps.take k) ≤ cnt_S ps := by
  have : cnt_S (ps.take k ++ ps.drop k) = cnt_S ps := by rw [List.take_append_drop]
  rw [cnt_S_append] at this
  omega
set_option maxRecDepth 100000 in
set_option maxHeartbeats 2000000 in
theorem markF_S (v : Value) (xs : List ((List (List Int) × List (List Int)) × Int)) (F : List Nat) (k0 : Int) (w : World) (h : OwnF (RS RSplit) F w [v] xs) (hk0 : 0 ≤ k0) (hk : k0 + cnt_S xs ≤ 4611686018427387904) :
    Calls Tryz.prog 13 #[v, .int .i64 k0] w fun e w' => e = .returned (.int .i64 (k0 + (cnt_S xs : Nat))) ∧ OwnF (RS RSplit) F w' [v] (mkd_S xs k0) ∧ ChgF F w w' := by
  obtain ⟨oa, cap, rfl, m1, m2⟩ := h.rd.val
  unfold maxLen at m2
  have H0 := Lib.hid h
  clear h
  go_enter Tryz.func13, Tryz.ntmps13
  go_wp2_with fail
  go_loopw [1, 5] (fun q i wr => ∃ (k : Nat) (z : List ((List (List Int) × List (List Int)) × Int)), k ≤ xs.length ∧ i = .int .i64 k ∧ q = .int .i64 (k0 + (cnt_S (xs.take k) : Nat)) ∧ Hid (z = (mkd_S xs k0).take k ++ xs.drop k) ∧ Hid (OwnF (RS RSplit) F wr [.slice oa xs.length cap] z ∧ ChgF F w wr)) (fun _ i _ => xs.length - (intOf i).toNat)
  case atStart => exact ⟨0, xs, Nat.zero_le _, rfl, by simp [cnt_S], Lib.hid (by simp), Lib.hid ⟨H0.out, ChgF.refl _ _⟩⟩
  case round =>
    obtain ⟨k, z, hkl, rfl, rfl, hz, hown⟩ := hrel
    clear H0
    by_cases hlt : k < xs.length
    · have hml := mkd_S_len xs k0
      have hzl : z.length = xs.length := by rw [hz.out]; simp [hml]; omega
      obtain ⟨g, cap', s, t, G1, G2, hv, -, -, hgl, g1, g2, g3, hfz, hGs, hGt, hG1F, hG2F, hdis, hUP, -⟩ := hown.out.1.at3 rfl rfl k (by omega)
      rw [hzl] at hv
      simp only [Value.slice.injEq, true_and] at hv
      obtain ⟨rfl, rfl⟩ := hv
      have hzk : z[k]'(by omega) = xs[k] := by
        simp only [hz.out]
        rw [List.getElem_append_right (by simp [hml]; omega)]
        simp [List.getElem_drop, hml]
        congr 1; omega
      have hst := cnt_S_take_succ xs k hlt
      have hle := cnt_S_take xs (k + 1)
      have hmk := mkd_S_get xs k0 k hlt
      obtain ⟨n, hn⟩ : ∃ n, n = cnt_S (xs.take k) := ⟨_, rfl⟩
      rw [← hn] at hst hmk
      rw [← hn]
      have hset : z.set k ((mkd_II xs[k].1.1 (k0 + n), mkd_II xs[k].1.2 (k0 + n + cnt_II xs[k].1.1)), k0 + (n : Int) + cnt_II xs[k].1.1 + cnt_II xs[k].1.2) = (mkd_S xs k0).take (k + 1) ++ xs.drop (k + 1) := by
        rw [hz.out, List.set_append_right _ _ (by simp [hml]; omega)]
        have e : k - ((mkd_S xs k0).take k).length = 0 := by simp [hml]; omega
        rw [e, List.drop_eq_getElem_cons hlt, List.set_cons_zero, List.take_succ_eq_append_getElem (by rw [hml]; exact hlt), hmk]
        simp
      rw [hzk] at hGs hGt hUP g3
      obtain ⟨pf, hpf⟩ : ∃ pf, pf = xs[k].1.1 := ⟨_, rfl⟩
      obtain ⟨pt, hpt⟩ : ∃ pt, pt = xs[k].1.2 := ⟨_, rfl⟩
      rw [← hpf, ← hpt] at hset hst
      rw [← hpf] at hGs
      rw [← hpt] at hGt
      obtain ⟨os, cs, rfl, q1, q2⟩ := hGs.rd.val
      obtain ⟨ot, ct, rfl, q3, q4⟩ := hGt.rd.val
      have hmkF := markF_II _ pf G1 (k0 + n) wr hGs (by omega) (by omega)
      obtain ⟨cf, hcf⟩ : ∃ cf, cf = cnt_II pf := ⟨_, rfl⟩
      obtain ⟨cu, hcu⟩ : ∃ cu, cu = cnt_II pt := ⟨_, rfl⟩
      rw [← hcf] at hmkF
      rw [← hcf, ← hcu] at hst hset
      have hmkT : ∀ W, OwnF (RS (RS RI)) G2 W [.slice ot pt.length ct] pt → Calls Tryz.prog 12 #[.slice ot pt.length ct, .int .i64 (k0 + n + cf)] W fun e w' => e = .returned (.int .i64 (k0 + n + cf + (cu : Nat))) ∧ OwnF (RS (RS RI)) G2 w' [.slice ot pt.length ct] (mkd_II pt (k0 + n + cf)) ∧ ChgF G2 W w' := fun W hW => by
        rw [hcu]; exact markF_II _ pt G2 (k0 + n + cf) W hW (by omega) (by omega)
      have HMT := Lib.hid hmkT
      have HUP := Lib.hid hUP
      have HSET := Lib.hid hset
      have HST := Lib.hid hst
      have HZL := Lib.hid hzl
      have HGT := Lib.hid hGt
      have HD : Hid (∀ b, b ∈ G1 → b ∉ G2) := Lib.hid hdis
      have HN1 : Hid (g ∉ G1 ∧ g ∉ G2) := Lib.hid ⟨fun hg => (hG1F g hg).2 rfl, fun hg => (hG2F g hg).2 rfl⟩
      have HG2 : Hid (∀ b ∈ G2, b < wr.heap.size) := Lib.hid hGt.lt
      have HG1 : Hid (∀ b ∈ G1, b < wr.heap.size) := Lib.hid hGs.lt
      have HGL := Lib.hid hgl
      have HT2 := Lib.hid g2
      have i1 : (0 : Int) ≤ (k : Int) := by omega
      have i2 : (k : Int) < (xs.length : Int) := by omega
      have hw2 : IntKind.i64.wrap (k0 + (n : Int) + (cf : Int) + (cu : Int) + 1) = k0 + n + cf + cu + 1 := IntWalk.i64_in _ (by omega)
      have hw3 : IntKind.i64.wrap (k0 + (n : Int) + (cf : Int) + (cu : Int)) = k0 + n + cf + cu := IntWalk.i64_in _ (by omega)
      have HIN : Hid (In64 (k0 + (n : Int) + (cf : Int) + (cu : Int))) := Lib.hid (by unfold In64; omega)
      obtain ⟨p2, hp2⟩ : ∃ p2, p2 = xs[k].2 := ⟨_, rfl⟩
      rw [← hp2] at HUP
      clear hUP hset hst hmk hzk hzl hn hpf hpt hGs hGt hml hcf hcu hp2 g3 hfz hmkT hdis hG1F hG2F
      go_wp2_with fail
      refine hmkF.mono ?_
      rintro e w2 ⟨rfl, hr2, hc2⟩
      have hT2 := HGT.out.frame (w' := w2) (fun b hb => hc2.block b (HG2.out b hb) (fun h1 => HD.out b h1 hb))
      have g2' : w2.cell? ⟨g, k * 3 + 1, none⟩ = some (.slice ot pt.length ct) := (hc2.cell HGL.out HN1.out.1).trans HT2.out
      have HC2 := Lib.hid hc2
      have HR2 := Lib.hid hr2
      have hmk2 := HMT.out w2 hT2
      clear hmkF hr2 hc2 hT2 g1 g2
      go_wp2_with fail
      refine hmk2.mono ?_
      rintro e w3 ⟨rfl, hr3, hc3⟩
      have hr2' := HR2.out.frame (w' := w3) (fun b hb => hc3.block b (HR2.out.lt b hb) (HD.out b hb))
      obtain ⟨k1, k2⟩ := HUP.out w3 _ _ hr2' hr3 ((HC2.out.mono (fun b hb => List.mem_append_left _ hb)).trans (hc3.mono (fun b hb => List.mem_append_right _ hb)))
      have hzl2 : (z.set k ((mkd_II pf (k0 + n), mkd_II pt (k0 + n + cf)), p2)).length = xs.length := by rw [List.length_set, HZL.out]
      obtain ⟨g', cap', s', t', G1', G2', hv', -, -, -, g1', g2'', g3', hfz', -, -, -, -, -, -, hNUM⟩ := k1.at3 rfl rfl k (by omega)
      rw [hzl2] at hv'
      simp only [Value.slice.injEq, Option.some.injEq, Addr.mk.injEq, and_true, true_and] at hv'
      obtain ⟨rfl, rfl⟩ := hv'
      simp only [List.getElem_set_self] at g3' hNUM
      obtain ⟨f1, f2⟩ := hNUM (k0 + n + cf + cu) HIN.out
      rw [List.set_set] at f1
      rw [HSET.out] at f1
      have HF : Hid (OwnF (RS RSplit) F (w3.setCell ⟨g, k * 3 + 2, none⟩ (.int .i64 (k0 + n + cf + cu))) [.slice (some ⟨g, 0, none⟩) xs.length cap] ((mkd_S xs k0).take (k + 1) ++ xs.drop (k + 1)) ∧ ChgF F w (w3.setCell ⟨g, k * 3 + 2, none⟩ (.int .i64 (k0 + n + cf + cu)))) := Lib.hid ⟨f1, hown.out.2.trans (k2.trans f2)⟩
      clear k1 k2 hr2' hr3 hc3 hmk2 f1 f2 hNUM hzl2 g1' g2' g2''
      go_wp2_with fail
      go_roundw
      case rel => exact ⟨k + 1, _, by omega, by go_num, by rw [HST.out]; congr 1; omega, Lib.hid rfl, HF⟩
      case measure => simp [intOf] <;> omega
    · have hfin : Hid (z = mkd_S xs k0) := Lib.hid (by rw [hz.out, List.take_of_length_le (by rw [mkd_S_len]; omega), List.drop_of_length_le (by omega), List.append_nil])
      have hf2 : xs.take k = xs := List.take_of_length_le (by omega)
      rw [hf2]
      go_wp2_with fail
      go_ret
      exact ⟨rfl, hfin.out ▸ hown.out.1, hown.out.2⟩
theorem mark_S (v : Value) (xs : List ((List (List Int) × List (List Int)) × Int)) (lo hi : Nat) (k0 : Int) (w : World) (h : Own (RS RSplit) lo hi w [v] xs) (hk0 : 0 ≤ k0) (hk : k0 + cnt_S xs ≤ 4611686018427387904) :
    Calls Tryz.prog 13 #[v, .int .i64 k0] w fun e w' => e = .returned (.int .i64 (k0 + (cnt_S xs : Nat))) ∧ Own (RS RSplit) lo hi w' [v] (mkd_S xs k0) ∧ Chg lo hi w w' := by
  obtain ⟨F, hF, hb⟩ := OwnF.of h
  refine (markF_S v xs F k0 w hF hk0 hk).mono ?_
  rintro e w' ⟨rfl, h1, h2⟩
  exact ⟨rfl, h1.to hb, ⟨h2.os, h2.tape, h2.output, h2.size, fun k hk hne => h2.block k hk (fun e => by have := hb k e; omega)⟩⟩
noncomputable def TEqS : Tab Tryz.prog :=
  (Tab.none.add 11 (tab2 codLL codLL fun f g => if f = g then some [.val (.bool true)] else none) (tab2_ok fun f g rs h => by
    split at h
    · rename_i e; subst e; cases h
      exact AFn.of_v (v := .bool true) (enters_of Tryz.func11 rfl rfl) (fun _ _ => rdV_bool.2 rfl) (fun w A vs ⟨v1, _, e1, h1, v2, _, e2, h2, e3⟩ => by subst e3; subst e2; subst e1; exact eqv_II v1 v2 f w (Rd.of (rdLL h1)) (Rd.of (rdLL h2)))
    · cases h)).add 42 (tab2 codL codL fun f g => if f = g then some [.val (.bool true)] else none) (tab2_ok fun f g rs h => by
    split at h
    · rename_i e; subst e; cases h
      exact AFn.of_v (v := .bool true) (enters_of Tryz.func42 rfl rfl) (fun _ _ => rdV_bool.2 rfl) (fun w A vs ⟨v1, _, e1, h1, v2, _, e2, h2, e3⟩ => by subst e3; subst e2; subst e1; exact eqv_I v1 v2 f w (Rd.of (rd1 h1)) (Rd.of (rd1 h2)))
    · cases h)
theorem a_eqSplit (c : (List (List Int) × List (List Int)) × Int) : AFn Tryz.prog 41 [eSs c, eSs c] (· = [.val (.bool true)]) := by
  obtain ⟨⟨f, g⟩, n⟩ := c
  have hn : (n != n) = false := by simp
  refine AFn.of_runs (cfg_ok 22) Tryz.func41 rfl rfl rfl (by simp only [List.length_cons, List.length_nil]; decide) ?_
  have hres : Tryz.f41.results.toList = [.tmp 4] := rfl
  have hrts : Tryz.f41.resultTypes.toList = [4] := rfl
  simp only [argRegs, argAV1, eL, eI, eLL, eB, Nat.zero_add, Nat.reduceAdd, eSs]
  intro M
  refine RunK.of ?_
  repeat' (first | with_reducible (first | refine Q1 ?_ | refine Q2 ?_ | refine Q3 ?_ | refine Q4 ?_ | refine Q5 ?_ | refine Q6 ?_ | refine Q7 ?_ | refine Q8 ?_ | refine Q9 ?_ | refine Qa ?_ | refine Qb ?_ | refine Qc ?_ | refine Qd ?_ | refine Qe ?_ | refine Qf ?_) | ((with_reducible refine Qo ?_ ?_); focus rfl) | ((with_reducible first | refine QT 5 (l := ?_) ?_ ?_ | refine QF 5 (l := ?_) ?_ ?_); rotate_left 1; focus (simp only [Zu, Nat.reduceSub, Nat.reduceBEq]; with_reducible rfl)) | ((with_reducible first | refine QS (cfg_ok 22) TEqS (s' := ?_) ?_ ?_ | refine QC (b := ?_) ?_ ?_); rotate_left 1; focus ((with_reducible refine QW ?_); simp only [Zg, seval, if_true, if_false, reduceCtorEq, Nat.reduceEqDiff, TEqS, TEqS, hn, eq_self, if_true]; with_reducible rfl)))
  (refine Ends.mk (by simp) (rs := ?_) (ks := ?_) hres hrts ?_ ?_ ?_; rotate_left 2; (focus (simp only [Ze, Zg, seval, if_true, if_false, reduceCtorEq, Nat.reduceEqDiff]; with_reducible rfl)); (focus simp); focus (first | with_reducible rfl | (simp only [Zv]; done)))
theorem a_eqSplitS (xs : List ((List (List Int) × List (List Int)) × Int)) (hl : xs.length ≤ maxLen) : AFn Tryz.prog 10 [[.sl 3 (xs.map eSs)], [.sl 3 (xs.map eSs)]] (· = [.val (.bool true)]) := by
  unfold maxLen at hl
  have hle : (xs.map eSs).length = xs.length := List.length_map _
  have hne : ((xs.length : Int) != (xs.length : Int)) = false := by simp
  refine AFn.of_runs (cfg_ok 27) Tryz.func10 rfl rfl rfl (by simp only [List.length_cons, List.length_nil]; decide) ?_
  have hres : Tryz.f10.results.toList = [.tmp 4] := rfl
  have hrts : Tryz.f10.resultTypes.toList = [4] := rfl
  simp only [argRegs, argAV1, eL, eI, eLL, eB, Nat.zero_add, Nat.reduceAdd]
  intro M
  refine RunK.of ?_
  repeat' (first | with_reducible (first | refine Q1 ?_ | refine Q2 ?_ | refine Q3 ?_ | refine Q4 ?_ | refine Q5 ?_ | refine Q6 ?_ | refine Q7 ?_ | refine Q8 ?_ | refine Q9 ?_ | refine Qa ?_ | refine Qb ?_ | refine Qc ?_ | refine Qd ?_ | refine Qe ?_ | refine Qf ?_) | ((with_reducible refine Qo ?_ ?_); focus rfl) | ((with_reducible first | refine QT 6 (l := ?_) ?_ ?_ | refine QF 6 (l := ?_) ?_ ?_); rotate_left 1; focus (simp only [Zu, Nat.reduceSub, Nat.reduceBEq]; with_reducible rfl)) | ((with_reducible first | refine QS (cfg_ok 27) Tab.none (s' := ?_) ?_ ?_ | refine QC (b := ?_) ?_ ?_); rotate_left 1; focus ((with_reducible refine QW ?_); simp only [Zg, seval, if_true, if_false, reduceCtorEq, Nat.reduceEqDiff, hle, hne]; with_reducible rfl)) | ((with_reducible refine QD (cfg_ok 27) Tab.none mixed_ok (tr := ?_) (s' := ?_) ?_ ?_ ?_); rotate_left 2; (focus ((with_reducible refine QW ?_); simp only [Zg, Zd, seval, if_true, if_false, reduceCtorEq, Nat.reduceEqDiff, hle, hne]; with_reducible rfl)); focus ((with_reducible refine QK ?_); simp only [Zk]; kernel_rfl)))
  refine RunK.loop (β := Nat) (γ := Unit) (fun i => ⟨[(0, .c (.val (.sl 3 (xs.map eSs)))), (1, .c (.val (.sl 3 (xs.map eSs)))), (5, .c (.val (.int i)))], []⟩) (fun i => i ≤ xs.length) (fun i => xs.length - i)
    (fun _ => ⟨[], []⟩) (fun _ => True) 0 (Nat.zero_le _) ?_ ?_ ?_
  · (repeat' (first | with_reducible refine Qn | ((with_reducible refine Qr ?_ ?_); focus (first | with_reducible rfl | (simp only [Zz, Nat.reduceBEq, Int.natCast_zero]; done) | rfl)) | ((with_reducible refine Qj (o' := ?_) ?_ ?_ ?_); rotate_left 1; focus rfl) | ((with_reducible refine Qw ?_ ?_); (focus (first | with_reducible rfl | (simp only [Zv, Int.natCast_zero]; done))); focus (first | exact id | exact (fun h => nomatch h) | exact (fun _ => rfl)))))
  · intro i hi
    have hi : i ≤ xs.length := hi
    by_cases h : i < xs.length
    · have hw := w64_succ (n := i) (by omega)
      have i1 : ((i : Int) < (xs.length : Int)) = True := eq_true (by omega)
      have i2 : ((0 : Int) ≤ (i : Int)) = True := eq_true (by omega)
      obtain ⟨c, hc⟩ : ∃ c, c = xs[i] := ⟨_, rfl⟩
      have hg : (xs.map eSs)[i]? = some (eSs c) := by rw [map_get h, hc]
      have hq := a_eqSplit c
      obtain ⟨⟨f, g⟩, n⟩ := c
      simp only [eSs] at hg hq
      repeat' (first | with_reducible (first | refine Q1 ?_ | refine Q2 ?_ | refine Q3 ?_ | refine Q4 ?_ | refine Q5 ?_ | refine Q6 ?_ | refine Q7 ?_ | refine Q8 ?_ | refine Q9 ?_ | refine Qa ?_ | refine Qb ?_ | refine Qc ?_ | refine Qd ?_ | refine Qe ?_ | refine Qf ?_) | ((with_reducible refine Qo ?_ ?_); focus rfl) | ((with_reducible first | refine QT 6 (l := ?_) ?_ ?_ | refine QF 6 (l := ?_) ?_ ?_); rotate_left 1; focus (simp only [Zu, Nat.reduceSub, Nat.reduceBEq]; with_reducible rfl)) | ((with_reducible first | refine QS (cfg_ok 27) (Tab.none.at' 41 hq) (s' := ?_) ?_ ?_ | refine QC (b := ?_) ?_ ?_); rotate_left 1; focus ((with_reducible refine QW ?_); simp only [Zg, seval, if_true, if_false, reduceCtorEq, Nat.reduceEqDiff, hle, i1, i2, hg, hw, Int.toNat_natCast]; with_reducible rfl)) | ((with_reducible refine QD (cfg_ok 27) (Tab.none.at' 41 hq) mixed_ok (tr := ?_) (s' := ?_) ?_ ?_ ?_); rotate_left 2; (focus ((with_reducible refine QW ?_); simp only [Zg, Zd, seval, if_true, if_false, reduceCtorEq, Nat.reduceEqDiff, hle, i1, i2, hg, hw, Int.toNat_natCast]; with_reducible rfl)); focus ((with_reducible refine QK ?_); simp only [Zk]; kernel_rfl)))
      refine roundK.on (i + 1) ⟨h, by omega⟩ ?_
      (repeat' (first | with_reducible refine Qn | ((with_reducible refine Qr ?_ ?_); focus (first | with_reducible rfl | (simp only [Zz, Nat.reduceBEq]; done) | rfl)) | ((with_reducible refine Qj (o' := ?_) ?_ ?_ ?_); rotate_left 1; focus rfl) | ((with_reducible refine Qw ?_ ?_); (focus (first | with_reducible rfl | (simp only [Zv]; done))); focus (first | exact id | exact (fun h => nomatch h) | exact (fun _ => rfl)))))
    · have i1 : ((i : Int) < (xs.length : Int)) = False := eq_false (by omega)
      repeat' (first | with_reducible (first | refine Q1 ?_ | refine Q2 ?_ | refine Q3 ?_ | refine Q4 ?_ | refine Q5 ?_ | refine Q6 ?_ | refine Q7 ?_ | refine Q8 ?_ | refine Q9 ?_ | refine Qa ?_ | refine Qb ?_ | refine Qc ?_ | refine Qd ?_ | refine Qe ?_ | refine Qf ?_) | ((with_reducible refine Qo ?_ ?_); focus rfl) | ((with_reducible first | refine QT 6 (l := ?_) ?_ ?_ | refine QF 6 (l := ?_) ?_ ?_); rotate_left 1; focus (simp only [Zu, Nat.reduceSub, Nat.reduceBEq]; with_reducible rfl)) | ((with_reducible first | refine QS (cfg_ok 27) Tab.none (s' := ?_) ?_ ?_ | refine QC (b := ?_) ?_ ?_); rotate_left 1; focus ((with_reducible refine QW ?_); simp only [Zg, seval, if_true, if_false, reduceCtorEq, Nat.reduceEqDiff, hle, i1]; with_reducible rfl)) | ((with_reducible refine QD (cfg_ok 27) Tab.none mixed_ok (tr := ?_) (s' := ?_) ?_ ?_ ?_); rotate_left 2; (focus ((with_reducible refine QW ?_); simp only [Zg, Zd, seval, if_true, if_false, reduceCtorEq, Nat.reduceEqDiff, hle, i1]; with_reducible rfl)); focus ((with_reducible refine QK ?_); simp only [Zk]; kernel_rfl)))
      refine roundK.out () trivial ?_
      (repeat' (first | with_reducible refine Qn | ((with_reducible refine Qr ?_ ?_); focus (first | with_reducible rfl | (simp only [Zz, Nat.reduceBEq]; done) | rfl)) | ((with_reducible refine Qj (o' := ?_) ?_ ?_ ?_); rotate_left 1; focus rfl) | ((with_reducible refine Qw ?_ ?_); (focus (first | with_reducible rfl | (simp only [Zv]; done))); focus (first | exact id | exact (fun h => nomatch h) | exact (fun _ => rfl)))))
  · rintro _ _
    repeat' (first | with_reducible (first | refine Q1 ?_ | refine Q2 ?_ | refine Q3 ?_ | refine Q4 ?_ | refine Q5 ?_ | refine Q6 ?_ | refine Q7 ?_ | refine Q8 ?_ | refine Q9 ?_ | refine Qa ?_ | refine Qb ?_ | refine Qc ?_ | refine Qd ?_ | refine Qe ?_ | refine Qf ?_) | ((with_reducible refine Qo ?_ ?_); focus rfl) | ((with_reducible first | refine QT 6 (l := ?_) ?_ ?_ | refine QF 6 (l := ?_) ?_ ?_); rotate_left 1; focus (simp only [Zu, Nat.reduceSub, Nat.reduceBEq]; with_reducible rfl)) | ((with_reducible first | refine QS (cfg_ok 27) Tab.none (s' := ?_) ?_ ?_ | refine QC (b := ?_) ?_ ?_); rotate_left 1; focus ((with_reducible refine QW ?_); simp only [Zg, seval, if_true, if_false, reduceCtorEq, Nat.reduceEqDiff]; with_reducible rfl)) | ((with_reducible refine QD (cfg_ok 27) Tab.none mixed_ok (tr := ?_) (s' := ?_) ?_ ?_ ?_); rotate_left 2; (focus ((with_reducible refine QW ?_); simp only [Zg, Zd, seval, if_true, if_false, reduceCtorEq, Nat.reduceEqDiff]; with_reducible rfl)); focus ((with_reducible refine QK ?_); simp only [Zk]; kernel_rfl)))
    (refine Ends.mk (by simp) (rs := ?_) (ks := ?_) hres hrts ?_ ?_ ?_; rotate_left 2; (focus (simp only [Ze, Zg, seval, if_true, if_false, reduceCtorEq, Nat.reduceEqDiff]; with_reducible rfl)); (focus simp); focus (first | with_reducible rfl | (simp only [Zv]; done)))
theorem eqv_S (v1 v2 : Value) (xs : List ((List (List Int) × List (List Int)) × Int)) (w : World) (h1 : Rd (RS RSplit) w [v1] xs) (h2 : Rd (RS RSplit) w [v2] xs) :
    Calls Tryz.prog 10 #[v1, v2] w (RetV w (.bool true)) :=
  AFn.one (v := .bool true) (fun A w u hu => rdV_bool.1 hu) (a_eqSplitS xs (by obtain ⟨_, _, _, a, b⟩ := h1.val; omega)) (args2 (arg_S h1) (arg_S h2))
theorem a_heldIIS (f : List (List Int)) (k : Int) (hk0 : 0 ≤ k) (hk : k + cnt_II f ≤ 4611686018427387904) : AFn Tryz.prog 44 [eLL (mkd_II f k), eI k] (· = [.val (.int (k + (cnt_II f : Nat)))]) :=
  AFn.of_s (v := .int .i64 _) (enters_of Tryz.func44 rfl rfl) (fun _ _ => rdV_int.2 ⟨rfl, by unfold In64; omega⟩) (fun w A vs ⟨v1, _, e1, h1, v2, _, e2, h2, e3⟩ => by subst e3; subst e2; subst e1; rw [arg_int h2]; exact held_II v1 f k w (Rd.of (rdLL h1)) hk0 hk)
theorem a_held2S (f : List (List Int)) (k : Int) (hk0 : 0 ≤ k) (hk : k + cnt_II f ≤ 4611686018427387904) : AFn Tryz.prog 44 [eLL (mkd_II f k), eI k] (· = [.val (.int (k + (cnt_II f : Nat)))]) :=
  AFn.of_s (v := .int .i64 _) (enters_of Tryz.func44 rfl rfl) (fun _ _ => rdV_int.2 ⟨rfl, by unfold In64; omega⟩) (fun w A vs ⟨v1, _, e1, h1, v2, _, e2, h2, e3⟩ => by subst e3; subst e2; subst e1; rw [arg_int h2]; exact held_II v1 f k w (Rd.of (rdLL h1)) hk0 hk)
theorem a_heldSplitS (xs : List ((List (List Int) × List (List Int)) × Int)) (k0 : Int) (hl : xs.length ≤ maxLen) (hk0 : 0 ≤ k0) (hk : k0 + cnt_S xs ≤ 4611686018427387904) : AFn Tryz.prog 14 [[.sl 3 ((mkd_S xs k0).map eSs)], eI k0] (· = [.val (.int (k0 + (cnt_S xs : Nat)))]) := by
  unfold maxLen at hl
  have hle : ((mkd_S xs k0).map eSs).length = xs.length := by rw [List.length_map, mkd_S_len]
  have hle2 := mkd_S_len xs k0
  refine AFn.of_runs (cfg_ok 40) Tryz.func14 rfl rfl rfl (by simp only [List.length_cons, List.length_nil]; decide) ?_
  have hres : Tryz.f14.results.toList = [.tmp 4] := rfl
  have hrts : Tryz.f14.resultTypes.toList = [3] := rfl
  simp only [argRegs, argAV1, eL, eI, eLL, eB, Nat.zero_add, Nat.reduceAdd]
  intro M
  refine RunK.of ?_
  repeat' (first | with_reducible (first | refine Q1 ?_ | refine Q2 ?_ | refine Q3 ?_ | refine Q4 ?_ | refine Q5 ?_ | refine Q6 ?_ | refine Q7 ?_ | refine Q8 ?_ | refine Q9 ?_ | refine Qa ?_ | refine Qb ?_ | refine Qc ?_ | refine Qd ?_ | refine Qe ?_ | refine Qf ?_) | ((with_reducible refine Qo ?_ ?_); focus rfl) | ((with_reducible first | refine QT 6 (l := ?_) ?_ ?_ | refine QF 6 (l := ?_) ?_ ?_); rotate_left 1; focus (simp only [Zu, Nat.reduceSub, Nat.reduceBEq]; with_reducible rfl)) | ((with_reducible first | refine QS (cfg_ok 40) Tab.none (s' := ?_) ?_ ?_ | refine QC (b := ?_) ?_ ?_); rotate_left 1; focus ((with_reducible refine QW ?_); simp only [Zg, seval, if_true, if_false, reduceCtorEq, Nat.reduceEqDiff]; with_reducible rfl)))
  refine RunK.loop (β := Nat) (γ := Unit) (fun i => ⟨[(0, .c (.val (.sl 3 ((mkd_S xs k0).map eSs)))), (1, .c (.val (.int (k0 + (cnt_S (xs.take i) : Nat))))), (5, .c (.val (.int i)))], []⟩) (fun i => i ≤ xs.length) (fun i => xs.length - i)
    (fun _ => ⟨[(1, .c (.val (.int (k0 + (cnt_S xs : Nat)))))], []⟩) (fun _ => True) 0 (Nat.zero_le _) ?_ ?_ ?_
  · (repeat' (first | with_reducible refine Qn | ((with_reducible refine Qr ?_ ?_); focus (first | with_reducible rfl | (simp only [Zz, Nat.reduceBEq, List.take_zero, show cnt_S [] = 0 from rfl, Int.natCast_zero, Int.add_zero]; done) | rfl)) | ((with_reducible refine Qj (o' := ?_) ?_ ?_ ?_); rotate_left 1; focus rfl) | ((with_reducible refine Qw ?_ ?_); (focus (first | with_reducible rfl | (simp only [Zv, List.take_zero, show cnt_S [] = 0 from rfl, Int.natCast_zero, Int.add_zero]; done))); focus (first | exact id | exact (fun h => nomatch h) | exact (fun _ => rfl)))))
  · intro i hi
    have hi : i ≤ xs.length := hi
    by_cases h : i < xs.length
    · have hw := w64_succ (n := i) (by omega)
      have i1 : ((i : Int) < (xs.length : Int)) = True := eq_true (by omega)
      have i2 : ((0 : Int) ≤ (i : Int)) = True := eq_true (by omega)
      have hgt := mkd_S_get xs k0 i h
      have hst := cnt_S_take_succ xs i h
      have hlt := cnt_S_take xs (i + 1)
      obtain ⟨n, hn⟩ : ∃ n, n = cnt_S (xs.take i) := ⟨_, rfl⟩
      rw [← hn] at hgt hst ⊢
      obtain ⟨f, hf⟩ : ∃ f, f = xs[i].1.1 := ⟨_, rfl⟩
      obtain ⟨g, hg2⟩ : ∃ g, g = xs[i].1.2 := ⟨_, rfl⟩
      rw [← hf, ← hg2] at hgt hst
      have hg : ((mkd_S xs k0).map eSs)[i]? = some [.sl 1 ((mkd_II f (k0 + n)).map eL), .sl 1 ((mkd_II g (k0 + n + cnt_II f)).map eL), .int (k0 + n + cnt_II f + cnt_II g)] := by
        rw [map_get (by rw [hle2]; exact h), hgt]; rfl
      have h1 := a_heldIIS f (k0 + n) (by omega) (by omega)
      have h2 := a_held2S g (k0 + n + cnt_II f) (by omega) (by omega)
      simp only [eLL, eL, eI] at h1 h2
      have c1 : (k0 + (n : Int) + (cnt_II f : Int) < 0) = False := eq_false (by omega)
      have c2 : (k0 + (n : Int) + (cnt_II f : Int) + (cnt_II g : Int) < 0) = False := eq_false (by omega)
      have c3 : (k0 + (n : Int) + (cnt_II f : Int) + (cnt_II g : Int) != k0 + n + cnt_II f + cnt_II g) = false := by simp
      have hw2 := w64_eq (n := k0 + (n : Int) + (cnt_II f : Int) + (cnt_II g : Int) + 1) (by omega)
      ((repeat' (first | with_reducible (first | refine Q1 ?_ | refine Q2 ?_ | refine Q3 ?_ | refine Q4 ?_ | refine Q5 ?_ | refine Q6 ?_ | refine Q7 ?_ | refine Q8 ?_ | refine Q9 ?_ | refine Qa ?_ | refine Qb ?_ | refine Qc ?_ | refine Qd ?_ | refine Qe ?_ | refine Qf ?_) | ((with_reducible refine Qo ?_ ?_); focus rfl) | ((with_reducible first | refine QT 6 (l := ?_) ?_ ?_ | refine QF 6 (l := ?_) ?_ ?_); rotate_left 1; focus (simp only [Zu, Nat.reduceSub, Nat.reduceBEq]; with_reducible rfl)) | ((with_reducible refine QC (b := ?_) ?_ ?_); rotate_left 1; focus ((with_reducible refine QW ?_); simp only [Zg, seval, if_true, if_false, reduceCtorEq, Nat.reduceEqDiff, hle, i1]; with_reducible rfl)))); ((with_reducible refine QS (cfg_ok 40) Tab.none (s' := ?_) ?_ ?_); rotate_left 1; focus ((with_reducible refine QW ?_); simp only [Zg, seval, if_true, if_false, reduceCtorEq, Nat.reduceEqDiff, hle, i1]; with_reducible rfl)); (repeat' (first | with_reducible (first | refine Q1 ?_ | refine Q2 ?_ | refine Q3 ?_ | refine Q4 ?_ | refine Q5 ?_ | refine Q6 ?_ | refine Q7 ?_ | refine Q8 ?_ | refine Q9 ?_ | refine Qa ?_ | refine Qb ?_ | refine Qc ?_ | refine Qd ?_ | refine Qe ?_ | refine Qf ?_) | ((with_reducible refine Qo ?_ ?_); focus rfl) | ((with_reducible first | refine QT 6 (l := ?_) ?_ ?_ | refine QF 6 (l := ?_) ?_ ?_); rotate_left 1; focus (simp only [Zu, Nat.reduceSub, Nat.reduceBEq]; with_reducible rfl)) | ((with_reducible refine QC (b := ?_) ?_ ?_); rotate_left 1; focus ((with_reducible refine QW ?_); simp only [Zg, seval, if_true, if_false, reduceCtorEq, Nat.reduceEqDiff, hle, i1]; with_reducible rfl)))))
      ((repeat' (first | with_reducible (first | refine Q1 ?_ | refine Q2 ?_ | refine Q3 ?_ | refine Q4 ?_ | refine Q5 ?_ | refine Q6 ?_ | refine Q7 ?_ | refine Q8 ?_ | refine Q9 ?_ | refine Qa ?_ | refine Qb ?_ | refine Qc ?_ | refine Qd ?_ | refine Qe ?_ | refine Qf ?_) | ((with_reducible refine Qo ?_ ?_); focus rfl) | ((with_reducible first | refine QT 6 (l := ?_) ?_ ?_ | refine QF 6 (l := ?_) ?_ ?_); rotate_left 1; focus (simp only [Zu, Nat.reduceSub, Nat.reduceBEq]; with_reducible rfl)) | ((with_reducible refine QC (b := ?_) ?_ ?_); rotate_left 1; focus ((with_reducible refine QW ?_); simp only [Zg, seval, if_true, if_false, reduceCtorEq, Nat.reduceEqDiff, hle, i1, i2, hg, Int.toNat_natCast]; with_reducible rfl)))); ((with_reducible refine QS (cfg_ok 40) (Tab.none.at' 44 h1) (s' := ?_) ?_ ?_); rotate_left 1; focus ((with_reducible refine QW ?_); simp only [Zg, seval, if_true, if_false, reduceCtorEq, Nat.reduceEqDiff, hle, i1, i2, hg, Int.toNat_natCast]; with_reducible rfl)); (repeat' (first | with_reducible (first | refine Q1 ?_ | refine Q2 ?_ | refine Q3 ?_ | refine Q4 ?_ | refine Q5 ?_ | refine Q6 ?_ | refine Q7 ?_ | refine Q8 ?_ | refine Q9 ?_ | refine Qa ?_ | refine Qb ?_ | refine Qc ?_ | refine Qd ?_ | refine Qe ?_ | refine Qf ?_) | ((with_reducible refine Qo ?_ ?_); focus rfl) | ((with_reducible first | refine QT 6 (l := ?_) ?_ ?_ | refine QF 6 (l := ?_) ?_ ?_); rotate_left 1; focus (simp only [Zu, Nat.reduceSub, Nat.reduceBEq]; with_reducible rfl)) | ((with_reducible refine QC (b := ?_) ?_ ?_); rotate_left 1; focus ((with_reducible refine QW ?_); simp only [Zg, seval, if_true, if_false, reduceCtorEq, Nat.reduceEqDiff, hle, i1, i2, hg, Int.toNat_natCast]; with_reducible rfl)))))
      repeat' (first | with_reducible (first | refine Q1 ?_ | refine Q2 ?_ | refine Q3 ?_ | refine Q4 ?_ | refine Q5 ?_ | refine Q6 ?_ | refine Q7 ?_ | refine Q8 ?_ | refine Q9 ?_ | refine Qa ?_ | refine Qb ?_ | refine Qc ?_ | refine Qd ?_ | refine Qe ?_ | refine Qf ?_) | ((with_reducible refine Qo ?_ ?_); focus rfl) | ((with_reducible first | refine QT 6 (l := ?_) ?_ ?_ | refine QF 6 (l := ?_) ?_ ?_); rotate_left 1; focus (simp only [Zu, Nat.reduceSub, Nat.reduceBEq]; with_reducible rfl)) | ((with_reducible first | refine QS (cfg_ok 40) (Tab.none.at' 44 h2) (s' := ?_) ?_ ?_ | refine QC (b := ?_) ?_ ?_); rotate_left 1; focus ((with_reducible refine QW ?_); simp only [Zg, seval, if_true, if_false, reduceCtorEq, Nat.reduceEqDiff, hle, i1, i2, hg, hw, c1, c2, c3, hw2, Int.toNat_natCast]; with_reducible rfl)))
      refine roundK.on (i + 1) ⟨h, by omega⟩ ?_
      have e : k0 + ((cnt_S (xs.take (i + 1)) : Nat) : Int) = k0 + n + cnt_II f + cnt_II g + 1 := by rw [hst]; omega
      rw [e]
      (repeat' (first | with_reducible refine Qn | ((with_reducible refine Qr ?_ ?_); focus (first | with_reducible rfl | (simp only [Zz, Nat.reduceBEq]; done) | rfl)) | ((with_reducible refine Qj (o' := ?_) ?_ ?_ ?_); rotate_left 1; focus rfl) | ((with_reducible refine Qw ?_ ?_); (focus (first | with_reducible rfl | (simp only [Zv]; done))); focus (first | exact id | exact (fun h => nomatch h) | exact (fun _ => rfl)))))
    · have i1 : ((i : Int) < (xs.length : Int)) = False := eq_false (by omega)
      obtain rfl : i = xs.length := by omega
      rw [List.take_length]
      repeat' (first | with_reducible (first | refine Q1 ?_ | refine Q2 ?_ | refine Q3 ?_ | refine Q4 ?_ | refine Q5 ?_ | refine Q6 ?_ | refine Q7 ?_ | refine Q8 ?_ | refine Q9 ?_ | refine Qa ?_ | refine Qb ?_ | refine Qc ?_ | refine Qd ?_ | refine Qe ?_ | refine Qf ?_) | ((with_reducible refine Qo ?_ ?_); focus rfl) | ((with_reducible first | refine QT 6 (l := ?_) ?_ ?_ | refine QF 6 (l := ?_) ?_ ?_); rotate_left 1; focus (simp only [Zu, Nat.reduceSub, Nat.reduceBEq]; with_reducible rfl)) | ((with_reducible first | refine QS (cfg_ok 40) Tab.none (s' := ?_) ?_ ?_ | refine QC (b := ?_) ?_ ?_); rotate_left 1; focus ((with_reducible refine QW ?_); simp only [Zg, seval, if_true, if_false, reduceCtorEq, Nat.reduceEqDiff, hle, i1]; with_reducible rfl)))
      refine roundK.out () trivial ?_
      (repeat' (first | with_reducible refine Qn | ((with_reducible refine Qr ?_ ?_); focus (first | with_reducible rfl | (simp only [Zz, Nat.reduceBEq]; done) | rfl)) | ((with_reducible refine Qj (o' := ?_) ?_ ?_ ?_); rotate_left 1; focus rfl) | ((with_reducible refine Qw ?_ ?_); (focus (first | with_reducible rfl | (simp only [Zv]; done))); focus (first | exact id | exact (fun h => nomatch h) | exact (fun _ => rfl)))))
  · rintro _ _
    repeat' (first | with_reducible (first | refine Q1 ?_ | refine Q2 ?_ | refine Q3 ?_ | refine Q4 ?_ | refine Q5 ?_ | refine Q6 ?_ | refine Q7 ?_ | refine Q8 ?_ | refine Q9 ?_ | refine Qa ?_ | refine Qb ?_ | refine Qc ?_ | refine Qd ?_ | refine Qe ?_ | refine Qf ?_) | ((with_reducible refine Qo ?_ ?_); focus rfl) | ((with_reducible first | refine QT 6 (l := ?_) ?_ ?_ | refine QF 6 (l := ?_) ?_ ?_); rotate_left 1; focus (simp only [Zu, Nat.reduceSub, Nat.reduceBEq]; with_reducible rfl)) | ((with_reducible first | refine QS (cfg_ok 40) Tab.none (s' := ?_) ?_ ?_ | refine QC (b := ?_) ?_ ?_); rotate_left 1; focus ((with_reducible refine QW ?_); simp only [Zg, seval, if_true, if_false, reduceCtorEq, Nat.reduceEqDiff]; with_reducible rfl)))
    (refine Ends.mk (by simp) (rs := ?_) (ks := ?_) hres hrts ?_ ?_ ?_; rotate_left 2; (focus (simp only [Ze, Zg, seval, if_true, if_false, reduceCtorEq, Nat.reduceEqDiff]; with_reducible rfl)); (focus simp); focus (first | with_reducible rfl | (simp only [Zv]; done)))
theorem held_S (v : Value) (xs : List ((List (List Int) × List (List Int)) × Int)) (k0 : Int) (w : World) (h : Rd (RS RSplit) w [v] (mkd_S xs k0)) (hk0 : 0 ≤ k0) (hk : k0 + cnt_S xs ≤ 4611686018427387904) :
    Calls Tryz.prog 14 #[v, .int .i64 k0] w (RetV w (.int .i64 (k0 + (cnt_S xs : Nat)))) :=
  AFn.one (v := .int .i64 _) (fun A w u hu => (rdV_int.1 hu).1) (a_heldSplitS xs k0 (by obtain ⟨_, _, _, a, b⟩ := h.val; rw [mkd_S_len] at a; omega) hk0 hk) (args2 (arg_S h) (arg_I (by unfold In64; omega)))
end Go.Proofs.YtkdkikmhlhcndaaGreat
namespace Go.Proofs.YtkdkikmhlhcndaaGreat
open Go.RowKit
def RetOC {α : Type} (R : Rep α) (w : World) (x : α) (code : Int) : Ending → World → Prop :=
  fun e w' => ∃ u, e = .returned (.tuple #[u, .int .i64 code]) ∧ Own R w.heap.size w'.heap.size w' [u] x ∧ Below w.heap.size w w'
end Go.Proofs.YtkdkikmhlhcndaaGreat
namespace Go.Proofs.YtkdkikmhlhcndaaGreat
open Go.RowKit
def cfOf (f : List (List Int)) : List (Spl × Int) × Int := if forB f = true then (gathS (prodS (f.map split)), 0) else ([], 1)
theorem cf_good {f : List (List Int)} (h : forB f = true) : (prodS (f.map split)).length ≤ 256 ∧ (gathS (prodS (f.map split))).length ≤ 256 ∧ ∀ z ∈ gathS (prodS (f.map split)), (1 ≤ z.2 ∧ z.2 ≤ 256) ∧ GoodS (sumLen f) z.1 := by
  have h0 := (gathS_is (prodS (f.map split))).len
  rw [List.length_map] at h0
  have h1 := prod_len (forB_lev h) (forB_spec h).1
  refine ⟨h1, by omega, fun z hz => ?_⟩
  obtain ⟨g1, g2, g3⟩ := gath_good (prod_good (forB_lev h)) z hz
  exact ⟨⟨g1, by omega⟩, g3⟩
theorem good_cnt {n : Nat} {z : Spl} (h : GoodS n z) : cnt_II z.1 + cnt_II z.2 ≤ 2 * n := by
  have h3 := h.2
  unfold cnt_II
  omega
theorem cnt_S_le : ∀ (L : List (Spl × Int)), (∀ z ∈ L, cnt_II z.1.1 + cnt_II z.1.2 ≤ 16) → cnt_S L ≤ 17 * L.length
  | [], _ => by simp [cnt_S]
  | z :: L, h => by
    have h1 := h z (by simp)
    have h2 := cnt_S_le L (fun x hx => h x (by simp [hx]))
    unfold cnt_S
    rw [List.length_cons, Nat.mul_succ]; omega
theorem cfOf_cnt (f : List (List Int)) : cnt_S (cfOf f).1 ≤ 1048576 := by
  unfold cfOf
  split
  · rename_i h
    obtain ⟨_, h1, h2⟩ := cf_good h
    have h8 := (forB_spec h).1
    have := cnt_S_le _ (fun z hz => by have := good_cnt (h2 z hz).2; omega)
    show cnt_S (gathS (prodS (f.map split))) ≤ _; omega
  · simp [cnt_S]
theorem a_impl_CutsOfForest (f : List (List Int)) (hc1 : sumLen f ≤ 1048576) (hc2 : f.length ≤ 1048576) : AFn Tryz.prog 9 [eLL f] (· = [.own 3 ((cfOf f).1.map eSs) true, .val (.int (cfOf f).2)]) := by
  have hl := a_impl_IsForest f (by omega) (by omega)
  simp only [eLL] at hl
  unfold cfOf
  refine AFn.of_runs (cfg_ok 10) Tryz.func9 rfl rfl rfl (by simp only [List.length_cons, List.length_nil]; decide) ?_
  have hres : Tryz.f9.results.toList = [.tmp 2, .tmp 3] := rfl
  have hrts : Tryz.f9.resultTypes.toList = [24, 2] := rfl
  simp only [argRegs, argAV1, eL, eI, eLL, eB, Nat.zero_add, Nat.reduceAdd]
  intro M
  refine RunK.of ?_
  by_cases h8 : forB f = true
  · rw [h8] at hl
    have hs := a_splitForest f (forB_lev h8) (forB_spec h8).1
    obtain ⟨g1, _, _⟩ := cf_good h8
    have hga : AOw Tryz.prog 39 [] 3 ((prodS (f.map split)).map eS0) [] (· = [.own 3 ((gathS (prodS (f.map split))).map eSs) true]) := a_gathered (prodS (f.map split)) (by omega) (fun s hs' => ((prod_good (forB_lev h8) s hs').ha (by have := (forB_spec h8).1; omega)).sm)
    simp only [eLL] at hs
    rw [if_pos h8]
    repeat' (first | with_reducible (first | refine Q1 ?_ | refine Q2 ?_ | refine Q3 ?_ | refine Q4 ?_ | refine Q5 ?_ | refine Q6 ?_ | refine Q7 ?_ | refine Q8 ?_ | refine Q9 ?_ | refine Qa ?_ | refine Qb ?_ | refine Qc ?_ | refine Qd ?_ | refine Qe ?_ | refine Qf ?_) | ((with_reducible refine Qo ?_ ?_); focus rfl) | ((with_reducible first | refine QT 4 (l := ?_) ?_ ?_ | refine QF 4 (l := ?_) ?_ ?_); rotate_left 1; focus (simp only [Zu, Nat.reduceSub, Nat.reduceBEq]; with_reducible rfl)) | ((with_reducible first | refine QS (cfg_ok 10) (((Tab.none.at' 38 hl).at' 40 hs).own' 39 0 hga) (s' := ?_) ?_ ?_ | refine QC (b := ?_) ?_ ?_); rotate_left 1; focus ((with_reducible refine QW ?_); simp only [Zg, seval, if_true, if_false, reduceCtorEq, Nat.reduceEqDiff, Tab.own', atOwn_eq]; with_reducible rfl)))
    (refine Ends.mk (by simp) (rs := ?_) (ks := ?_) hres hrts ?_ ?_ ?_; rotate_left 2; (focus (simp only [Ze, Zg, seval, if_true, if_false, reduceCtorEq, Nat.reduceEqDiff]; with_reducible rfl)); (focus simp); focus (first | with_reducible rfl | (simp only [Zv]; done)))
  · have h8' : forB f = false := by simpa using h8
    rw [h8'] at hl
    rw [if_neg h8]
    repeat' (first | with_reducible (first | refine Q1 ?_ | refine Q2 ?_ | refine Q3 ?_ | refine Q4 ?_ | refine Q5 ?_ | refine Q6 ?_ | refine Q7 ?_ | refine Q8 ?_ | refine Q9 ?_ | refine Qa ?_ | refine Qb ?_ | refine Qc ?_ | refine Qd ?_ | refine Qe ?_ | refine Qf ?_) | ((with_reducible refine Qo ?_ ?_); focus rfl) | ((with_reducible first | refine QT 4 (l := ?_) ?_ ?_ | refine QF 4 (l := ?_) ?_ ?_); rotate_left 1; focus (simp only [Zu, Nat.reduceSub, Nat.reduceBEq]; with_reducible rfl)) | ((with_reducible first | refine QS (cfg_ok 10) (Tab.none.at' 38 hl) (s' := ?_) ?_ ?_ | refine QC (b := ?_) ?_ ?_); rotate_left 1; focus ((with_reducible refine QW ?_); simp only [Zg, seval, if_true, if_false, reduceCtorEq, Nat.reduceEqDiff]; with_reducible rfl)))
    (refine Ends.mk (by simp) (rs := ?_) (ks := ?_) hres hrts ?_ ?_ ?_; rotate_left 2; (focus (simp only [Ze, Zg, seval, if_true, if_false, reduceCtorEq, Nat.reduceEqDiff]; with_reducible rfl)); (focus simp); focus (first | with_reducible rfl | (simp only [Zv]; done)))
theorem k_impl_CutsOfForest (v : Value) (f : List (List Int)) (w : World) (h : Rd (RS (RS RI)) w [v] f) (hsz : szII f) : Calls Tryz.prog 9 #[v] w (RetOC (RS RSplit) w (cfOf f).1 (cfOf f).2) :=
  AFn.oi encSs (a_impl_CutsOfForest f (by unfold szII at hsz; omega) (by unfold szII at hsz; omega)) (args1 (arg_LL h))
noncomputable def TCfs : Tab Tryz.prog :=
  Tab.none.add 36 (tab1 codLL fun f => if SmF f then some [.val (.sl 1 (f.map eL))] else none) (tab1_ok fun f rs h => by split at h; cases h; rename_i hs; exact AFn.val1 (a_l01Own2 f (by have := hs.1; omega) hs.b); cases h)
set_option maxRecDepth 20000 in
set_option maxHeartbeats 8000000 in
theorem a_spec_CutsOfForest (f : List (List Int)) (hc1 : sumLen f ≤ 1048576) (hc2 : f.length ≤ 1048576) : ∃ b, AFn Tryz.prog 7 [eLL f] (· = [.own 3 ((cfOf f).1.map eSs) b, .val (.int (cfOf f).2)]) := by
  have hl := a_l03Forest f hc1 hc2
  simp only [eLL] at hl
  unfold cfOf
  by_cases h8 : forB f = true
  rotate_left
  · have h8' : forB f = false := by simpa using h8
    rw [h8'] at hl
    rw [if_neg h8]
    refine ⟨true, ?_⟩
    refine AFn.of_runs (cfg_ok 41) Tryz.func7 rfl rfl rfl (by simp only [List.length_cons, List.length_nil]; decide) ?_
    have hres : Tryz.f7.results.toList = [.tmp 2, .tmp 3] := rfl
    have hrts : Tryz.f7.resultTypes.toList = [24, 2] := rfl
    simp only [argRegs, argAV1, eL, eI, eLL, eB, Nat.zero_add, Nat.reduceAdd]
    intro M
    refine RunK.of ?_
    repeat' (first | with_reducible (first | refine Q1 ?_ | refine Q2 ?_ | refine Q3 ?_ | refine Q4 ?_ | refine Q5 ?_ | refine Q6 ?_ | refine Q7 ?_ | refine Q8 ?_ | refine Q9 ?_ | refine Qa ?_ | refine Qb ?_ | refine Qc ?_ | refine Qd ?_ | refine Qe ?_ | refine Qf ?_) | ((with_reducible refine Qo ?_ ?_); focus rfl) | ((with_reducible first | refine QT 7 (l := ?_) ?_ ?_ | refine QF 7 (l := ?_) ?_ ?_); rotate_left 1; focus (simp only [Zu, Nat.reduceSub, Nat.reduceBEq]; with_reducible rfl)) | ((with_reducible first | refine QS (cfg_ok 41) (Tab.none.at' 34 hl) (s' := ?_) ?_ ?_ | refine QC (b := ?_) ?_ ?_); rotate_left 1; focus ((with_reducible refine QW ?_); simp only [Zg, seval, if_true, if_false, reduceCtorEq, Nat.reduceEqDiff]; with_reducible rfl)) | ((with_reducible refine QD (cfg_ok 41) (Tab.none.at' 34 hl) mixed_ok (tr := ?_) (s' := ?_) ?_ ?_ ?_); rotate_left 2; (focus ((with_reducible refine QW ?_); simp only [Zg, Zd, seval, if_true, if_false, reduceCtorEq, Nat.reduceEqDiff]; with_reducible rfl)); focus ((with_reducible refine QK ?_); simp only [Zk]; kernel_rfl)))
    (refine Ends.mk (by simp) (rs := ?_) (ks := ?_) hres hrts ?_ ?_ ?_; rotate_left 2; (focus (simp only [Ze, Zg, seval, if_true, if_false, reduceCtorEq, Nat.reduceEqDiff]; with_reducible rfl)); (focus simp); focus (first | with_reducible rfl | (simp only [Zv]; done)))
  rw [h8] at hl
  rw [if_pos h8]
  have hsm8 := (forB_spec h8).1
  have hfor := a_l05Forest_of 8 (fun b a1 a2 a3 => a_l05Tree 8 (Nat.le_refl _) b a1 a2 a3) f (fun b hb => ⟨forB_lev h8 b hb, forB_can h8 b hb, by have := sumLen_mem hb; omega⟩) hsm8
  obtain ⟨_, hgl, hgood⟩ := cf_good h8
  obtain ⟨L, hL⟩ : ∃ L, L = gathS (prodS (f.map split)) := ⟨_, rfl⟩
  rw [← hL] at hfor hgl hgood ⊢
  simp only [eLL] at hfor
  have hLm : (L.map eSp).length = L.length := List.length_map _
  refine ⟨false, ?_⟩
  refine AFn.of_runs (cfg_ok 41) Tryz.func7 rfl rfl rfl (by simp only [List.length_cons, List.length_nil]; decide) ?_
  have hres : Tryz.f7.results.toList = [.tmp 2, .tmp 3] := rfl
  have hrts : Tryz.f7.resultTypes.toList = [24, 2] := rfl
  simp only [argRegs, argAV1, eL, eI, eLL, eB, Nat.zero_add, Nat.reduceAdd]
  intro M
  refine RunK.of ?_
  repeat' (first | with_reducible (first | refine Q1 ?_ | refine Q2 ?_ | refine Q3 ?_ | refine Q4 ?_ | refine Q5 ?_ | refine Q6 ?_ | refine Q7 ?_ | refine Q8 ?_ | refine Q9 ?_ | refine Qa ?_ | refine Qb ?_ | refine Qc ?_ | refine Qd ?_ | refine Qe ?_ | refine Qf ?_) | ((with_reducible refine Qo ?_ ?_); focus rfl) | ((with_reducible first | refine QT 7 (l := ?_) ?_ ?_ | refine QF 7 (l := ?_) ?_ ?_); rotate_left 1; focus (simp only [Zu, Nat.reduceSub, Nat.reduceBEq]; with_reducible rfl)) | ((with_reducible first | refine QS (cfg_ok 41) ((Tab.none.at' 34 hl).at' 35 hfor) (s' := ?_) ?_ ?_ | refine QC (b := ?_) ?_ ?_); rotate_left 1; focus ((with_reducible refine QW ?_); simp only [Zg, seval, if_true, if_false, reduceCtorEq, Nat.reduceEqDiff]; with_reducible rfl)) | ((with_reducible refine QD (cfg_ok 41) ((Tab.none.at' 34 hl).at' 35 hfor) mixed_ok (tr := ?_) (s' := ?_) ?_ ?_ ?_); rotate_left 2; (focus ((with_reducible refine QW ?_); simp only [Zg, Zd, seval, if_true, if_false, reduceCtorEq, Nat.reduceEqDiff]; with_reducible rfl)); focus ((with_reducible refine QK ?_); simp only [Zk]; kernel_rfl)))
  refine RunK.loop (β := Nat) (γ := Unit) (fun i => ⟨[(4, .c (.val (.sl 3 (L.map eSp)))), (5, .c (.own 5 i)), (6, .c (.val (.int i)))], [(5, .row 3 ((L.take i).map eSs) false)]⟩) (fun i => i ≤ L.length) (fun i => L.length - i)
    (fun _ => ⟨[(5, .c (.own 5 L.length))], [(5, .row 3 (L.map eSs) false)]⟩) (fun _ => True) 0 (Nat.zero_le _) ?_ ?_ ?_
  · (repeat' (first | with_reducible refine Qn | ((with_reducible refine Qr ?_ ?_); focus (first | with_reducible rfl | (simp only [Zz, Nat.reduceBEq, List.take_zero, List.map_nil, Int.natCast_zero]; done) | rfl)) | ((with_reducible refine Qj (o' := ?_) ?_ ?_ ?_); rotate_left 1; focus rfl) | ((with_reducible refine Qw ?_ ?_); (focus (first | with_reducible rfl | (simp only [Zv, List.take_zero, List.map_nil, Int.natCast_zero]; done))); focus (first | exact id | exact (fun h => nomatch h) | exact (fun _ => rfl)))))
  · intro i hi
    have hi : i ≤ L.length := hi
    have hw := w64_succ (n := i) (by omega)
    have hrl : ((L.take i).map eSs).length = i := by rw [List.length_map, List.length_take]; omega
    by_cases hiL : i < L.length
    · have i1 : ((i : Int) < (L.length : Int)) = True := eq_true (by omega)
      have i2 : ((0 : Int) ≤ (i : Int)) = True := eq_true (by omega)
      obtain ⟨z, hz⟩ : ∃ z, z = L[i] := ⟨_, rfl⟩
      have hg : (L.map eSp)[i]? = some [.sl 1 (z.1.1.map eL), .sl 1 (z.1.2.map eL), .int z.2] := by rw [map_get hiL, hz]; rfl
      have htk : (L.take (i + 1)).map eSs = (L.take i).map eSs ++ [[.sl 1 (z.1.1.map eL), .sl 1 (z.1.2.map eL), .int z.2]] := by
        rw [hz, List.take_succ_eq_append_getElem hiL, List.map_append]; rfl
      have hz2 := (hgood L[i] (List.getElem_mem _)).2
      rw [← hz] at hz2
      have hha := (hz2.ha (by omega)).sm
      have t1 := eq_true hha.1
      have t2 := eq_true hha.2
      have q1 := big_le (n := i + 1) (by omega)
      have q2 := big_mul (n := i + 1) (c := 56) (by omega) (by omega)
      repeat' (first | with_reducible (first | refine Q1 ?_ | refine Q2 ?_ | refine Q3 ?_ | refine Q4 ?_ | refine Q5 ?_ | refine Q6 ?_ | refine Q7 ?_ | refine Q8 ?_ | refine Q9 ?_ | refine Qa ?_ | refine Qb ?_ | refine Qc ?_ | refine Qd ?_ | refine Qe ?_ | refine Qf ?_) | ((with_reducible refine Qo ?_ ?_); focus rfl) | ((with_reducible first | refine QT 7 (l := ?_) ?_ ?_ | refine QF 7 (l := ?_) ?_ ?_); rotate_left 1; focus (simp only [Zu, Nat.reduceSub, Nat.reduceBEq]; with_reducible rfl)) | ((with_reducible first | refine QS (cfg_ok 41) TCfs (s' := ?_) ?_ ?_ | refine QC (b := ?_) ?_ ?_); rotate_left 1; focus ((with_reducible refine QW ?_); simp only [Zg, seval, if_true, if_false, reduceCtorEq, Nat.reduceEqDiff, TCfs, TCfs, i1, i2, hg, hLm, hw, hrl, q1, q2, t1, t2, Int.toNat_natCast, List.length_map]; with_reducible rfl)) | ((with_reducible refine QD (cfg_ok 41) TCfs mixed_ok (tr := ?_) (s' := ?_) ?_ ?_ ?_); rotate_left 2; (focus ((with_reducible refine QW ?_); simp only [Zg, Zd, seval, if_true, if_false, reduceCtorEq, Nat.reduceEqDiff, TCfs, TCfs, i1, i2, hg, hLm, hw, hrl, q1, q2, t1, t2, Int.toNat_natCast, List.length_map]; with_reducible rfl)); focus ((with_reducible refine QK ?_); simp only [Zk]; kernel_rfl)))
      refine roundK.on (i + 1) ⟨hiL, by omega⟩ ?_
      rw [htk]
      (repeat' (first | with_reducible refine Qn | ((with_reducible refine Qr ?_ ?_); focus (first | with_reducible rfl | (simp only [Zz, Nat.reduceBEq]; done) | rfl)) | ((with_reducible refine Qj (o' := ?_) ?_ ?_ ?_); rotate_left 1; focus rfl) | ((with_reducible refine Qw ?_ ?_); (focus (first | with_reducible rfl | (simp only [Zv]; done))); focus (first | exact id | exact (fun h => nomatch h) | exact (fun _ => rfl)))))
    · have i1 : ((i : Int) < (L.length : Int)) = False := eq_false (by omega)
      obtain rfl : i = L.length := by omega
      repeat' (first | with_reducible (first | refine Q1 ?_ | refine Q2 ?_ | refine Q3 ?_ | refine Q4 ?_ | refine Q5 ?_ | refine Q6 ?_ | refine Q7 ?_ | refine Q8 ?_ | refine Q9 ?_ | refine Qa ?_ | refine Qb ?_ | refine Qc ?_ | refine Qd ?_ | refine Qe ?_ | refine Qf ?_) | ((with_reducible refine Qo ?_ ?_); focus rfl) | ((with_reducible first | refine QT 7 (l := ?_) ?_ ?_ | refine QF 7 (l := ?_) ?_ ?_); rotate_left 1; focus (simp only [Zu, Nat.reduceSub, Nat.reduceBEq]; with_reducible rfl)) | ((with_reducible first | refine QS (cfg_ok 41) Tab.none (s' := ?_) ?_ ?_ | refine QC (b := ?_) ?_ ?_); rotate_left 1; focus ((with_reducible refine QW ?_); simp only [Zg, seval, if_true, if_false, reduceCtorEq, Nat.reduceEqDiff, i1, hLm]; with_reducible rfl)) | ((with_reducible refine QD (cfg_ok 41) Tab.none mixed_ok (tr := ?_) (s' := ?_) ?_ ?_ ?_); rotate_left 2; (focus ((with_reducible refine QW ?_); simp only [Zg, Zd, seval, if_true, if_false, reduceCtorEq, Nat.reduceEqDiff, i1, hLm]; with_reducible rfl)); focus ((with_reducible refine QK ?_); simp only [Zk]; kernel_rfl)))
      refine roundK.out () trivial ?_
      rw [List.take_length]
      (repeat' (first | with_reducible refine Qn | ((with_reducible refine Qr ?_ ?_); focus (first | with_reducible rfl | (simp only [Zz, Nat.reduceBEq]; done) | rfl)) | ((with_reducible refine Qj (o' := ?_) ?_ ?_ ?_); rotate_left 1; focus rfl) | ((with_reducible refine Qw ?_ ?_); (focus (first | with_reducible rfl | (simp only [Zv]; done))); focus (first | exact id | exact (fun h => nomatch h) | exact (fun _ => rfl)))))
  · rintro _ _
    repeat' (first | with_reducible (first | refine Q1 ?_ | refine Q2 ?_ | refine Q3 ?_ | refine Q4 ?_ | refine Q5 ?_ | refine Q6 ?_ | refine Q7 ?_ | refine Q8 ?_ | refine Q9 ?_ | refine Qa ?_ | refine Qb ?_ | refine Qc ?_ | refine Qd ?_ | refine Qe ?_ | refine Qf ?_) | ((with_reducible refine Qo ?_ ?_); focus rfl) | ((with_reducible first | refine QT 7 (l := ?_) ?_ ?_ | refine QF 7 (l := ?_) ?_ ?_); rotate_left 1; focus (simp only [Zu, Nat.reduceSub, Nat.reduceBEq]; with_reducible rfl)) | ((with_reducible first | refine QS (cfg_ok 41) Tab.none (s' := ?_) ?_ ?_ | refine QC (b := ?_) ?_ ?_); rotate_left 1; focus ((with_reducible refine QW ?_); simp only [Zg, seval, if_true, if_false, reduceCtorEq, Nat.reduceEqDiff]; with_reducible rfl)) | ((with_reducible refine QD (cfg_ok 41) Tab.none mixed_ok (tr := ?_) (s' := ?_) ?_ ?_ ?_); rotate_left 2; (focus ((with_reducible refine QW ?_); simp only [Zg, Zd, seval, if_true, if_false, reduceCtorEq, Nat.reduceEqDiff]; with_reducible rfl)); focus ((with_reducible refine QK ?_); simp only [Zk]; kernel_rfl)))
    (refine Ends.mk (by simp) (rs := ?_) (ks := ?_) hres hrts ?_ ?_ ?_; rotate_left 2; (focus (simp only [Ze, Zg, seval, if_true, if_false, reduceCtorEq, Nat.reduceEqDiff]; with_reducible rfl)); (focus simp); focus (first | with_reducible rfl | (simp only [Zv]; done)))
theorem k_spec_CutsOfForest (v : Value) (f : List (List Int)) (w : World) (h : Rd (RS (RS RI)) w [v] f) (hsz : szII f) : Calls Tryz.prog 7 #[v] w (RetGI (RS RSplit) w (cfOf f).1 (cfOf f).2) := by
  obtain ⟨b, hb⟩ := a_spec_CutsOfForest f (by unfold szII at hsz; omega) (by unfold szII at hsz; omega)
  exact AFn.gi encSs (by cases b <;> first | exact .inl rfl | exact .inr (.inl rfl)) hb (args1 (arg_LL h))
end Go.Proofs.YtkdkikmhlhcndaaGreat
