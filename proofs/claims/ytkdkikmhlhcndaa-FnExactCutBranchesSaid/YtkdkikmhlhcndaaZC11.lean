/- Lemmas (11). -/
import Derived.Test.YtkdkikmhlhcndaaZC6
import Derived.Test.YtkdkikmhlhcndaaZC7
import Derived.Test.YtkdkikmhlhcndaaZC10
set_option linter.unusedSimpArgs false
set_option linter.unusedVariables false
namespace Go.Proofs.Ytkdkikmhlhcndaa
open Go.RowKit
def codLLL : Cod (List (List (List Int))) := codS 1 codLL
theorem codLLL_d (f g : List (List Int)) : codLLL.d [.sl 1 [[.sl 1 (f.map eL)], [.sl 1 (g.map eL)]]] = some [f, g] := codLLL.de [f, g]
def cat2 : List (List (List Int)) → Option (List Res)
  | [f, g] => if SmF f ∧ SmF g then some [.val (.sl 1 ((f ++ g).map eL))] else none
  | _ => none
theorem cat2_eq (f g : List (List Int)) : cat2 [f, g] = if SmF f ∧ SmF g then some [.val (.sl 1 ((f ++ g).map eL))] else none := rfl
noncomputable def TCat : Tab Try.prog :=
  Tab.none.add 64 (tab1 codLLL cat2) (tab1_ok fun bs rs h => by
    unfold cat2 at h
    split at h
    · rename_i f g
      split at h
      · rename_i hs
        cases h
        have hc := AFn.val1 (a_slicesConcatL [f, g] (by simp [cntL]; have := hs.1.1; have := hs.2.1; omega) (by simp))
        simp only [List.flatten_cons, List.flatten_nil, List.append_nil] at hc
        exact hc
      · cases h
    · cases h)
theorem a_branchesOf (t : List Int) (h : LevP t) (hl : t.length ≤ 1000) : AFn Try.prog 62 [eL t] (· = [.own 1 ((brs t).map eL) true]) :=
  afn_L_oo (enters_of Try.func62 rfl rfl) (fun u w h' => c_impl_branchesOf u t w h' h (by omega))
theorem foldS_snoc (A : List Spl) (Ls : List (List Spl)) (L : List Spl) : foldS A (Ls ++ [L]) = (foldS A Ls).flatMap fun s => L.map (catS s) := by unfold foldS; rw [List.foldl_append]; rfl
theorem flatS_len (A L : List Spl) : (A.flatMap fun s => L.map (catS s)).length = A.length * L.length := by
  induction A with
  | nil => simp
  | cons a A ih => rw [List.flatMap_cons, List.length_append, ih, List.length_map, List.length_cons, Nat.succ_mul, Nat.add_comm]
set_option maxRecDepth 20000 in
set_option maxHeartbeats 8000000 in
theorem a_splitTree : ∀ (n : Nat), n ≤ 8 → ∀ t : List Int, LevP t → t.length ≤ n → AFn Try.prog 36 [eL t] (· = [.own 3 ((split t).map eS0) false])
  | 0, _, t, h, hn => by have := h.pos; omega
  | n + 1, hn8, t, h, hn => by
    have hsb := sumLen_brs h
    have hlev := brs_lev h
    have hbr := AFn.valT (a_branchesOf t h (by omega))
    have hbl : (brs t).length ≤ 8 := by have := brs_few h; omega
    have hca := AFn.valT (a_canonical13 t h (by omega))
    simp only [eL, eLL] at hbr hca
    have hAg : ∀ k, (∀ s ∈ prodS (((brs t).take k).map split), GoodS (sumLen ((brs t).take k)) s) ∧ (prodS (((brs t).take k).map split)).length ≤ 256 ∧ sumLen ((brs t).take k) ≤ 7 := fun k => by
      have h1 := sumLen_take' (brs t) k
      exact ⟨prod_good (mem_take hlev), prod_len (mem_take hlev) (by omega), by omega⟩
    rw [split_eq h]
    refine AFn.of_runs (cfg_ok 80) Try.func36 rfl rfl rfl (by simp only [List.length_cons, List.length_nil]; decide) ?_
    have hres : Try.f36.results.toList = [.tmp 2] := rfl
    have hrts : Try.f36.resultTypes.toList = [50] := rfl
    simp only [argRegs, argAV1, eL, eI, eLL, eB, Nat.zero_add, Nat.reduceAdd]
    intro M
    refine RunK.of ?_
    repeat' (first | with_reducible (first | refine Q1 ?_ | refine Q2 ?_ | refine Q3 ?_ | refine Q4 ?_ | refine Q5 ?_ | refine Q6 ?_ | refine Q7 ?_ | refine Q8 ?_ | refine Q9 ?_ | refine Qa ?_ | refine Qb ?_ | refine Qc ?_ | refine Qd ?_ | refine Qe ?_ | refine Qf ?_) | ((with_reducible refine Qo ?_ ?_); focus rfl) | ((with_reducible first | refine QT 59 (l := ?_) ?_ ?_ | refine QF 59 (l := ?_) ?_ ?_); rotate_left 1; focus (simp only [Zu, Nat.reduceSub, Nat.reduceBEq]; with_reducible rfl)) | ((with_reducible first | refine QS (cfg_ok 80) (Tab.none.at' 62 hbr) (s' := ?_) ?_ ?_ | refine QC (b := ?_) ?_ ?_); rotate_left 1; focus ((with_reducible refine QW ?_); simp only [Zg, seval, if_true, if_false, reduceCtorEq, Nat.reduceEqDiff, List.length_map]; with_reducible rfl)) | ((with_reducible refine QD (cfg_ok 80) (Tab.none.at' 62 hbr) mixed_ok (tr := ?_) (s' := ?_) ?_ ?_ ?_); rotate_left 2; (focus ((with_reducible refine QW ?_); simp only [Zg, Zd, seval, if_true, if_false, reduceCtorEq, Nat.reduceEqDiff, List.length_map]; with_reducible rfl)); focus ((with_reducible refine QK ?_); simp only [Zk]; kernel_rfl)))
    refine RunK.loop (β := Nat) (γ := Unit) (fun k => ⟨[(0, .c (.val (.sl 1 (t.map eI)))), (3, .c (.own 3 (prodS (((brs t).take k).map split)).length)), (16, .c (.val (.sl 1 ((brs t).map eL)))), (17, .c (.val (.int (brs t).length))), (18, .c (.val (.int k)))], [(3, .row 3 ((prodS (((brs t).take k).map split)).map eS0) false)]⟩) (fun k => k ≤ (brs t).length) (fun k => (brs t).length - k)
      (fun _ => ⟨[(0, .c (.val (.sl 1 (t.map eI)))), (3, .c (.own 3 (prodS ((brs t).map split)).length))], [(3, .row 3 ((prodS ((brs t).map split)).map eS0) false)]⟩) (fun _ => True) 0 (Nat.zero_le _) ?_ ?_ ?_
    · (repeat' (first | with_reducible refine Qn | ((with_reducible refine Qr ?_ ?_); focus (first | with_reducible rfl | (simp only [Zz, Nat.reduceBEq, List.take_zero, List.map_nil, show prodS [] = [([], [])] from rfl, List.map_cons, eS0, List.length_singleton, Int.natCast_zero]; done) | rfl)) | ((with_reducible refine Qj (o' := ?_) ?_ ?_ ?_); rotate_left 1; focus rfl) | ((with_reducible refine Qw ?_ ?_); (focus (first | with_reducible rfl | (simp only [Zv, List.take_zero, List.map_nil, show prodS [] = [([], [])] from rfl, List.map_cons, eS0, List.length_singleton, Int.natCast_zero]; done))); focus (first | exact id | exact (fun h => nomatch h) | exact (fun _ => rfl)))))
    · intro k hk
      have hk : k ≤ (brs t).length := hk
      have hwk := w64_succ (n := k) (by omega)
      obtain ⟨g1, g2, g3⟩ := hAg k
      by_cases hkb : k < (brs t).length
      · have i1 : ((k : Int) < ((brs t).length : Int)) = True := eq_true (by omega)
        have i2 : ((0 : Int) ≤ (k : Int)) = True := eq_true (by omega)
        obtain ⟨b, hb⟩ : ∃ b, b = (brs t)[k] := ⟨_, rfl⟩
        have hbm : b ∈ brs t := by rw [hb]; exact List.getElem_mem _
        have hg : ((brs t).map eL)[k]? = some [.sl 1 (b.map eI)] := by rw [map_get hkb, hb]; rfl
        have hle : ((brs t).map eL).length = (brs t).length := List.length_map _
        have hblen := brs_short h b hbm
        have hih := AFn.val1 (a_splitTree n (by omega) b (hlev b hbm) (by omega))
        have hgB := split_good _ (Nat.le_refl _) (hlev b hbm)
        have hlB : (split b).length ≤ 256 := by
          have h1 := split_len _ (Nat.le_refl _) (hlev b hbm)
          have h2 : 2 ^ b.length ≤ 2 ^ 8 := Nat.pow_le_pow_right (by decide) (by omega)
          omega
        have htk : prodS (((brs t).take (k + 1)).map split) = (prodS (((brs t).take k).map split)).flatMap fun s => (split b).map (catS s) := by
          rw [hb, List.take_succ_eq_append_getElem hkb, List.map_append]; exact foldS_snoc _ _ _
        have hn2 : (prodS (((brs t).take (k + 1)).map split)).length ≤ 256 := (hAg (k + 1)).2.1
        obtain ⟨A, hA⟩ : ∃ A, A = prodS (((brs t).take k).map split) := ⟨_, rfl⟩
        obtain ⟨B, hB⟩ : ∃ B, B = split b := ⟨_, rfl⟩
        rw [← hA] at g1 g2 htk ⊢
        rw [← hB] at hih hgB hlB htk
        rw [htk] at hn2
        simp only [eL] at hih
        have hsA : ∀ s ∈ A, SmS s := fun s hs => ((g1 s hs).ha (by omega)).sm
        have hsB : ∀ s ∈ B, SmS s := fun s hs => ((hgB s hs).ha (by omega)).sm
        have hAl : (A.map eS0).length = A.length := List.length_map _
        repeat' (first | with_reducible (first | refine Q1 ?_ | refine Q2 ?_ | refine Q3 ?_ | refine Q4 ?_ | refine Q5 ?_ | refine Q6 ?_ | refine Q7 ?_ | refine Q8 ?_ | refine Q9 ?_ | refine Qa ?_ | refine Qb ?_ | refine Qc ?_ | refine Qd ?_ | refine Qe ?_ | refine Qf ?_) | ((with_reducible refine Qo ?_ ?_); focus rfl) | ((with_reducible first | refine QT 59 (l := ?_) ?_ ?_ | refine QF 59 (l := ?_) ?_ ?_); rotate_left 1; focus (simp only [Zu, Nat.reduceSub, Nat.reduceBEq]; with_reducible rfl)) | ((with_reducible first | refine QS (cfg_ok 80) Tab.none (s' := ?_) ?_ ?_ | refine QC (b := ?_) ?_ ?_); rotate_left 1; focus ((with_reducible refine QW ?_); simp only [Zg, seval, if_true, if_false, reduceCtorEq, Nat.reduceEqDiff, i1, i2, hg, hle, Int.toNat_natCast, List.length_map]; with_reducible rfl)) | ((with_reducible refine QD (cfg_ok 80) Tab.none mixed_ok (tr := ?_) (s' := ?_) ?_ ?_ ?_); rotate_left 2; (focus ((with_reducible refine QW ?_); simp only [Zg, Zd, seval, if_true, if_false, reduceCtorEq, Nat.reduceEqDiff, i1, i2, hg, hle, Int.toNat_natCast, List.length_map]; with_reducible rfl)); focus ((with_reducible refine QK ?_); simp only [Zk]; kernel_rfl)))
        refine RunK.loop (β := Nat) (γ := Unit) (fun i => ⟨[(0, .c (.val (.sl 1 (t.map eI)))), (3, .c (.own 3 A.length)), (5, .c (.val (.sl 1 (b.map eI)))), (6, .c (.own 6 ((A.take i).flatMap fun s => B.map (catS s)).length)), (16, .c (.val (.sl 1 ((brs t).map eL)))), (17, .c (.val (.int (brs t).length))), (18, .c (.val (.int k))), (23, .c (.own 3 A.length)), (24, .c (.val (.int A.length))), (25, .c (.val (.int i)))],
            [(3, .row 3 (A.map eS0) false), (6, .row 3 (((A.take i).flatMap fun s => B.map (catS s)).map eS0) false)]⟩) (fun i => i ≤ A.length) (fun i => A.length - i)
          (fun _ => ⟨[(0, .c (.val (.sl 1 (t.map eI)))), (6, .c (.own 6 (A.flatMap fun s => B.map (catS s)).length)), (16, .c (.val (.sl 1 ((brs t).map eL)))), (17, .c (.val (.int (brs t).length))), (18, .c (.val (.int k)))], [(6, .row 3 ((A.flatMap fun s => B.map (catS s)).map eS0) false)]⟩) (fun _ => True) 0 (Nat.zero_le _) ?_ ?_ ?_
        · (repeat' (first | with_reducible refine Qn | ((with_reducible refine Qr ?_ ?_); focus (first | with_reducible rfl | (simp only [Zz, Nat.reduceBEq, List.take_zero, List.flatMap_nil, List.map_nil, List.length_nil, Int.natCast_zero]; done) | rfl)) | ((with_reducible refine Qj (o' := ?_) ?_ ?_ ?_); rotate_left 1; focus rfl) | ((with_reducible refine Qw ?_ ?_); (focus (first | with_reducible rfl | (simp only [Zv, List.take_zero, List.flatMap_nil, List.map_nil, List.length_nil, Int.natCast_zero]; done))); focus (first | exact id | exact (fun h => nomatch h) | exact (fun _ => rfl)))))
        · intro i hi
          have hi : i ≤ A.length := hi
          have hwi := w64_succ (n := i) (by omega)
          by_cases hiA : i < A.length
          · have j1 : ((i : Int) < (A.length : Int)) = True := eq_true (by omega)
            have j2 : ((0 : Int) ≤ (i : Int)) = True := eq_true (by omega)
            obtain ⟨s, hs⟩ : ∃ s, s = A[i] := ⟨_, rfl⟩
            have hsm := hsA A[i] (List.getElem_mem _)
            have hgs : (A.map eS0)[i]? = some [.sl 1 (s.1.map eL), .sl 1 (s.2.map eL), .int 0] := by rw [map_get hiA, hs]; rfl
            have htkA : (A.take (i + 1)).flatMap (fun s => B.map (catS s)) = ((A.take i).flatMap fun s => B.map (catS s)) ++ B.map (catS s) := by
              rw [hs, List.take_succ_eq_append_getElem hiA, List.flatMap_append]; simp
            have hXl : ((A.take i).flatMap fun s => B.map (catS s)).length + B.length ≤ 256 := by
              rw [flatS_len] at hn2 ⊢
              rw [List.length_take, Nat.min_eq_left hi]
              have : (i + 1) * B.length ≤ A.length * B.length := Nat.mul_le_mul_right _ hiA
              rw [Nat.succ_mul] at this; omega
            rw [← hs] at hsm
            obtain ⟨X, hX⟩ : ∃ X, X = (A.take i).flatMap fun s => B.map (catS s) := ⟨_, rfl⟩
            rw [← hX] at htkA hXl ⊢
            have hBl : (B.map eS0).length = B.length := List.length_map _
            repeat' (first | with_reducible (first | refine Q1 ?_ | refine Q2 ?_ | refine Q3 ?_ | refine Q4 ?_ | refine Q5 ?_ | refine Q6 ?_ | refine Q7 ?_ | refine Q8 ?_ | refine Q9 ?_ | refine Qa ?_ | refine Qb ?_ | refine Qc ?_ | refine Qd ?_ | refine Qe ?_ | refine Qf ?_) | ((with_reducible refine Qo ?_ ?_); focus rfl) | ((with_reducible first | refine QT 59 (l := ?_) ?_ ?_ | refine QF 59 (l := ?_) ?_ ?_); rotate_left 1; focus (simp only [Zu, Nat.reduceSub, Nat.reduceBEq]; with_reducible rfl)) | ((with_reducible first | refine QS (cfg_ok 80) (Tab.none.at' 36 hih) (s' := ?_) ?_ ?_ | refine QC (b := ?_) ?_ ?_); rotate_left 1; focus ((with_reducible refine QW ?_); simp only [Zg, seval, if_true, if_false, reduceCtorEq, Nat.reduceEqDiff, j1, j2, hgs, hAl, hBl, Int.toNat_natCast]; with_reducible rfl)) | ((with_reducible refine QD (cfg_ok 80) (Tab.none.at' 36 hih) mixed_ok (tr := ?_) (s' := ?_) ?_ ?_ ?_); rotate_left 2; (focus ((with_reducible refine QW ?_); simp only [Zg, Zd, seval, if_true, if_false, reduceCtorEq, Nat.reduceEqDiff, j1, j2, hgs, hAl, hBl, Int.toNat_natCast]; with_reducible rfl)); focus ((with_reducible refine QK ?_); simp only [Zk]; kernel_rfl)))
            refine RunK.loop (β := Nat) (γ := Unit) (fun j => ⟨[(0, .c (.val (.sl 1 (t.map eI)))), (3, .c (.own 3 A.length)), (5, .c (.val (.sl 1 (b.map eI)))), (6, .c (.own 6 (X ++ (B.take j).map (catS s)).length)), (8, .optr 8 0 0), (16, .c (.val (.sl 1 ((brs t).map eL)))), (17, .c (.val (.int (brs t).length))), (18, .c (.val (.int k))), (23, .c (.own 3 A.length)), (24, .c (.val (.int A.length))), (25, .c (.val (.int i))), (30, .c (.val (.sl 3 (B.map eS0)))), (31, .c (.val (.int B.length))), (32, .c (.val (.int j)))],
                [(3, .row 3 (A.map eS0) false), (6, .row 3 ((X ++ (B.take j).map (catS s)).map eS0) false), (8, .row 3 [[.sl 1 (s.1.map eL), .sl 1 (s.2.map eL), .int 0]] false)]⟩) (fun j => j ≤ B.length) (fun j => B.length - j)
              (fun _ => ⟨[(0, .c (.val (.sl 1 (t.map eI)))), (3, .c (.own 3 A.length)), (5, .c (.val (.sl 1 (b.map eI)))), (6, .c (.own 6 (X ++ B.map (catS s)).length)), (16, .c (.val (.sl 1 ((brs t).map eL)))), (17, .c (.val (.int (brs t).length))), (18, .c (.val (.int k))), (23, .c (.own 3 A.length)), (24, .c (.val (.int A.length))), (25, .c (.val (.int i)))],
                [(3, .row 3 (A.map eS0) false), (6, .row 3 ((X ++ B.map (catS s)).map eS0) false)]⟩) (fun _ => True) 0 (Nat.zero_le _) ?_ ?_ ?_
            · (repeat' (first | with_reducible refine Qn | ((with_reducible refine Qr ?_ ?_); focus (first | with_reducible rfl | (simp only [Zz, Nat.reduceBEq, List.take_zero, List.map_nil, List.append_nil, Int.natCast_zero]; done) | rfl)) | ((with_reducible refine Qj (o' := ?_) ?_ ?_ ?_); rotate_left 1; focus rfl) | ((with_reducible refine Qw ?_ ?_); (focus (first | with_reducible rfl | (simp only [Zv, List.take_zero, List.map_nil, List.append_nil, Int.natCast_zero]; done))); focus (first | exact id | exact (fun h => nomatch h) | exact (fun _ => rfl)))))
            · intro j hj
              have hj : j ≤ B.length := hj
              have hwj := w64_succ (n := j) (by omega)
              by_cases hjB : j < B.length
              · have l1 : ((j : Int) < (B.length : Int)) = True := eq_true (by omega)
                have l2 : ((0 : Int) ≤ (j : Int)) = True := eq_true (by omega)
                obtain ⟨c, hc⟩ : ∃ c, c = B[j] := ⟨_, rfl⟩
                have hcm := hsB B[j] (List.getElem_mem _)
                have hgc : (B.map eS0)[j]? = some [.sl 1 (c.1.map eL), .sl 1 (c.2.map eL), .int 0] := by rw [map_get hjB, hc]; rfl
                have htkB : X ++ (B.take (j + 1)).map (catS s) = (X ++ (B.take j).map (catS s)) ++ [catS s c] := by
                  rw [hc, List.take_succ_eq_append_getElem hjB, List.map_append, List.append_assoc]; rfl
                rw [← hc] at hcm
                have hYl : (X ++ (B.take j).map (catS s)).length ≤ 256 := by rw [List.length_append, List.length_map, List.length_take]; omega
                obtain ⟨Y, hY⟩ : ∃ Y, Y = X ++ (B.take j).map (catS s) := ⟨_, rfl⟩
                rw [← hY] at htkB hYl ⊢
                have q1 := big_le (n := Y.length + 1) (by omega)
                have q2 := big_mul (n := Y.length + 1) (c := 56) (by omega) (by omega)
                have hYm : (Y.map eS0).length = Y.length := List.length_map _
                have e1 := eq_true (And.intro hsm.1 hcm.1)
                have e2 := eq_true (And.intro hsm.2 hcm.2)
                repeat' (first | with_reducible (first | refine Q1 ?_ | refine Q2 ?_ | refine Q3 ?_ | refine Q4 ?_ | refine Q5 ?_ | refine Q6 ?_ | refine Q7 ?_ | refine Q8 ?_ | refine Q9 ?_ | refine Qa ?_ | refine Qb ?_ | refine Qc ?_ | refine Qd ?_ | refine Qe ?_ | refine Qf ?_) | ((with_reducible refine Qo ?_ ?_); focus rfl) | ((with_reducible first | refine QT 59 (l := ?_) ?_ ?_ | refine QF 59 (l := ?_) ?_ ?_); rotate_left 1; focus (simp only [Zu, Nat.reduceSub, Nat.reduceBEq]; with_reducible rfl)) | ((with_reducible first | refine QS (cfg_ok 80) Tab.none (s' := ?_) ?_ ?_ | refine QC (b := ?_) ?_ ?_); rotate_left 1; focus ((with_reducible refine QW ?_); simp only [Zg, seval, if_true, if_false, reduceCtorEq, Nat.reduceEqDiff, l1, l2, hgc, hBl, Int.toNat_natCast]; with_reducible rfl)) | ((with_reducible refine QD (cfg_ok 80) Tab.none mixed_ok (tr := ?_) (s' := ?_) ?_ ?_ ?_); rotate_left 2; (focus ((with_reducible refine QW ?_); simp only [Zg, Zd, seval, if_true, if_false, reduceCtorEq, Nat.reduceEqDiff, l1, l2, hgc, hBl, Int.toNat_natCast]; with_reducible rfl)); focus ((with_reducible refine QK ?_); simp only [Zk]; kernel_rfl)))
                (((with_reducible refine RunK.wFz (cfg_ok 80) TCat mixed_ok [41, 47] (tr := ?_) (s1 := ?_) (rest := ?_) ?_ ?_ ?_); rotate_left 3; (focus ((with_reducible refine QW ?_); simp only [Zg, Zd, seval, if_true, if_false, reduceCtorEq, Nat.reduceEqDiff, drunF, devalF, devalB, dregF_mk, List.contains_cons, List.contains_nil, TCat, TCat, codLLL_d, cat2_eq, e1, e2, q1, q2, hYm]; with_reducible rfl)); focus ((with_reducible refine QK ?_); simp only [Zk]; kernel_rfl)); (refine ROps.opsT (cfg_ok 80) (T := TCat) (s' := ?_) ?_ ?_; rotate_left 1; focus (simp only [Zg, seval, if_true, if_false, reduceCtorEq, Nat.reduceEqDiff, TCat, TCat, codLLL_d, cat2_eq, e1, e2, q1, q2, hYm]; with_reducible rfl)))
                repeat' (first | with_reducible (first | refine Q1 ?_ | refine Q2 ?_ | refine Q3 ?_ | refine Q4 ?_ | refine Q5 ?_ | refine Q6 ?_ | refine Q7 ?_ | refine Q8 ?_ | refine Q9 ?_ | refine Qa ?_ | refine Qb ?_ | refine Qc ?_ | refine Qd ?_ | refine Qe ?_ | refine Qf ?_) | ((with_reducible refine Qo ?_ ?_); focus rfl) | ((with_reducible first | refine QT 59 (l := ?_) ?_ ?_ | refine QF 59 (l := ?_) ?_ ?_); rotate_left 1; focus (simp only [Zu, Nat.reduceSub, Nat.reduceBEq]; with_reducible rfl)) | ((with_reducible first | refine QS (cfg_ok 80) Tab.none (s' := ?_) ?_ ?_ | refine QC (b := ?_) ?_ ?_); rotate_left 1; focus ((with_reducible refine QW ?_); simp only [Zg, seval, if_true, if_false, reduceCtorEq, Nat.reduceEqDiff, hwj]; with_reducible rfl)) | ((with_reducible refine QD (cfg_ok 80) Tab.none mixed_ok (tr := ?_) (s' := ?_) ?_ ?_ ?_); rotate_left 2; (focus ((with_reducible refine QW ?_); simp only [Zg, Zd, seval, if_true, if_false, reduceCtorEq, Nat.reduceEqDiff, hwj]; with_reducible rfl)); focus ((with_reducible refine QK ?_); simp only [Zk]; kernel_rfl)))
                refine roundK.on (j + 1) ⟨hjB, by omega⟩ ?_
                rw [htkB]
                (repeat' (first | with_reducible refine Qn | ((with_reducible refine Qr ?_ ?_); focus (first | with_reducible rfl | (simp only [Zz, Nat.reduceBEq, eS0, catS]; done) | rfl)) | ((with_reducible refine Qj (o' := ?_) ?_ ?_ ?_); rotate_left 1; focus rfl) | ((with_reducible refine Qw ?_ ?_); (focus (first | with_reducible rfl | (simp only [Zv, eS0, catS]; done))); focus (first | exact id | exact (fun h => nomatch h) | exact (fun _ => rfl)))))
              · have l1 : ((j : Int) < (B.length : Int)) = False := eq_false (by omega)
                obtain rfl : j = B.length := by omega
                rw [List.take_length]
                repeat' (first | with_reducible (first | refine Q1 ?_ | refine Q2 ?_ | refine Q3 ?_ | refine Q4 ?_ | refine Q5 ?_ | refine Q6 ?_ | refine Q7 ?_ | refine Q8 ?_ | refine Q9 ?_ | refine Qa ?_ | refine Qb ?_ | refine Qc ?_ | refine Qd ?_ | refine Qe ?_ | refine Qf ?_) | ((with_reducible refine Qo ?_ ?_); focus rfl) | ((with_reducible first | refine QT 59 (l := ?_) ?_ ?_ | refine QF 59 (l := ?_) ?_ ?_); rotate_left 1; focus (simp only [Zu, Nat.reduceSub, Nat.reduceBEq]; with_reducible rfl)) | ((with_reducible first | refine QS (cfg_ok 80) Tab.none (s' := ?_) ?_ ?_ | refine QC (b := ?_) ?_ ?_); rotate_left 1; focus ((with_reducible refine QW ?_); simp only [Zg, seval, if_true, if_false, reduceCtorEq, Nat.reduceEqDiff, l1]; with_reducible rfl)) | ((with_reducible refine QD (cfg_ok 80) Tab.none mixed_ok (tr := ?_) (s' := ?_) ?_ ?_ ?_); rotate_left 2; (focus ((with_reducible refine QW ?_); simp only [Zg, Zd, seval, if_true, if_false, reduceCtorEq, Nat.reduceEqDiff, l1]; with_reducible rfl)); focus ((with_reducible refine QK ?_); simp only [Zk]; kernel_rfl)))
                refine roundK.out () trivial ?_
                (repeat' (first | with_reducible refine Qn | ((with_reducible refine Qr ?_ ?_); focus (first | with_reducible rfl | (simp only [Zz, Nat.reduceBEq]; done) | rfl)) | ((with_reducible refine Qj (o' := ?_) ?_ ?_ ?_); rotate_left 1; focus rfl) | ((with_reducible refine Qw ?_ ?_); (focus (first | with_reducible rfl | (simp only [Zv]; done))); focus (first | exact id | exact (fun h => nomatch h) | exact (fun _ => rfl)))))
            · rintro _ _
              repeat' (first | with_reducible (first | refine Q1 ?_ | refine Q2 ?_ | refine Q3 ?_ | refine Q4 ?_ | refine Q5 ?_ | refine Q6 ?_ | refine Q7 ?_ | refine Q8 ?_ | refine Q9 ?_ | refine Qa ?_ | refine Qb ?_ | refine Qc ?_ | refine Qd ?_ | refine Qe ?_ | refine Qf ?_) | ((with_reducible refine Qo ?_ ?_); focus rfl) | ((with_reducible first | refine QT 59 (l := ?_) ?_ ?_ | refine QF 59 (l := ?_) ?_ ?_); rotate_left 1; focus (simp only [Zu, Nat.reduceSub, Nat.reduceBEq]; with_reducible rfl)) | ((with_reducible first | refine QS (cfg_ok 80) Tab.none (s' := ?_) ?_ ?_ | refine QC (b := ?_) ?_ ?_); rotate_left 1; focus ((with_reducible refine QW ?_); simp only [Zg, seval, if_true, if_false, reduceCtorEq, Nat.reduceEqDiff, hwi]; with_reducible rfl)) | ((with_reducible refine QD (cfg_ok 80) Tab.none mixed_ok (tr := ?_) (s' := ?_) ?_ ?_ ?_); rotate_left 2; (focus ((with_reducible refine QW ?_); simp only [Zg, Zd, seval, if_true, if_false, reduceCtorEq, Nat.reduceEqDiff, hwi]; with_reducible rfl)); focus ((with_reducible refine QK ?_); simp only [Zk]; kernel_rfl)))
              refine roundK.on (i + 1) ⟨hiA, by omega⟩ ?_
              rw [htkA]
              (repeat' (first | with_reducible refine Qn | ((with_reducible refine Qr ?_ ?_); focus (first | with_reducible rfl | (simp only [Zz, Nat.reduceBEq]; done) | rfl)) | ((with_reducible refine Qj (o' := ?_) ?_ ?_ ?_); rotate_left 1; focus rfl) | ((with_reducible refine Qw ?_ ?_); (focus (first | with_reducible rfl | (simp only [Zv]; done))); focus (first | exact id | exact (fun h => nomatch h) | exact (fun _ => rfl)))))
          · have j1 : ((i : Int) < (A.length : Int)) = False := eq_false (by omega)
            obtain rfl : i = A.length := by omega
            rw [List.take_length]
            repeat' (first | with_reducible (first | refine Q1 ?_ | refine Q2 ?_ | refine Q3 ?_ | refine Q4 ?_ | refine Q5 ?_ | refine Q6 ?_ | refine Q7 ?_ | refine Q8 ?_ | refine Q9 ?_ | refine Qa ?_ | refine Qb ?_ | refine Qc ?_ | refine Qd ?_ | refine Qe ?_ | refine Qf ?_) | ((with_reducible refine Qo ?_ ?_); focus rfl) | ((with_reducible first | refine QT 59 (l := ?_) ?_ ?_ | refine QF 59 (l := ?_) ?_ ?_); rotate_left 1; focus (simp only [Zu, Nat.reduceSub, Nat.reduceBEq]; with_reducible rfl)) | ((with_reducible first | refine QS (cfg_ok 80) Tab.none (s' := ?_) ?_ ?_ | refine QC (b := ?_) ?_ ?_); rotate_left 1; focus ((with_reducible refine QW ?_); simp only [Zg, seval, if_true, if_false, reduceCtorEq, Nat.reduceEqDiff, j1]; with_reducible rfl)) | ((with_reducible refine QD (cfg_ok 80) Tab.none mixed_ok (tr := ?_) (s' := ?_) ?_ ?_ ?_); rotate_left 2; (focus ((with_reducible refine QW ?_); simp only [Zg, Zd, seval, if_true, if_false, reduceCtorEq, Nat.reduceEqDiff, j1]; with_reducible rfl)); focus ((with_reducible refine QK ?_); simp only [Zk]; kernel_rfl)))
            refine roundK.out () trivial ?_
            (repeat' (first | with_reducible refine Qn | ((with_reducible refine Qr ?_ ?_); focus (first | with_reducible rfl | (simp only [Zz, Nat.reduceBEq]; done) | rfl)) | ((with_reducible refine Qj (o' := ?_) ?_ ?_ ?_); rotate_left 1; focus rfl) | ((with_reducible refine Qw ?_ ?_); (focus (first | with_reducible rfl | (simp only [Zv]; done))); focus (first | exact id | exact (fun h => nomatch h) | exact (fun _ => rfl)))))
        · rintro _ _
          repeat' (first | with_reducible (first | refine Q1 ?_ | refine Q2 ?_ | refine Q3 ?_ | refine Q4 ?_ | refine Q5 ?_ | refine Q6 ?_ | refine Q7 ?_ | refine Q8 ?_ | refine Q9 ?_ | refine Qa ?_ | refine Qb ?_ | refine Qc ?_ | refine Qd ?_ | refine Qe ?_ | refine Qf ?_) | ((with_reducible refine Qo ?_ ?_); focus rfl) | ((with_reducible first | refine QT 59 (l := ?_) ?_ ?_ | refine QF 59 (l := ?_) ?_ ?_); rotate_left 1; focus (simp only [Zu, Nat.reduceSub, Nat.reduceBEq]; with_reducible rfl)) | ((with_reducible first | refine QS (cfg_ok 80) Tab.none (s' := ?_) ?_ ?_ | refine QC (b := ?_) ?_ ?_); rotate_left 1; focus ((with_reducible refine QW ?_); simp only [Zg, seval, if_true, if_false, reduceCtorEq, Nat.reduceEqDiff, hwk]; with_reducible rfl)) | ((with_reducible refine QD (cfg_ok 80) Tab.none mixed_ok (tr := ?_) (s' := ?_) ?_ ?_ ?_); rotate_left 2; (focus ((with_reducible refine QW ?_); simp only [Zg, Zd, seval, if_true, if_false, reduceCtorEq, Nat.reduceEqDiff, hwk]; with_reducible rfl)); focus ((with_reducible refine QK ?_); simp only [Zk]; kernel_rfl)))
          refine roundK.on (k + 1) ⟨hkb, by omega⟩ ?_
          rw [htk]
          (repeat' (first | with_reducible refine Qn | ((with_reducible refine Qr ?_ ?_); focus (first | with_reducible rfl | (simp only [Zz, Nat.reduceBEq]; done) | rfl)) | ((with_reducible refine Qj (o' := ?_) ?_ ?_ ?_); rotate_left 1; focus rfl) | ((with_reducible refine Qw ?_ ?_); (focus (first | with_reducible rfl | (simp only [Zv]; done))); focus (first | exact id | exact (fun h => nomatch h) | exact (fun _ => rfl)))))
      · have i1 : ((k : Int) < ((brs t).length : Int)) = False := eq_false (by omega)
        obtain rfl : k = (brs t).length := by omega
        rw [List.take_length]
        repeat' (first | with_reducible (first | refine Q1 ?_ | refine Q2 ?_ | refine Q3 ?_ | refine Q4 ?_ | refine Q5 ?_ | refine Q6 ?_ | refine Q7 ?_ | refine Q8 ?_ | refine Q9 ?_ | refine Qa ?_ | refine Qb ?_ | refine Qc ?_ | refine Qd ?_ | refine Qe ?_ | refine Qf ?_) | ((with_reducible refine Qo ?_ ?_); focus rfl) | ((with_reducible first | refine QT 59 (l := ?_) ?_ ?_ | refine QF 59 (l := ?_) ?_ ?_); rotate_left 1; focus (simp only [Zu, Nat.reduceSub, Nat.reduceBEq]; with_reducible rfl)) | ((with_reducible first | refine QS (cfg_ok 80) Tab.none (s' := ?_) ?_ ?_ | refine QC (b := ?_) ?_ ?_); rotate_left 1; focus ((with_reducible refine QW ?_); simp only [Zg, seval, if_true, if_false, reduceCtorEq, Nat.reduceEqDiff, i1]; with_reducible rfl)) | ((with_reducible refine QD (cfg_ok 80) Tab.none mixed_ok (tr := ?_) (s' := ?_) ?_ ?_ ?_); rotate_left 2; (focus ((with_reducible refine QW ?_); simp only [Zg, Zd, seval, if_true, if_false, reduceCtorEq, Nat.reduceEqDiff, i1]; with_reducible rfl)); focus ((with_reducible refine QK ?_); simp only [Zk]; kernel_rfl)))
        refine roundK.out () trivial ?_
        (repeat' (first | with_reducible refine Qn | ((with_reducible refine Qr ?_ ?_); focus (first | with_reducible rfl | (simp only [Zz, Nat.reduceBEq]; done) | rfl)) | ((with_reducible refine Qj (o' := ?_) ?_ ?_ ?_); rotate_left 1; focus rfl) | ((with_reducible refine Qw ?_ ?_); (focus (first | with_reducible rfl | (simp only [Zv]; done))); focus (first | exact id | exact (fun h => nomatch h) | exact (fun _ => rfl)))))
    · rintro _ _
      have g1 := prod_good hlev
      have g2 := prod_len hlev (by omega)
      obtain ⟨A, hA⟩ : ∃ A, A = prodS ((brs t).map split) := ⟨_, rfl⟩
      rw [← hA] at g1 g2 ⊢
      repeat' (first | with_reducible (first | refine Q1 ?_ | refine Q2 ?_ | refine Q3 ?_ | refine Q4 ?_ | refine Q5 ?_ | refine Q6 ?_ | refine Q7 ?_ | refine Q8 ?_ | refine Q9 ?_ | refine Qa ?_ | refine Qb ?_ | refine Qc ?_ | refine Qd ?_ | refine Qe ?_ | refine Qf ?_) | ((with_reducible refine Qo ?_ ?_); focus rfl) | ((with_reducible first | refine QT 59 (l := ?_) ?_ ?_ | refine QF 59 (l := ?_) ?_ ?_); rotate_left 1; focus (simp only [Zu, Nat.reduceSub, Nat.reduceBEq]; with_reducible rfl)) | ((with_reducible first | refine QS (cfg_ok 80) Tab.none (s' := ?_) ?_ ?_ | refine QC (b := ?_) ?_ ?_); rotate_left 1; focus ((with_reducible refine QW ?_); simp only [Zg, seval, if_true, if_false, reduceCtorEq, Nat.reduceEqDiff]; with_reducible rfl)) | ((with_reducible refine QD (cfg_ok 80) Tab.none mixed_ok (tr := ?_) (s' := ?_) ?_ ?_ ?_); rotate_left 2; (focus ((with_reducible refine QW ?_); simp only [Zg, Zd, seval, if_true, if_false, reduceCtorEq, Nat.reduceEqDiff]; with_reducible rfl)); focus ((with_reducible refine QK ?_); simp only [Zk]; kernel_rfl)))
      refine RunK.loop (β := Nat) (γ := Unit) (fun i => ⟨[(0, .c (.val (.sl 1 (t.map eI)))), (3, .c (.own 3 A.length)), (56, .c (.own 3 A.length)), (57, .c (.val (.int A.length))), (58, .c (.val (.int i)))], [(3, .row 3 ((A.take i).map (fun s => eS0 (rootS s)) ++ (A.drop i).map eS0) false)]⟩) (fun i => i ≤ A.length) (fun i => A.length - i)
        (fun _ => ⟨[(0, .c (.val (.sl 1 (t.map eI)))), (3, .c (.own 3 A.length))], [(3, .row 3 (A.map fun s => eS0 (rootS s)) false)]⟩) (fun _ => True) 0 (Nat.zero_le _) ?_ ?_ ?_
      · (repeat' (first | with_reducible refine Qn | ((with_reducible refine Qr ?_ ?_); focus (first | with_reducible rfl | (simp only [Zz, Nat.reduceBEq, List.take_zero, List.drop_zero, List.map_nil, List.nil_append, Int.natCast_zero]; done) | rfl)) | ((with_reducible refine Qj (o' := ?_) ?_ ?_ ?_); rotate_left 1; focus rfl) | ((with_reducible refine Qw ?_ ?_); (focus (first | with_reducible rfl | (simp only [Zv, List.take_zero, List.drop_zero, List.map_nil, List.nil_append, Int.natCast_zero]; done))); focus (first | exact id | exact (fun h => nomatch h) | exact (fun _ => rfl)))))
      · intro i hi
        have hi : i ≤ A.length := hi
        have hwi := w64_succ (n := i) (by omega)
        have hrl : ((A.take i).map (fun s => eS0 (rootS s)) ++ (A.drop i).map eS0).length = A.length := by rw [List.length_append, List.length_map, List.length_map, List.length_take, List.length_drop]; omega
        by_cases hiA : i < A.length
        · have j1 : ((i : Int) < (A.length : Int)) = True := eq_true (by omega)
          have j2 : ((0 : Int) ≤ (i : Int)) = True := eq_true (by omega)
          obtain ⟨s, hs⟩ : ∃ s, s = A[i] := ⟨_, rfl⟩
          have hgood := g1 A[i] (List.getElem_mem _)
          have hdr : A.drop i = s :: A.drop (i + 1) := by rw [hs]; exact List.drop_eq_getElem_cons hiA
          have hti : ((A.take i).map fun s => eS0 (rootS s)).length = i := by rw [List.length_map, List.length_take]; omega
          have hgs : ((A.take i).map (fun s => eS0 (rootS s)) ++ (A.drop i).map eS0)[i]? = some [.sl 1 (s.1.map eL), .sl 1 (s.2.map eL), .int 0] := by
            rw [List.getElem?_append_right (by omega), hti, Nat.sub_self, hdr]; rfl
          rw [← hs] at hgood
          have hlv : ∀ b ∈ s.2, LevP b := fun b hb => (hgood.1 b (by simp [hb])).1
          have hsum := hgood.2
          have hro := AFn.valT (a_rootOn s.2 (fun b hb => (hlv b hb).small (by have := sumLen_mem hb; omega)) (by omega))
          have hcr := AFn.valT (a_canonical13 (rootOn s.2) (rootOn_lev hlv) (by rw [rootOn_len]; omega))
          simp only [eL, eLL] at hro hcr
          repeat' (first | with_reducible (first | refine Q1 ?_ | refine Q2 ?_ | refine Q3 ?_ | refine Q4 ?_ | refine Q5 ?_ | refine Q6 ?_ | refine Q7 ?_ | refine Q8 ?_ | refine Q9 ?_ | refine Qa ?_ | refine Qb ?_ | refine Qc ?_ | refine Qd ?_ | refine Qe ?_ | refine Qf ?_) | ((with_reducible refine Qo ?_ ?_); focus rfl) | ((with_reducible first | refine QT 59 (l := ?_) ?_ ?_ | refine QF 59 (l := ?_) ?_ ?_); rotate_left 1; focus (simp only [Zu, Nat.reduceSub, Nat.reduceBEq]; with_reducible rfl)) | ((with_reducible first | refine QS (cfg_ok 80) ((Tab.none.at' 65 hro).at' 49 hcr) (s' := ?_) ?_ ?_ | refine QC (b := ?_) ?_ ?_); rotate_left 1; focus ((with_reducible refine QW ?_); simp only [Zg, seval, if_true, if_false, reduceCtorEq, Nat.reduceEqDiff, j1, j2, hgs, hrl, hwi, Int.toNat_natCast]; with_reducible rfl)) | ((with_reducible refine QD (cfg_ok 80) ((Tab.none.at' 65 hro).at' 49 hcr) mixed_ok (tr := ?_) (s' := ?_) ?_ ?_ ?_); rotate_left 2; (focus ((with_reducible refine QW ?_); simp only [Zg, Zd, seval, if_true, if_false, reduceCtorEq, Nat.reduceEqDiff, j1, j2, hgs, hrl, hwi, Int.toNat_natCast]; with_reducible rfl)); focus ((with_reducible refine QK ?_); simp only [Zk]; kernel_rfl)))
          have hset : ((A.take i).map (fun s => eS0 (rootS s)) ++ (A.drop i).map eS0).set i [.sl 1 (s.1.map eL), .sl 1 [[.sl 1 ((canon (rootOn s.2)).map eI)]], .int 0] = (A.take (i + 1)).map (fun s => eS0 (rootS s)) ++ (A.drop (i + 1)).map eS0 := by
            rw [List.set_append_right _ _ (by omega), hti, Nat.sub_self, hdr, List.map_cons, List.set_cons_zero, List.take_succ_eq_append_getElem hiA, List.map_append, List.append_assoc, ← hs]
            rfl
          refine roundK.on (i + 1) ⟨hiA, by omega⟩ ?_
          rw [← hset]
          (repeat' (first | with_reducible refine Qn | ((with_reducible refine Qr ?_ ?_); focus (first | with_reducible rfl | (simp only [Zz, Nat.reduceBEq]; done) | rfl)) | ((with_reducible refine Qj (o' := ?_) ?_ ?_ ?_); rotate_left 1; focus rfl) | ((with_reducible refine Qw ?_ ?_); (focus (first | with_reducible rfl | (simp only [Zv]; done))); focus (first | exact id | exact (fun h => nomatch h) | exact (fun _ => rfl)))))
        · have j1 : ((i : Int) < (A.length : Int)) = False := eq_false (by omega)
          obtain rfl : i = A.length := by omega
          have hd0 : A.drop A.length = [] := List.drop_length
          repeat' (first | with_reducible (first | refine Q1 ?_ | refine Q2 ?_ | refine Q3 ?_ | refine Q4 ?_ | refine Q5 ?_ | refine Q6 ?_ | refine Q7 ?_ | refine Q8 ?_ | refine Q9 ?_ | refine Qa ?_ | refine Qb ?_ | refine Qc ?_ | refine Qd ?_ | refine Qe ?_ | refine Qf ?_) | ((with_reducible refine Qo ?_ ?_); focus rfl) | ((with_reducible first | refine QT 59 (l := ?_) ?_ ?_ | refine QF 59 (l := ?_) ?_ ?_); rotate_left 1; focus (simp only [Zu, Nat.reduceSub, Nat.reduceBEq]; with_reducible rfl)) | ((with_reducible first | refine QS (cfg_ok 80) Tab.none (s' := ?_) ?_ ?_ | refine QC (b := ?_) ?_ ?_); rotate_left 1; focus ((with_reducible refine QW ?_); simp only [Zg, seval, if_true, if_false, reduceCtorEq, Nat.reduceEqDiff, j1]; with_reducible rfl)) | ((with_reducible refine QD (cfg_ok 80) Tab.none mixed_ok (tr := ?_) (s' := ?_) ?_ ?_ ?_); rotate_left 2; (focus ((with_reducible refine QW ?_); simp only [Zg, Zd, seval, if_true, if_false, reduceCtorEq, Nat.reduceEqDiff, j1]; with_reducible rfl)); focus ((with_reducible refine QK ?_); simp only [Zk]; kernel_rfl)))
          refine roundK.out () trivial ?_
          rw [List.take_length, hd0, List.map_nil, List.append_nil]
          (repeat' (first | with_reducible refine Qn | ((with_reducible refine Qr ?_ ?_); focus (first | with_reducible rfl | (simp only [Zz, Nat.reduceBEq]; done) | rfl)) | ((with_reducible refine Qj (o' := ?_) ?_ ?_ ?_); rotate_left 1; focus rfl) | ((with_reducible refine Qw ?_ ?_); (focus (first | with_reducible rfl | (simp only [Zv]; done))); focus (first | exact id | exact (fun h => nomatch h) | exact (fun _ => rfl)))))
      · rintro _ _
        have q1 := big_le (n := A.length + 1) (by omega)
        have q2 := big_mul (n := A.length + 1) (c := 56) (by omega) (by omega)
        have hml : (A.map fun s => eS0 (rootS s)).length = A.length := List.length_map _
        repeat' (first | with_reducible (first | refine Q1 ?_ | refine Q2 ?_ | refine Q3 ?_ | refine Q4 ?_ | refine Q5 ?_ | refine Q6 ?_ | refine Q7 ?_ | refine Q8 ?_ | refine Q9 ?_ | refine Qa ?_ | refine Qb ?_ | refine Qc ?_ | refine Qd ?_ | refine Qe ?_ | refine Qf ?_) | ((with_reducible refine Qo ?_ ?_); focus rfl) | ((with_reducible first | refine QT 59 (l := ?_) ?_ ?_ | refine QF 59 (l := ?_) ?_ ?_); rotate_left 1; focus (simp only [Zu, Nat.reduceSub, Nat.reduceBEq]; with_reducible rfl)) | ((with_reducible first | refine QS (cfg_ok 80) (Tab.none.at' 49 hca) (s' := ?_) ?_ ?_ | refine QC (b := ?_) ?_ ?_); rotate_left 1; focus ((with_reducible refine QW ?_); simp only [Zg, seval, if_true, if_false, reduceCtorEq, Nat.reduceEqDiff, q1, q2, hml]; with_reducible rfl)) | ((with_reducible refine QD (cfg_ok 80) (Tab.none.at' 49 hca) mixed_ok (tr := ?_) (s' := ?_) ?_ ?_ ?_); rotate_left 2; (focus ((with_reducible refine QW ?_); simp only [Zg, Zd, seval, if_true, if_false, reduceCtorEq, Nat.reduceEqDiff, q1, q2, hml]; with_reducible rfl)); focus ((with_reducible refine QK ?_); simp only [Zk]; kernel_rfl)))
        (refine Ends.mk (by simp) (rs := ?_) (ks := ?_) hres hrts ?_ ?_ ?_; rotate_left 2; (focus (simp only [Ze, Zg, seval, if_true, if_false, reduceCtorEq, Nat.reduceEqDiff, List.map_append, List.map_map, Function.comp_def, eS0, List.map_cons, List.map_nil, eL, rootS]; with_reducible rfl)); (focus simp); focus (first | with_reducible rfl | (simp only [Zv, List.map_append, List.map_map, Function.comp_def, eS0, List.map_cons, List.map_nil, eL, rootS]; done)))
end Go.Proofs.Ytkdkikmhlhcndaa
namespace Go.Proofs.Ytkdkikmhlhcndaa
open Go.RowKit
section
variable {α : Type} (f g : α → List (List D)) (n : α → Int)
def e3 (x : α) : List D := [.sl 1 (f x), .sl 1 (g x), .int (n x)]
def e3T (q : α × (List Nat × List Nat)) : List D := [.tag q.2.1 (.sl 1 (f q.1)), .tag q.2.2 (.sl 1 (g q.1)), .int (n q.1)]
def bl3 (q : α × (List Nat × List Nat)) : List Nat := q.2.1 ++ q.2.2
theorem tag_mk3 : ∀ (zs : List (α × (List Nat × List Nat))), TagL ((zs.map (·.1)).map (e3 f g n)) (zs.map (e3T f g n)) ((zs.map bl3).flatten)
  | [] => ⟨rfl, rfl⟩
  | z :: zs => ⟨_, _, bl3 z, _, rfl, rfl, ⟨_, _, z.2.1, z.2.2, rfl, rfl, .inl rfl, ⟨_, _, z.2.2, [], rfl, (List.append_nil _).symm, .inl rfl, ⟨_, [], [], [], rfl, rfl, .inr ⟨rfl, rfl, rfl⟩, rfl, rfl⟩⟩⟩, tag_mk3 zs⟩
theorem tag_rows3 : ∀ {L : List α} {xs' : List (List D)} {F : List Nat}, TagL (L.map (e3 f g n)) xs' F → PlainL (L.map (e3 f g n)) xs' → ∃ zs : List (α × (List Nat × List Nat)), L = zs.map (·.1) ∧ xs' = zs.map (e3T f g n) ∧ F = (zs.map bl3).flatten
  | [], xs', F, ⟨h1, h2⟩, _ => ⟨[], rfl, h1, h2⟩
  | p :: L, xs', F, ⟨y, ys, G, H, h1, h2, h3, h4⟩, ⟨y', ys', p1, p2, p3⟩ => by
    obtain ⟨e1, e2⟩ : y = y' ∧ ys = ys' := by rw [h1] at p1; simpa using p1
    subst e1; subst e2
    obtain ⟨zs, e1, e2, e3'⟩ := tag_rows3 h4 p3
    obtain ⟨y0, ys0, G0, H0, k1, k2, k3, y1, ys1, G1, H1, k4, k5, k6, y2, ys2, G2, H2, m4, m5, m6, m7, m8⟩ := h3
    obtain ⟨x0, xs0, a1, _, x1, xs1, a2, _, x2, xs2, a3, a4, _⟩ := p2
    obtain ⟨b1, b2⟩ : y0 = x0 ∧ ys0 = xs0 := by rw [k1] at a1; simpa using a1
    subst b1; subst b2
    obtain ⟨b1, b2⟩ : y1 = x1 ∧ ys1 = xs1 := by rw [k4] at a2; simpa using a2
    subst b1; subst b2
    obtain ⟨b1, b2⟩ : y2 = x2 ∧ ys2 = xs2 := by rw [m4] at a3; simpa using a3
    subst b1; subst b2
    have hy2 := a4 rfl
    subst m7; subst m8
    have hG2 : G2 = [] := by
      rcases m6 with m6 | ⟨_, _, m6⟩
      · rw [m6] at hy2; cases hy2
      · exact m6
    subst hG2; subst hy2
    rcases k3 with rfl | ⟨k3, _⟩
    · rcases k6 with rfl | ⟨k6, _⟩
      · exact ⟨(p, (G0, G1)) :: zs, by rw [e1]; rfl, by rw [h1, k1, k4, m4, e2]; rfl, by rw [h2, k2, k5, m5, e3']; simp [bl3]⟩
      · cases k6
    · cases k3
end
abbrev Cu := (List (List Int) × List Int) × Int
def eCu : Cu → List D := e3 (fun c : Cu => c.1.1.map eL) (fun c => c.1.2.map eI) (·.2)
def cutS (z : Spl × Int) : Cu := ((z.1.1, z.1.2.headD []), z.2)
def cutsL (t : List Int) : List Cu := (gathS (split t)).map cutS
section
variable {P : Program} {cfg : Cfg} {M : Nat → Prop} {ops : Array Oper} {s : St} {w0 : W0} {w : World} {Ok : Nat → Prop} {N : Nat} {σ : Asg} {a : Act} {fs : List Fr} {Q : Exit → St → Prop}
theorem ROps.nilA {l : List Oper} {Q : St → Prop} {r k : Nat} {pre post : List AC} (hk : 0 < k) (hr : look r s.regs = some (.agg (pre ++ .nil :: post)))
    (h : ROps P cfg M ops l Q ⟨insR r (.agg (pre ++ .val (.tag [] (.sl k [])) :: post)) s.regs, s.heap⟩) : ROps P cfg M ops l Q s := by
  intro w0 Ok σ a w Q' hM hS hQ
  refine h w0 Ok σ a w Q' hM ⟨hS.below, hS.ok1, hS.ok2, hS.defers, hS.size, fun q av hq => ?_, hS.rows, hS.disj⟩ hQ
  rw [look_ins] at hq
  by_cases e : r = q
  · rw [if_pos e] at hq
    subst e
    cases hq
    obtain ⟨us, hv1, hv2⟩ := hS.regs r _ hr
    refine ⟨us, hv1, relCs_repl hv2 (fun v _ hn => ?_)⟩
    have hn : v = .slice none 0 0 := hn
    subst hn
    exact rdV_tag.2 ⟨by simp, ownV_sl.2 ⟨none, [], [], Row.nil _ k, ownR.nil hk, rfl⟩⟩
  · rw [if_neg e] at hq
    exact hS.regs q av hq
theorem ROps.openR {l : List Oper} {Q : St → Prop} {r k : Nat} {G : List Nat} {xs : List (List D)} (hr : look r s.regs = some (.c (.val (.tag G (.sl k xs)))))
    (h : ∀ xs' F, TagL xs xs' F → PlainL xs xs' → F.Sublist G → ROps P cfg M ops l Q ⟨insR r (.c (.val (.sl k xs'))) s.regs, s.heap⟩) : ROps P cfg M ops l Q s := by
  intro w0 Ok σ a w Q' hM hS hQ
  obtain ⟨xs', F, h1, h2, h3, h4⟩ := hS.openR hr
  exact h xs' F h1 h2 h3 w0 Ok σ a w Q' hM h4 hQ
end
theorem tag_one {t : List Int} {xs' : List (List D)} {F : List Nat} (h : TagL [[.sl 1 (t.map eI)]] xs' F) : xs' = [[.tag F (.sl 1 (t.map eI))]] := by
  obtain ⟨y, ys, G, H, h1, h2, ⟨y0, ys0, G0, H0, k1, k2, k3, k4, k5⟩, h3, h4⟩ := h
  subst h3; subst h4; subst k4; subst k5
  rcases k3 with rfl | ⟨k3, _⟩
  · rw [h1, k1, h2, k2]; simp
  · cases k3
theorem split_trunk (t : List Int) (h : LevP t) : ∀ s ∈ split t, s.2.length ≤ 1 := fun s hs => by
  rw [split_eq h] at hs
  rcases List.mem_append.1 hs with hs | hs
  · obtain ⟨a, _, rfl⟩ := List.mem_map.1 hs
    exact Nat.le_refl _
  · obtain rfl := List.mem_singleton.1 hs
    exact Nat.zero_le _
theorem gath_trunk (t : List Int) (h : LevP t) : ∀ z ∈ gathS (split t), z.1.2.length ≤ 1 := fun z hz => by
  obtain ⟨s, hs, e⟩ := List.mem_map.1 ((gathS_is (split t)).key z hz)
  rw [← e]
  show (sortC cmpT s.2).length ≤ 1
  rw [sortC_length]; exact split_trunk t h s hs
set_option maxRecDepth 20000 in
set_option maxHeartbeats 8000000 in
theorem a_cutsOf (t : List Int) (h : LevP t) (hl : t.length ≤ 8) : AFn Try.prog 40 [eL t] (· = [.own 3 ((cutsL t).map eCu) true]) := by
  have hsp := a_splitTree 8 (Nat.le_refl _) t h hl
  have hlen : (split t).length ≤ 256 := by
    have h1 := split_len _ (Nat.le_refl _) h
    have h2 : 2 ^ t.length ≤ 2 ^ 8 := Nat.pow_le_pow_right (by decide) hl
    omega
  have hga := a_gathered (split t) (by omega) (fun s hs => ((split_good _ (Nat.le_refl _) h s hs).ha (by omega)).sm)
  have hgl : (gathS (split t)).length ≤ 256 := by have := (gathS_is (split t)).len; rw [List.length_map] at this; omega
  have htr := gath_trunk t h
  obtain ⟨L, hL⟩ : ∃ L, L = gathS (split t) := ⟨_, rfl⟩
  have hcl : cutsL t = L.map cutS := by rw [hL]; rfl
  rw [hcl]
  rw [← hL] at hga hgl htr
  simp only [eL] at hsp
  refine AFn.of_runs (cfg_ok 36) Try.func40 rfl rfl rfl (by simp only [List.length_cons, List.length_nil]; decide) ?_
  have hres : Try.f40.results.toList = [.tmp 2] := rfl
  have hrts : Try.f40.resultTypes.toList = [34] := rfl
  simp only [argRegs, argAV1, eL, eI, eLL, eB, Nat.zero_add, Nat.reduceAdd]
  intro M
  refine RunK.of ?_
  repeat' (first | with_reducible (first | refine Q1 ?_ | refine Q2 ?_ | refine Q3 ?_ | refine Q4 ?_ | refine Q5 ?_ | refine Q6 ?_ | refine Q7 ?_ | refine Q8 ?_ | refine Q9 ?_ | refine Qa ?_ | refine Qb ?_ | refine Qc ?_ | refine Qd ?_ | refine Qe ?_ | refine Qf ?_) | ((with_reducible refine Qo ?_ ?_); focus rfl) | ((with_reducible first | refine QT 13 (l := ?_) ?_ ?_ | refine QF 13 (l := ?_) ?_ ?_); rotate_left 1; focus (simp only [Zu, Nat.reduceSub, Nat.reduceBEq]; with_reducible rfl)) | ((with_reducible first | refine QS (cfg_ok 36) ((Tab.none.at' 36 hsp).own' 67 0 hga) (s' := ?_) ?_ ?_ | refine QC (b := ?_) ?_ ?_); rotate_left 1; focus ((with_reducible refine QW ?_); simp only [Zg, seval, if_true, if_false, reduceCtorEq, Nat.reduceEqDiff, Tab.own', atOwn_eq, List.length_map]; with_reducible rfl)))
  refine RunK.tag' 10 (k := 3) (xs := L.map eSp) rfl ?_
  intro xs' F ht hpl hnd hF
  obtain ⟨zs, e1, e2, e3'⟩ := tag_rows3 _ _ _ ht hpl
  subst e2; subst e3'
  have hzl : zs.length = L.length := by rw [e1, List.length_map]
  refine RunK.loop (β := Nat × List (Cu × (List Nat × List Nat))) (γ := List (Cu × (List Nat × List Nat))) (fun x => ⟨[(3, .c (.own 3 x.2.length)), (10, .c (.own 10 L.length)), (11, .c (.val (.int L.length))), (12, .c (.val (.int x.1)))], [(3, .row 3 (x.2.map (e3T (fun c : Cu => c.1.1.map eL) (fun c => c.1.2.map eI) (·.2))) false), (10, .row 3 (zs.map (e3T (fun z : Spl × Int => z.1.1.map eL) (fun z => z.1.2.map eL) (·.2))) false)]⟩)
    (fun x => x.1 ≤ L.length ∧ x.2.map (fun q => q.1) = (L.take x.1).map cutS ∧ ((x.2.map bl3).flatten).Sublist ((zs.take x.1).map bl3).flatten) (fun x => L.length - x.1)
    (fun qs => ⟨[(3, .c (.own 3 qs.length))], [(3, .row 3 (qs.map (e3T (fun c : Cu => c.1.1.map eL) (fun c => c.1.2.map eI) (·.2))) false)]⟩) (fun qs => qs.map (fun q => q.1) = L.map cutS ∧ ((qs.map bl3).flatten).Sublist (zs.map bl3).flatten) (0, []) ⟨Nat.zero_le _, rfl, List.Sublist.refl _⟩ ?_ ?_ ?_
  · (repeat' (first | with_reducible refine Qn | ((with_reducible refine Qr ?_ ?_); focus (first | with_reducible rfl | (simp only [Zz, Nat.reduceBEq, List.map_nil, List.length_nil, Int.natCast_zero]; done) | rfl)) | ((with_reducible refine Qj (o' := ?_) ?_ ?_ ?_); rotate_left 1; focus rfl) | ((with_reducible refine Qw ?_ ?_); (focus (first | with_reducible rfl | (simp only [Zv, List.map_nil, List.length_nil, Int.natCast_zero]; done))); focus (first | exact id | exact (fun h => nomatch h) | exact (fun _ => rfl)))))
  · rintro ⟨i, qs⟩ ⟨hi, hq, hsub⟩
    simp only at hi hq hsub ⊢
    have hw := w64_succ (n := i) (by omega)
    have hqn : qs.length = i := by
      have := congrArg List.length hq
      rw [List.length_map, List.length_map, List.length_take] at this; omega
    have hzm : (zs.map (e3T (fun z : Spl × Int => z.1.1.map eL) (fun z => z.1.2.map eL) (·.2))).length = L.length := by rw [List.length_map, hzl]
    by_cases hiL : i < L.length
    · have hiz : i < zs.length := by omega
      have i1 : ((i : Int) < (L.length : Int)) = True := eq_true (by omega)
      have i2 : ((0 : Int) ≤ (i : Int)) = True := eq_true (by omega)
      obtain ⟨z, hz⟩ : ∃ z, z = zs[i] := ⟨_, rfl⟩
      have hLi : L[i] = z.1 := by simp only [e1, List.getElem_map, hz]
      have hg : (zs.map (e3T (fun z : Spl × Int => z.1.1.map eL) (fun z => z.1.2.map eL) (·.2)))[i]? = some (e3T (fun z : Spl × Int => z.1.1.map eL) (fun z => z.1.2.map eL) (·.2) z) := by rw [map_get hiz, hz]
      have hone := htr L[i] (List.getElem_mem _)
      have htkz : (zs.take (i + 1)).map bl3 = (zs.take i).map bl3 ++ [bl3 z] := by rw [List.take_succ_eq_append_getElem hiz, List.map_append, ← hz]; rfl
      have htkL : (L.take (i + 1)).map cutS = (L.take i).map cutS ++ [cutS z.1] := by rw [List.take_succ_eq_append_getElem hiL, List.map_append, hLi]; rfl
      rw [hLi] at hone
      obtain ⟨⟨⟨f, g⟩, n⟩, ⟨F, G⟩⟩ := z
      simp only [e3T] at hg
      simp only at hone
      have q1 := big_le (n := qs.length + 1) (by omega)
      have q2 := big_mul (n := qs.length + 1) (c := 56) (by omega) (by omega)
      match g, hone with
      | [], _ =>
        have j1 : ((([] : List (List Int)).length : Int) > 0) = False := eq_false (by simp)
        ((repeat' (first | with_reducible (first | refine Q1 ?_ | refine Q2 ?_ | refine Q3 ?_ | refine Q4 ?_ | refine Q5 ?_ | refine Q6 ?_ | refine Q7 ?_ | refine Q8 ?_ | refine Q9 ?_ | refine Qa ?_ | refine Qb ?_ | refine Qc ?_ | refine Qd ?_ | refine Qe ?_ | refine Qf ?_) | ((with_reducible refine Qo ?_ ?_); focus rfl) | ((with_reducible first | refine QT 13 (l := ?_) ?_ ?_ | refine QF 13 (l := ?_) ?_ ?_); rotate_left 1; focus (simp only [Zu, Nat.reduceSub, Nat.reduceBEq]; with_reducible rfl)) | ((with_reducible refine QC (b := ?_) ?_ ?_); rotate_left 1; focus ((with_reducible refine QW ?_); simp only [Zg, seval, if_true, if_false, reduceCtorEq, Nat.reduceEqDiff, i1]; with_reducible rfl)))); ((with_reducible refine QS (cfg_ok 36) Tab.none (s' := ?_) ?_ ?_); rotate_left 1; focus ((with_reducible refine QW ?_); simp only [Zg, seval, if_true, if_false, reduceCtorEq, Nat.reduceEqDiff, i1]; with_reducible rfl)); (repeat' (first | with_reducible (first | refine Q1 ?_ | refine Q2 ?_ | refine Q3 ?_ | refine Q4 ?_ | refine Q5 ?_ | refine Q6 ?_ | refine Q7 ?_ | refine Q8 ?_ | refine Q9 ?_ | refine Qa ?_ | refine Qb ?_ | refine Qc ?_ | refine Qd ?_ | refine Qe ?_ | refine Qf ?_) | ((with_reducible refine Qo ?_ ?_); focus rfl) | ((with_reducible first | refine QT 13 (l := ?_) ?_ ?_ | refine QF 13 (l := ?_) ?_ ?_); rotate_left 1; focus (simp only [Zu, Nat.reduceSub, Nat.reduceBEq]; with_reducible rfl)) | ((with_reducible refine QC (b := ?_) ?_ ?_); rotate_left 1; focus ((with_reducible refine QW ?_); simp only [Zg, seval, if_true, if_false, reduceCtorEq, Nat.reduceEqDiff, i1]; with_reducible rfl)))))
        ((repeat' (first | with_reducible (first | refine Q1 ?_ | refine Q2 ?_ | refine Q3 ?_ | refine Q4 ?_ | refine Q5 ?_ | refine Q6 ?_ | refine Q7 ?_ | refine Q8 ?_ | refine Q9 ?_ | refine Qa ?_ | refine Qb ?_ | refine Qc ?_ | refine Qd ?_ | refine Qe ?_ | refine Qf ?_) | ((with_reducible refine Qo ?_ ?_); focus rfl) | ((with_reducible first | refine QT 13 (l := ?_) ?_ ?_ | refine QF 13 (l := ?_) ?_ ?_); rotate_left 1; focus (simp only [Zu, Nat.reduceSub, Nat.reduceBEq]; with_reducible rfl)) | ((with_reducible refine QC (b := ?_) ?_ ?_); rotate_left 1; focus ((with_reducible refine QW ?_); simp only [Zg, seval, if_true, if_false, reduceCtorEq, Nat.reduceEqDiff, i1, i2, hg, hzm, Int.toNat_natCast]; with_reducible rfl)))); ((with_reducible refine QS (cfg_ok 36) Tab.none (s' := ?_) ?_ ?_); rotate_left 1; focus ((with_reducible refine QW ?_); simp only [Zg, seval, if_true, if_false, reduceCtorEq, Nat.reduceEqDiff, i1, i2, hg, hzm, Int.toNat_natCast]; with_reducible rfl)); (repeat' (first | with_reducible (first | refine Q1 ?_ | refine Q2 ?_ | refine Q3 ?_ | refine Q4 ?_ | refine Q5 ?_ | refine Q6 ?_ | refine Q7 ?_ | refine Q8 ?_ | refine Q9 ?_ | refine Qa ?_ | refine Qb ?_ | refine Qc ?_ | refine Qd ?_ | refine Qe ?_ | refine Qf ?_) | ((with_reducible refine Qo ?_ ?_); focus rfl) | ((with_reducible first | refine QT 13 (l := ?_) ?_ ?_ | refine QF 13 (l := ?_) ?_ ?_); rotate_left 1; focus (simp only [Zu, Nat.reduceSub, Nat.reduceBEq]; with_reducible rfl)) | ((with_reducible refine QC (b := ?_) ?_ ?_); rotate_left 1; focus ((with_reducible refine QW ?_); simp only [Zg, seval, if_true, if_false, reduceCtorEq, Nat.reduceEqDiff, i1, i2, hg, hzm, Int.toNat_natCast]; with_reducible rfl)))))
        refine RunK.regCut (cfg_ok 36) Tab.none 5 (s1 := ?_) ?_ ?_
        rotate_left 1
        focus (refine Work.mk ?_; simp only [Zg, seval, if_true, if_false, reduceCtorEq, Nat.reduceEqDiff]; with_reducible rfl)
        simp only [List.toList_toArray, List.drop_succ_cons, List.drop_zero]
        refine ROps.nilA (r := 20) (k := 1) (pre := [.val (.tag F (.sl 1 (f.map eL)))]) (post := [.val (.int n)]) (by decide) rfl ?_
        refine ROps.opsT (cfg_ok 36) (T := Tab.none) (s' := ?_) ?_ ?_
        rotate_left 1
        focus (simp only [Zg, seval, if_true, if_false, reduceCtorEq, Nat.reduceEqDiff]; with_reducible rfl)
        repeat' (first | with_reducible (first | refine Q1 ?_ | refine Q2 ?_ | refine Q3 ?_ | refine Q4 ?_ | refine Q5 ?_ | refine Q6 ?_ | refine Q7 ?_ | refine Q8 ?_ | refine Q9 ?_ | refine Qa ?_ | refine Qb ?_ | refine Qc ?_ | refine Qd ?_ | refine Qe ?_ | refine Qf ?_) | ((with_reducible refine Qo ?_ ?_); focus rfl) | ((with_reducible first | refine QT 13 (l := ?_) ?_ ?_ | refine QF 13 (l := ?_) ?_ ?_); rotate_left 1; focus (simp only [Zu, Nat.reduceSub, Nat.reduceBEq]; with_reducible rfl)) | ((with_reducible first | refine QS (cfg_ok 36) Tab.none (s' := ?_) ?_ ?_ | refine QC (b := ?_) ?_ ?_); rotate_left 1; focus ((with_reducible refine QW ?_); simp only [Zg, seval, if_true, if_false, reduceCtorEq, Nat.reduceEqDiff, j1, hw, q1, q2, List.length_map, List.length_nil]; with_reducible rfl)))
        refine roundK.on (i + 1, qs ++ [(((f, []), n), (F, []))]) ⟨⟨hiL, ?_, ?_⟩, by show L.length - (i + 1) < L.length - i; omega⟩ ?_
        · show List.map (fun q : Cu × (List Nat × List Nat) => q.1) (qs ++ [(((f, []), n), (F, []))]) = _
          rw [List.map_append, hq, htkL]; rfl
        · show (((qs ++ [(((f, []), n), (F, []))]).map bl3).flatten).Sublist _
          rw [htkz, List.map_append, List.flatten_append, List.flatten_append]
          refine List.Sublist.append hsub ?_
          simp [bl3]
        · (repeat' (first | with_reducible refine Qn | ((with_reducible refine Qr ?_ ?_); focus (first | with_reducible rfl | (simp only [Zz, Nat.reduceBEq, e3T, List.map_nil, List.length_append, List.length_singleton]; done) | rfl)) | ((with_reducible refine Qj (o' := ?_) ?_ ?_ ?_); rotate_left 1; focus rfl) | ((with_reducible refine Qw ?_ ?_); (focus (first | with_reducible rfl | (simp only [Zv, e3T, List.map_nil, List.length_append, List.length_singleton]; done))); focus (first | exact id | exact (fun h => nomatch h) | exact (fun _ => rfl)))))
      | [tr], _ =>
        have j1 : ((([tr] : List (List Int)).length : Int) > 0) = True := eq_true (by simp)
        ((repeat' (first | with_reducible (first | refine Q1 ?_ | refine Q2 ?_ | refine Q3 ?_ | refine Q4 ?_ | refine Q5 ?_ | refine Q6 ?_ | refine Q7 ?_ | refine Q8 ?_ | refine Q9 ?_ | refine Qa ?_ | refine Qb ?_ | refine Qc ?_ | refine Qd ?_ | refine Qe ?_ | refine Qf ?_) | ((with_reducible refine Qo ?_ ?_); focus rfl) | ((with_reducible first | refine QT 13 (l := ?_) ?_ ?_ | refine QF 13 (l := ?_) ?_ ?_); rotate_left 1; focus (simp only [Zu, Nat.reduceSub, Nat.reduceBEq]; with_reducible rfl)) | ((with_reducible refine QC (b := ?_) ?_ ?_); rotate_left 1; focus ((with_reducible refine QW ?_); simp only [Zg, seval, if_true, if_false, reduceCtorEq, Nat.reduceEqDiff, i1]; with_reducible rfl)))); ((with_reducible refine QS (cfg_ok 36) Tab.none (s' := ?_) ?_ ?_); rotate_left 1; focus ((with_reducible refine QW ?_); simp only [Zg, seval, if_true, if_false, reduceCtorEq, Nat.reduceEqDiff, i1]; with_reducible rfl)); (repeat' (first | with_reducible (first | refine Q1 ?_ | refine Q2 ?_ | refine Q3 ?_ | refine Q4 ?_ | refine Q5 ?_ | refine Q6 ?_ | refine Q7 ?_ | refine Q8 ?_ | refine Q9 ?_ | refine Qa ?_ | refine Qb ?_ | refine Qc ?_ | refine Qd ?_ | refine Qe ?_ | refine Qf ?_) | ((with_reducible refine Qo ?_ ?_); focus rfl) | ((with_reducible first | refine QT 13 (l := ?_) ?_ ?_ | refine QF 13 (l := ?_) ?_ ?_); rotate_left 1; focus (simp only [Zu, Nat.reduceSub, Nat.reduceBEq]; with_reducible rfl)) | ((with_reducible refine QC (b := ?_) ?_ ?_); rotate_left 1; focus ((with_reducible refine QW ?_); simp only [Zg, seval, if_true, if_false, reduceCtorEq, Nat.reduceEqDiff, i1]; with_reducible rfl)))))
        ((repeat' (first | with_reducible (first | refine Q1 ?_ | refine Q2 ?_ | refine Q3 ?_ | refine Q4 ?_ | refine Q5 ?_ | refine Q6 ?_ | refine Q7 ?_ | refine Q8 ?_ | refine Q9 ?_ | refine Qa ?_ | refine Qb ?_ | refine Qc ?_ | refine Qd ?_ | refine Qe ?_ | refine Qf ?_) | ((with_reducible refine Qo ?_ ?_); focus rfl) | ((with_reducible first | refine QT 13 (l := ?_) ?_ ?_ | refine QF 13 (l := ?_) ?_ ?_); rotate_left 1; focus (simp only [Zu, Nat.reduceSub, Nat.reduceBEq]; with_reducible rfl)) | ((with_reducible refine QC (b := ?_) ?_ ?_); rotate_left 1; focus ((with_reducible refine QW ?_); simp only [Zg, seval, if_true, if_false, reduceCtorEq, Nat.reduceEqDiff, i1, i2, hg, hzm, Int.toNat_natCast]; with_reducible rfl)))); ((with_reducible refine QS (cfg_ok 36) Tab.none (s' := ?_) ?_ ?_); rotate_left 1; focus ((with_reducible refine QW ?_); simp only [Zg, seval, if_true, if_false, reduceCtorEq, Nat.reduceEqDiff, i1, i2, hg, hzm, Int.toNat_natCast]; with_reducible rfl)); (repeat' (first | with_reducible (first | refine Q1 ?_ | refine Q2 ?_ | refine Q3 ?_ | refine Q4 ?_ | refine Q5 ?_ | refine Q6 ?_ | refine Q7 ?_ | refine Q8 ?_ | refine Q9 ?_ | refine Qa ?_ | refine Qb ?_ | refine Qc ?_ | refine Qd ?_ | refine Qe ?_ | refine Qf ?_) | ((with_reducible refine Qo ?_ ?_); focus rfl) | ((with_reducible first | refine QT 13 (l := ?_) ?_ ?_ | refine QF 13 (l := ?_) ?_ ?_); rotate_left 1; focus (simp only [Zu, Nat.reduceSub, Nat.reduceBEq]; with_reducible rfl)) | ((with_reducible refine QC (b := ?_) ?_ ?_); rotate_left 1; focus ((with_reducible refine QW ?_); simp only [Zg, seval, if_true, if_false, reduceCtorEq, Nat.reduceEqDiff, i1, i2, hg, hzm, Int.toNat_natCast]; with_reducible rfl)))))
        ((repeat' (first | with_reducible (first | refine Q1 ?_ | refine Q2 ?_ | refine Q3 ?_ | refine Q4 ?_ | refine Q5 ?_ | refine Q6 ?_ | refine Q7 ?_ | refine Q8 ?_ | refine Q9 ?_ | refine Qa ?_ | refine Qb ?_ | refine Qc ?_ | refine Qd ?_ | refine Qe ?_ | refine Qf ?_) | ((with_reducible refine Qo ?_ ?_); focus rfl) | ((with_reducible first | refine QT 13 (l := ?_) ?_ ?_ | refine QF 13 (l := ?_) ?_ ?_); rotate_left 1; focus (simp only [Zu, Nat.reduceSub, Nat.reduceBEq]; with_reducible rfl)) | ((with_reducible refine QC (b := ?_) ?_ ?_); rotate_left 1; focus ((with_reducible refine QW ?_); simp only [Zg, seval, if_true, if_false, reduceCtorEq, Nat.reduceEqDiff]; with_reducible rfl)))); ((with_reducible refine QS (cfg_ok 36) Tab.none (s' := ?_) ?_ ?_); rotate_left 1; focus ((with_reducible refine QW ?_); simp only [Zg, seval, if_true, if_false, reduceCtorEq, Nat.reduceEqDiff]; with_reducible rfl)); (repeat' (first | with_reducible (first | refine Q1 ?_ | refine Q2 ?_ | refine Q3 ?_ | refine Q4 ?_ | refine Q5 ?_ | refine Q6 ?_ | refine Q7 ?_ | refine Q8 ?_ | refine Q9 ?_ | refine Qa ?_ | refine Qb ?_ | refine Qc ?_ | refine Qd ?_ | refine Qe ?_ | refine Qf ?_) | ((with_reducible refine Qo ?_ ?_); focus rfl) | ((with_reducible first | refine QT 13 (l := ?_) ?_ ?_ | refine QF 13 (l := ?_) ?_ ?_); rotate_left 1; focus (simp only [Zu, Nat.reduceSub, Nat.reduceBEq]; with_reducible rfl)) | ((with_reducible refine QC (b := ?_) ?_ ?_); rotate_left 1; focus ((with_reducible refine QW ?_); simp only [Zg, seval, if_true, if_false, reduceCtorEq, Nat.reduceEqDiff]; with_reducible rfl)))))
        ((repeat' (first | with_reducible (first | refine Q1 ?_ | refine Q2 ?_ | refine Q3 ?_ | refine Q4 ?_ | refine Q5 ?_ | refine Q6 ?_ | refine Q7 ?_ | refine Q8 ?_ | refine Q9 ?_ | refine Qa ?_ | refine Qb ?_ | refine Qc ?_ | refine Qd ?_ | refine Qe ?_ | refine Qf ?_) | ((with_reducible refine Qo ?_ ?_); focus rfl) | ((with_reducible first | refine QT 13 (l := ?_) ?_ ?_ | refine QF 13 (l := ?_) ?_ ?_); rotate_left 1; focus (simp only [Zu, Nat.reduceSub, Nat.reduceBEq]; with_reducible rfl)) | ((with_reducible refine QC (b := ?_) ?_ ?_); rotate_left 1; focus ((with_reducible refine QW ?_); simp only [Zg, seval, if_true, if_false, reduceCtorEq, Nat.reduceEqDiff, j1, List.length_map]; with_reducible rfl)))); ((with_reducible refine QS (cfg_ok 36) Tab.none (s' := ?_) ?_ ?_); rotate_left 1; focus ((with_reducible refine QW ?_); simp only [Zg, seval, if_true, if_false, reduceCtorEq, Nat.reduceEqDiff, j1, List.length_map]; with_reducible rfl)); (repeat' (first | with_reducible (first | refine Q1 ?_ | refine Q2 ?_ | refine Q3 ?_ | refine Q4 ?_ | refine Q5 ?_ | refine Q6 ?_ | refine Q7 ?_ | refine Q8 ?_ | refine Q9 ?_ | refine Qa ?_ | refine Qb ?_ | refine Qc ?_ | refine Qd ?_ | refine Qe ?_ | refine Qf ?_) | ((with_reducible refine Qo ?_ ?_); focus rfl) | ((with_reducible first | refine QT 13 (l := ?_) ?_ ?_ | refine QF 13 (l := ?_) ?_ ?_); rotate_left 1; focus (simp only [Zu, Nat.reduceSub, Nat.reduceBEq]; with_reducible rfl)) | ((with_reducible refine QC (b := ?_) ?_ ?_); rotate_left 1; focus ((with_reducible refine QW ?_); simp only [Zg, seval, if_true, if_false, reduceCtorEq, Nat.reduceEqDiff, j1, List.length_map]; with_reducible rfl)))))
        refine RunK.regCut (cfg_ok 36) Tab.none 2 (s1 := ?_) ?_ ?_
        rotate_left 1
        focus (refine Work.mk ?_; simp only [Zg, seval, if_true, if_false, reduceCtorEq, Nat.reduceEqDiff]; with_reducible rfl)
        simp only [List.toList_toArray, List.drop_succ_cons, List.drop_zero]
        refine ROps.openR (r := 26) (k := 1) (G := G) (xs := [tr].map eL) rfl ?_
        intro ys G' ht1 _ hG'
        have hys := tag_one ht1
        subst hys
        refine ROps.opsT (cfg_ok 36) (T := Tab.none) (s' := ?_) ?_ ?_
        rotate_left 1
        focus (simp only [Zg, seval, if_true, if_false, reduceCtorEq, Nat.reduceEqDiff, List.length_map]; with_reducible rfl)
        repeat' (first | with_reducible (first | refine Q1 ?_ | refine Q2 ?_ | refine Q3 ?_ | refine Q4 ?_ | refine Q5 ?_ | refine Q6 ?_ | refine Q7 ?_ | refine Q8 ?_ | refine Q9 ?_ | refine Qa ?_ | refine Qb ?_ | refine Qc ?_ | refine Qd ?_ | refine Qe ?_ | refine Qf ?_) | ((with_reducible refine Qo ?_ ?_); focus rfl) | ((with_reducible first | refine QT 13 (l := ?_) ?_ ?_ | refine QF 13 (l := ?_) ?_ ?_); rotate_left 1; focus (simp only [Zu, Nat.reduceSub, Nat.reduceBEq]; with_reducible rfl)) | ((with_reducible first | refine QS (cfg_ok 36) Tab.none (s' := ?_) ?_ ?_ | refine QC (b := ?_) ?_ ?_); rotate_left 1; focus ((with_reducible refine QW ?_); simp only [Zg, seval, if_true, if_false, reduceCtorEq, Nat.reduceEqDiff, hw, q1, q2, List.length_map]; with_reducible rfl)))
        refine roundK.on (i + 1, qs ++ [(((f, tr), n), (F, G'))]) ⟨⟨hiL, ?_, ?_⟩, by show L.length - (i + 1) < L.length - i; omega⟩ ?_
        · show List.map (fun q : Cu × (List Nat × List Nat) => q.1) (qs ++ [(((f, tr), n), (F, G'))]) = _
          rw [List.map_append, hq, htkL]; rfl
        · show (((qs ++ [(((f, tr), n), (F, G'))]).map bl3).flatten).Sublist _
          rw [htkz, List.map_append, List.flatten_append, List.flatten_append]
          refine List.Sublist.append hsub ?_
          simp only [bl3, List.map_cons, List.map_nil, List.flatten_cons, List.flatten_nil, List.append_nil]
          exact List.Sublist.append (List.Sublist.refl _) hG'
        · (repeat' (first | with_reducible refine Qn | ((with_reducible refine Qr ?_ ?_); focus (first | with_reducible rfl | (simp only [Zz, Nat.reduceBEq, e3T, List.map_nil, List.length_append, List.length_singleton]; done) | rfl)) | ((with_reducible refine Qj (o' := ?_) ?_ ?_ ?_); rotate_left 1; focus rfl) | ((with_reducible refine Qw ?_ ?_); (focus (first | with_reducible rfl | (simp only [Zv, e3T, List.map_nil, List.length_append, List.length_singleton]; done))); focus (first | exact id | exact (fun h => nomatch h) | exact (fun _ => rfl)))))
    · have i1 : ((i : Int) < (L.length : Int)) = False := eq_false (by omega)
      obtain rfl : i = L.length := by omega
      rw [List.take_length] at hq
      rw [← hzl, List.take_length] at hsub
      repeat' (first | with_reducible (first | refine Q1 ?_ | refine Q2 ?_ | refine Q3 ?_ | refine Q4 ?_ | refine Q5 ?_ | refine Q6 ?_ | refine Q7 ?_ | refine Q8 ?_ | refine Q9 ?_ | refine Qa ?_ | refine Qb ?_ | refine Qc ?_ | refine Qd ?_ | refine Qe ?_ | refine Qf ?_) | ((with_reducible refine Qo ?_ ?_); focus rfl) | ((with_reducible first | refine QT 13 (l := ?_) ?_ ?_ | refine QF 13 (l := ?_) ?_ ?_); rotate_left 1; focus (simp only [Zu, Nat.reduceSub, Nat.reduceBEq]; with_reducible rfl)) | ((with_reducible first | refine QS (cfg_ok 36) Tab.none (s' := ?_) ?_ ?_ | refine QC (b := ?_) ?_ ?_); rotate_left 1; focus ((with_reducible refine QW ?_); simp only [Zg, seval, if_true, if_false, reduceCtorEq, Nat.reduceEqDiff, i1]; with_reducible rfl)))
      refine roundK.out qs ⟨hq, hsub⟩ ?_
      (repeat' (first | with_reducible refine Qn | ((with_reducible refine Qr ?_ ?_); focus (first | with_reducible rfl | (simp only [Zz, Nat.reduceBEq]; done) | rfl)) | ((with_reducible refine Qj (o' := ?_) ?_ ?_ ?_); rotate_left 1; focus rfl) | ((with_reducible refine Qw ?_ ?_); (focus (first | with_reducible rfl | (simp only [Zv]; done))); focus (first | exact id | exact (fun h => nomatch h) | exact (fun _ => rfl)))))
  · rintro qs ⟨hq, hsub⟩
    repeat' (first | with_reducible (first | refine Q1 ?_ | refine Q2 ?_ | refine Q3 ?_ | refine Q4 ?_ | refine Q5 ?_ | refine Q6 ?_ | refine Q7 ?_ | refine Q8 ?_ | refine Q9 ?_ | refine Qa ?_ | refine Qb ?_ | refine Qc ?_ | refine Qd ?_ | refine Qe ?_ | refine Qf ?_) | ((with_reducible refine Qo ?_ ?_); focus rfl) | ((with_reducible first | refine QT 13 (l := ?_) ?_ ?_ | refine QF 13 (l := ?_) ?_ ?_); rotate_left 1; focus (simp only [Zu, Nat.reduceSub, Nat.reduceBEq]; with_reducible rfl)) | ((with_reducible first | refine QS (cfg_ok 36) Tab.none (s' := ?_) ?_ ?_ | refine QC (b := ?_) ?_ ?_); rotate_left 1; focus ((with_reducible refine QW ?_); simp only [Zg, seval, if_true, if_false, reduceCtorEq, Nat.reduceEqDiff]; with_reducible rfl)))
    refine Ends.un (by simp) hres hrts (r := ?_) (r' := .own 3 ((L.map cutS).map eCu) true) (l := []) (ks := ?_) ?_ ?_ (by simp) ?_ rfl
    rotate_left 2
    focus (simp only [aresults, ares, Zg, seval, if_true, if_false, reduceCtorEq, Nat.reduceEqDiff]; with_reducible rfl)
    focus simp
    rw [← hq]
    exact ⟨(qs.map bl3).flatten, hnd.sublist hsub, fun b hb => hF b (hsub.subset hb), .inl ⟨3, _, _, rfl, rfl, tag_mk3 _ _ _ qs⟩⟩
end Go.Proofs.Ytkdkikmhlhcndaa
namespace Go.Proofs.Ytkdkikmhlhcndaa
open Go.RowKit
set_option maxRecDepth 20000 in
set_option maxHeartbeats 8000000 in
theorem a_l05Cuts (t : List Int) (h : LevP t) (hc : canon t = t) (hl : t.length ≤ 8) : AFn Try.prog 31 [eL t] (· = [.own 3 ((cutsL t).map eCu) false]) := by
  have htr := a_l05Tree 8 (Nat.le_refl _) t h hc hl
  have hone := gath_trunk t h
  have hgood := gath_good (split_good _ (Nat.le_refl _) h)
  have hgl : (gathS (split t)).length ≤ 256 := by
    have h0 := (gathS_is (split t)).len
    rw [List.length_map] at h0
    have h1 := split_len _ (Nat.le_refl _) h
    have h2 : 2 ^ t.length ≤ 2 ^ 8 := Nat.pow_le_pow_right (by decide) hl
    omega
  obtain ⟨L, hL⟩ : ∃ L, L = gathS (split t) := ⟨_, rfl⟩
  have hcl : cutsL t = L.map cutS := by rw [hL]; rfl
  rw [hcl]
  rw [← hL] at htr hone hgood hgl
  simp only [eL] at htr
  have hLm : (L.map eSp).length = L.length := List.length_map _
  refine AFn.of_runs (cfg_ok 49) Try.func31 rfl rfl rfl (by simp only [List.length_cons, List.length_nil]; decide) ?_
  have hres : Try.f31.results.toList = [.tmp 2] := rfl
  have hrts : Try.f31.resultTypes.toList = [34] := rfl
  simp only [argRegs, argAV1, eL, eI, eLL, eB, Nat.zero_add, Nat.reduceAdd]
  intro M
  refine RunK.of ?_
  repeat' (first | with_reducible (first | refine Q1 ?_ | refine Q2 ?_ | refine Q3 ?_ | refine Q4 ?_ | refine Q5 ?_ | refine Q6 ?_ | refine Q7 ?_ | refine Q8 ?_ | refine Q9 ?_ | refine Qa ?_ | refine Qb ?_ | refine Qc ?_ | refine Qd ?_ | refine Qe ?_ | refine Qf ?_) | ((with_reducible refine Qo ?_ ?_); focus rfl) | ((with_reducible first | refine QT 7 (l := ?_) ?_ ?_ | refine QF 7 (l := ?_) ?_ ?_); rotate_left 1; focus (simp only [Zu, Nat.reduceSub, Nat.reduceBEq]; with_reducible rfl)) | ((with_reducible first | refine QS (cfg_ok 49) (Tab.none.at' 56 htr) (s' := ?_) ?_ ?_ | refine QC (b := ?_) ?_ ?_); rotate_left 1; focus ((with_reducible refine QW ?_); simp only [Zg, seval, if_true, if_false, reduceCtorEq, Nat.reduceEqDiff]; with_reducible rfl)) | ((with_reducible refine QD (cfg_ok 49) (Tab.none.at' 56 htr) mixed_ok (tr := ?_) (s' := ?_) ?_ ?_ ?_); rotate_left 2; (focus ((with_reducible refine QW ?_); simp only [Zg, Zd, seval, if_true, if_false, reduceCtorEq, Nat.reduceEqDiff]; with_reducible rfl)); focus ((with_reducible refine QK ?_); simp only [Zk]; kernel_rfl)))
  refine RunK.loop (β := Nat) (γ := Unit) (fun i => ⟨[(3, .c (.val (.sl 3 (L.map eSp)))), (4, .c (.own 4 i)), (5, .c (.val (.int i)))], [(4, .row 3 (((L.take i).map cutS).map eCu) false)]⟩) (fun i => i ≤ L.length) (fun i => L.length - i)
    (fun _ => ⟨[(4, .c (.own 4 L.length))], [(4, .row 3 ((L.map cutS).map eCu) false)]⟩) (fun _ => True) 0 (Nat.zero_le _) ?_ ?_ ?_
  · (repeat' (first | with_reducible refine Qn | ((with_reducible refine Qr ?_ ?_); focus (first | with_reducible rfl | (simp only [Zz, Nat.reduceBEq, List.take_zero, List.map_nil, Int.natCast_zero]; done) | rfl)) | ((with_reducible refine Qj (o' := ?_) ?_ ?_ ?_); rotate_left 1; focus rfl) | ((with_reducible refine Qw ?_ ?_); (focus (first | with_reducible rfl | (simp only [Zv, List.take_zero, List.map_nil, Int.natCast_zero]; done))); focus (first | exact id | exact (fun h => nomatch h) | exact (fun _ => rfl)))))
  · intro i hi
    have hi : i ≤ L.length := hi
    have hw := w64_succ (n := i) (by omega)
    have hrl : (((L.take i).map cutS).map eCu).length = i := by rw [List.length_map, List.length_map, List.length_take]; omega
    by_cases hiL : i < L.length
    · have i1 : ((i : Int) < (L.length : Int)) = True := eq_true (by omega)
      have i2 : ((0 : Int) ≤ (i : Int)) = True := eq_true (by omega)
      obtain ⟨z, hz⟩ : ∃ z, z = L[i] := ⟨_, rfl⟩
      have hg : (L.map eSp)[i]? = some [.sl 1 (z.1.1.map eL), .sl 1 (z.1.2.map eL), .int z.2] := by rw [map_get hiL, hz]; rfl
      have htk : ((L.take (i + 1)).map cutS).map eCu = ((L.take i).map cutS).map eCu ++ [eCu (cutS z)] := by
        rw [hz, List.take_succ_eq_append_getElem hiL, List.map_append, List.map_append]; rfl
      have hz1 := hone L[i] (List.getElem_mem _)
      have hz2 := (hgood L[i] (List.getElem_mem _)).2.2
      rw [← hz] at hz1 hz2
      have hha := hz2.ha (by omega)
      have how := AFn.val1 (a_l01Own2 z.1.1 (by have := hha.1.1; omega) (fun b hb => by have := sumLen_mem hb; have := hha.1.2; omega))
      have q1 := big_le (n := i + 1) (by omega)
      have q2 := big_mul (n := i + 1) (c := 56) (by omega) (by omega)
      obtain ⟨⟨f, g⟩, n⟩ := z
      simp only at hg hz1 how hha
      simp only [eLL] at how
      match g, hz1 with
      | [], _ =>
        have j1 : ((([] : List (List Int)).length : Int) > 0) = False := eq_false (by simp)
        repeat' (first | with_reducible (first | refine Q1 ?_ | refine Q2 ?_ | refine Q3 ?_ | refine Q4 ?_ | refine Q5 ?_ | refine Q6 ?_ | refine Q7 ?_ | refine Q8 ?_ | refine Q9 ?_ | refine Qa ?_ | refine Qb ?_ | refine Qc ?_ | refine Qd ?_ | refine Qe ?_ | refine Qf ?_) | ((with_reducible refine Qo ?_ ?_); focus rfl) | ((with_reducible first | refine QT 7 (l := ?_) ?_ ?_ | refine QF 7 (l := ?_) ?_ ?_); rotate_left 1; focus (simp only [Zu, Nat.reduceSub, Nat.reduceBEq]; with_reducible rfl)) | ((with_reducible first | refine QS (cfg_ok 49) (Tab.none.at' 58 how) (s' := ?_) ?_ ?_ | refine QC (b := ?_) ?_ ?_); rotate_left 1; focus ((with_reducible refine QW ?_); simp only [Zg, seval, if_true, if_false, reduceCtorEq, Nat.reduceEqDiff, i1, i2, j1, hg, hLm, hw, hrl, q1, q2, Int.toNat_natCast, List.length_map, List.length_nil]; with_reducible rfl)) | ((with_reducible refine QD (cfg_ok 49) (Tab.none.at' 58 how) mixed_ok (tr := ?_) (s' := ?_) ?_ ?_ ?_); rotate_left 2; (focus ((with_reducible refine QW ?_); simp only [Zg, Zd, seval, if_true, if_false, reduceCtorEq, Nat.reduceEqDiff, i1, i2, j1, hg, hLm, hw, hrl, q1, q2, Int.toNat_natCast, List.length_map, List.length_nil]; with_reducible rfl)); focus ((with_reducible refine QK ?_); simp only [Zk]; kernel_rfl)))
        refine roundK.on (i + 1) ⟨hiL, by omega⟩ ?_
        rw [htk]
        (repeat' (first | with_reducible refine Qn | ((with_reducible refine Qr ?_ ?_); focus (first | with_reducible rfl | (simp only [Zz, Nat.reduceBEq, eCu, cutS, e3, List.headD_nil, List.map_nil]; done) | rfl)) | ((with_reducible refine Qj (o' := ?_) ?_ ?_ ?_); rotate_left 1; focus rfl) | ((with_reducible refine Qw ?_ ?_); (focus (first | with_reducible rfl | (simp only [Zv, eCu, cutS, e3, List.headD_nil, List.map_nil]; done))); focus (first | exact id | exact (fun h => nomatch h) | exact (fun _ => rfl)))))
      | [tr], _ =>
        have j1 : ((([tr] : List (List Int)).length : Int) > 0) = True := eq_true (by simp)
        have hot := AFn.valT (a_l01Own tr (by have h6 : sumLen [tr] ≤ 50 := hha.2.2; have h5 : sumLen [tr] = tr.length + 0 := rfl; omega))
        simp only [eL] at hot
        repeat' (first | with_reducible (first | refine Q1 ?_ | refine Q2 ?_ | refine Q3 ?_ | refine Q4 ?_ | refine Q5 ?_ | refine Q6 ?_ | refine Q7 ?_ | refine Q8 ?_ | refine Q9 ?_ | refine Qa ?_ | refine Qb ?_ | refine Qc ?_ | refine Qd ?_ | refine Qe ?_ | refine Qf ?_) | ((with_reducible refine Qo ?_ ?_); focus rfl) | ((with_reducible first | refine QT 7 (l := ?_) ?_ ?_ | refine QF 7 (l := ?_) ?_ ?_); rotate_left 1; focus (simp only [Zu, Nat.reduceSub, Nat.reduceBEq]; with_reducible rfl)) | ((with_reducible first | refine QS (cfg_ok 49) ((Tab.none.at' 58 how).at' 57 hot) (s' := ?_) ?_ ?_ | refine QC (b := ?_) ?_ ?_); rotate_left 1; focus ((with_reducible refine QW ?_); simp only [Zg, seval, if_true, if_false, reduceCtorEq, Nat.reduceEqDiff, i1, i2, j1, hg, hLm, hw, hrl, q1, q2, Int.toNat_natCast, List.length_map, List.length_nil, eL]; with_reducible rfl)) | ((with_reducible refine QD (cfg_ok 49) ((Tab.none.at' 58 how).at' 57 hot) mixed_ok (tr := ?_) (s' := ?_) ?_ ?_ ?_); rotate_left 2; (focus ((with_reducible refine QW ?_); simp only [Zg, Zd, seval, if_true, if_false, reduceCtorEq, Nat.reduceEqDiff, i1, i2, j1, hg, hLm, hw, hrl, q1, q2, Int.toNat_natCast, List.length_map, List.length_nil, eL]; with_reducible rfl)); focus ((with_reducible refine QK ?_); simp only [Zk]; kernel_rfl)))
        refine roundK.on (i + 1) ⟨hiL, by omega⟩ ?_
        rw [htk]
        (repeat' (first | with_reducible refine Qn | ((with_reducible refine Qr ?_ ?_); focus (first | with_reducible rfl | (simp only [Zz, Nat.reduceBEq, eCu, cutS, e3, List.headD_cons, List.map_nil]; done) | rfl)) | ((with_reducible refine Qj (o' := ?_) ?_ ?_ ?_); rotate_left 1; focus rfl) | ((with_reducible refine Qw ?_ ?_); (focus (first | with_reducible rfl | (simp only [Zv, eCu, cutS, e3, List.headD_cons, List.map_nil]; done))); focus (first | exact id | exact (fun h => nomatch h) | exact (fun _ => rfl)))))
    · have i1 : ((i : Int) < (L.length : Int)) = False := eq_false (by omega)
      obtain rfl : i = L.length := by omega
      repeat' (first | with_reducible (first | refine Q1 ?_ | refine Q2 ?_ | refine Q3 ?_ | refine Q4 ?_ | refine Q5 ?_ | refine Q6 ?_ | refine Q7 ?_ | refine Q8 ?_ | refine Q9 ?_ | refine Qa ?_ | refine Qb ?_ | refine Qc ?_ | refine Qd ?_ | refine Qe ?_ | refine Qf ?_) | ((with_reducible refine Qo ?_ ?_); focus rfl) | ((with_reducible first | refine QT 7 (l := ?_) ?_ ?_ | refine QF 7 (l := ?_) ?_ ?_); rotate_left 1; focus (simp only [Zu, Nat.reduceSub, Nat.reduceBEq]; with_reducible rfl)) | ((with_reducible first | refine QS (cfg_ok 49) Tab.none (s' := ?_) ?_ ?_ | refine QC (b := ?_) ?_ ?_); rotate_left 1; focus ((with_reducible refine QW ?_); simp only [Zg, seval, if_true, if_false, reduceCtorEq, Nat.reduceEqDiff, i1, hLm]; with_reducible rfl)) | ((with_reducible refine QD (cfg_ok 49) Tab.none mixed_ok (tr := ?_) (s' := ?_) ?_ ?_ ?_); rotate_left 2; (focus ((with_reducible refine QW ?_); simp only [Zg, Zd, seval, if_true, if_false, reduceCtorEq, Nat.reduceEqDiff, i1, hLm]; with_reducible rfl)); focus ((with_reducible refine QK ?_); simp only [Zk]; kernel_rfl)))
      refine roundK.out () trivial ?_
      rw [List.take_length]
      (repeat' (first | with_reducible refine Qn | ((with_reducible refine Qr ?_ ?_); focus (first | with_reducible rfl | (simp only [Zz, Nat.reduceBEq]; done) | rfl)) | ((with_reducible refine Qj (o' := ?_) ?_ ?_ ?_); rotate_left 1; focus rfl) | ((with_reducible refine Qw ?_ ?_); (focus (first | with_reducible rfl | (simp only [Zv]; done))); focus (first | exact id | exact (fun h => nomatch h) | exact (fun _ => rfl)))))
  · rintro _ _
    repeat' (first | with_reducible (first | refine Q1 ?_ | refine Q2 ?_ | refine Q3 ?_ | refine Q4 ?_ | refine Q5 ?_ | refine Q6 ?_ | refine Q7 ?_ | refine Q8 ?_ | refine Q9 ?_ | refine Qa ?_ | refine Qb ?_ | refine Qc ?_ | refine Qd ?_ | refine Qe ?_ | refine Qf ?_) | ((with_reducible refine Qo ?_ ?_); focus rfl) | ((with_reducible first | refine QT 7 (l := ?_) ?_ ?_ | refine QF 7 (l := ?_) ?_ ?_); rotate_left 1; focus (simp only [Zu, Nat.reduceSub, Nat.reduceBEq]; with_reducible rfl)) | ((with_reducible first | refine QS (cfg_ok 49) Tab.none (s' := ?_) ?_ ?_ | refine QC (b := ?_) ?_ ?_); rotate_left 1; focus ((with_reducible refine QW ?_); simp only [Zg, seval, if_true, if_false, reduceCtorEq, Nat.reduceEqDiff]; with_reducible rfl)) | ((with_reducible refine QD (cfg_ok 49) Tab.none mixed_ok (tr := ?_) (s' := ?_) ?_ ?_ ?_); rotate_left 2; (focus ((with_reducible refine QW ?_); simp only [Zg, Zd, seval, if_true, if_false, reduceCtorEq, Nat.reduceEqDiff]; with_reducible rfl)); focus ((with_reducible refine QK ?_); simp only [Zk]; kernel_rfl)))
    (refine Ends.mk (by simp) (rs := ?_) (ks := ?_) hres hrts ?_ ?_ ?_; rotate_left 2; (focus (simp only [Ze, Zg, seval, if_true, if_false, reduceCtorEq, Nat.reduceEqDiff]; with_reducible rfl)); (focus simp); focus (first | with_reducible rfl | (simp only [Zv]; done)))
end Go.Proofs.Ytkdkikmhlhcndaa
namespace Go.Proofs.Ytkdkikmhlhcndaa
open Go.RowKit
theorem AFn.of_v {P : Program} {f : FuncId} {ds : List (List D)} {d : D} {v : Value} (eg : ∀ args w, (callFunc f args).run P w = .ok (.enter f args) w) (hd : ∀ A w, rdV A w v d)
    (h : ∀ (w : World) (A : Nat → Prop) vs, relArgs A w ds vs → Calls P f vs.toArray w (RetV w v)) : AFn P f ds (· = [.val d]) := by
  refine ⟨eg, fun A w vs hA hv => (h w A vs hv).mono ?_⟩
  rintro e w' ⟨rfl, hb⟩
  exact ⟨v, _, rfl, rfl, hb, [v], [], [], rfl, List.nodup_nil, by simp, v, [], [], [], [], [], rfl, rfl, rfl, (hd (fun _ => True) w).one, ⟨hd _ _, rfl, rfl⟩, rfl, rfl, rfl⟩
theorem ChgF.cell {F : List Nat} {w w' : World} (h : ChgF F w w') {g off : Nat} (hg : g < w.heap.size) (hn : g ∉ F) : w'.cell? ⟨g, off, none⟩ = w.cell? ⟨g, off, none⟩ := by
  have := h.block g hg hn
  simp only [World.cell?, this]
section
variable {β γ : Type} {S : Rep β} {T : Rep γ} {w : World}
theorem OwnF.at3 {v : Value} {xs : List ((β × γ) × Int)} {F : List Nat} (h : OwnF (RS (RP (RP S T) RI)) F w [v] xs) (hS : S.k = 1) (hT : T.k = 1) (i : Nat) (hi : i < xs.length) :
    ∃ g cap s t G1 G2, v = .slice (some ⟨g, 0, none⟩) xs.length cap ∧ xs.length ≤ cap ∧ cap ≤ 9223372036854775807 ∧ g < w.heap.size ∧ w.cell? ⟨g, i * 3, none⟩ = some s ∧ w.cell? ⟨g, i * 3 + 1, none⟩ = some t ∧ w.cell? ⟨g, i * 3 + 2, none⟩ = some (.int .i64 xs[i].2) ∧ w.frozen? ⟨g, i * 3 + 2, none⟩ = false ∧
      OwnF S G1 w [s] xs[i].1.1 ∧ OwnF T G2 w [t] xs[i].1.2 ∧ (∀ b, b ∈ G1 → b ∈ F ∧ b ≠ g) ∧ (∀ b, b ∈ G2 → b ∈ F ∧ b ≠ g) ∧ (∀ b, b ∈ G1 → b ∉ G2) ∧
      (∀ (w' : World) (y : β) (z : γ), OwnF S G1 w' [s] y → OwnF T G2 w' [t] z → ChgF (G1 ++ G2) w w' → OwnF (RS (RP (RP S T) RI)) F w' [v] (xs.set i ((y, z), xs[i].2)) ∧ ChgF F w w') ∧
      (∀ n, In64 n → OwnF (RS (RP (RP S T) RI)) F (w.setCell ⟨g, i * 3 + 2, none⟩ (.int .i64 n)) [v] (xs.set i (xs[i].1, n)) ∧ ChgF F w (w.setCell ⟨g, i * 3 + 2, none⟩ (.int .i64 n))) := by
  have hlt := h.lt
  have hnd := h.2
  have hk3 : (RP (RP S T) RI).k = 3 := by show S.k + T.k + 1 = 3; omega
  obtain ⟨g, cap, d1, c, d2, F1, G0, F2, hv, hc1, hc2, rfl, hcl, hd1, hx, hrow, hK⟩ := h.lens i hi
  rw [hk3] at hd1 hrow
  have hx0 := hx
  obtain ⟨c12, c3, G12, G3, rfl, rfl, ⟨c1, c2, G1, G2, rfl, rfl, hs, ht⟩, ⟨rfl, hb⟩, rfl⟩ := hx0
  have hsl := S.rd_len (S.own_rd hs)
  have htl := T.rd_len (T.own_rd ht)
  rw [hS] at hsl
  rw [hT] at htl
  match c1, hsl, c2, htl with
  | [s], _, [t], _ =>
  simp only [List.append_nil] at *
  have hn1 := List.nodup_cons.1 hnd
  have hn2 := List.nodup_append.1 hn1.2
  have hn3 := List.nodup_append.1 hn2.2.1
  have hn4 := List.nodup_append.1 hn3.1
  have e1 : d1 ++ (([s] ++ [t] ++ [Value.int IntKind.i64 xs[i].2]) ++ d2) = d1 ++ (s :: t :: Value.int IntKind.i64 xs[i].2 :: d2) := by simp
  have g1 : w.cell? ⟨g, i * 3, none⟩ = some s := hrow.cells (i * 3) _ (by rw [e1, List.getElem?_append_right (by omega), hd1]; simp)
  have g2 : w.cell? ⟨g, i * 3 + 1, none⟩ = some t := hrow.cells (i * 3 + 1) _ (by rw [e1, List.getElem?_append_right (by omega), hd1]; simp)
  have g3 : w.cell? ⟨g, i * 3 + 2, none⟩ = some (.int .i64 xs[i].2) := hrow.cells (i * 3 + 2) _ (by rw [e1, List.getElem?_append_right (by omega), hd1]; simp)
  have hG1F : ∀ b, b ∈ G1 → b ∈ g :: (F1 ++ (G1 ++ G2 ++ F2)) ∧ b ≠ g := fun b hb => ⟨by simp [hb], fun e => hn1.1 (by subst e; simp [hb])⟩
  have hG2F : ∀ b, b ∈ G2 → b ∈ g :: (F1 ++ (G1 ++ G2 ++ F2)) ∧ b ≠ g := fun b hb => ⟨by simp [hb], fun e => hn1.1 (by subst e; simp [hb])⟩
  refine ⟨g, cap, s, t, G1, G2, hv, hc1, hc2, hlt g (by simp), g1, g2, g3, hrow.frozen _, ⟨hs, hn4.1⟩, ⟨ht, hn4.2.1⟩, hG1F, hG2F, fun b hb hb' => hn4.2.2 b hb b hb' rfl, ?_, ?_⟩
  · intro w' y z hy hz hch
    have hfr : ∀ b, b ∈ F1 ++ F2 → w'.heap[b]? = w.heap[b]? := by
      intro b hm
      refine hch.block b (hlt b ?_) ?_
      · rcases List.mem_append.1 hm with hm | hm
        · simp [hm]
        · simp [hm]
      · intro hG
        rcases List.mem_append.1 hm with hm | hm
        · exact hn2.2.2 b hm b (List.mem_append_left _ hG) rfl
        · exact hn3.2.2 b hG b hm rfl
    have hgn : g ∉ G1 ++ G2 := fun hg => by
      rcases List.mem_append.1 hg with hg | hg
      · exact (hG1F g hg).2 rfl
      · exact (hG2F g hg).2 rfl
    have hrow' : Row w' v 3 xs.length (d1 ++ (([s] ++ [t] ++ [Value.int IntKind.i64 xs[i].2]) ++ d2)) (some g) := hrow.frame (fun g' hg' => by cases hg'; exact hch.block g (hlt g (by simp)) hgn)
    refine ⟨hK _ ([s] ++ [t] ++ [.int .i64 xs[i].2]) ((y, z), xs[i].2) (G1 ++ G2) (by rw [hk3]; rfl) ⟨[s] ++ [t], [.int .i64 xs[i].2], G1 ++ G2, [], rfl, by simp, ⟨[s], [t], G1, G2, rfl, rfl, hy.1, hz.1⟩, ⟨rfl, hb⟩, rfl⟩ hfr (by rw [hk3]; exact hrow') hnd, hch.mono (fun b hb => ?_)⟩
    rcases List.mem_append.1 hb with hb | hb
    · exact (hG1F b hb).1
    · exact (hG2F b hb).1
  · intro n hn
    obtain ⟨hst, hgr⟩ := hrow.store (i * 3 + 2) (.int .i64 n)
    have hset : (d1 ++ (([s] ++ [t] ++ [Value.int IntKind.i64 xs[i].2]) ++ d2)).set (i * 3 + 2) (.int .i64 n) = d1 ++ (([s] ++ [t] ++ [Value.int IntKind.i64 n]) ++ d2) := by
      rw [List.set_append_right _ _ (by omega), hd1, Nat.add_sub_cancel_left]; rfl
    rw [hset] at hst
    have hfr : ∀ b, b ≠ g → (w.setCell ⟨g, i * 3 + 2, none⟩ (.int .i64 n)).heap[b]? = w.heap[b]? := fun b hb => heap_setCell_other w ⟨g, i * 3 + 2, none⟩ b _ hb
    refine ⟨hK _ ([s] ++ [t] ++ [.int .i64 n]) (xs[i].1, n) (G1 ++ G2) (by rw [hk3]; rfl) ⟨[s] ++ [t], [.int .i64 n], G1 ++ G2, [], rfl, by simp, ⟨[s], [t], G1, G2, rfl, rfl, S.own_frame hs (fun b hb => hfr b (hG1F b hb).2), T.own_frame ht (fun b hb => hfr b (hG2F b hb).2)⟩, ⟨rfl, hn⟩, rfl⟩ (fun b hb => hfr b ?_) (by rw [hk3]; exact hst) hnd, (ChgF.of_grown hgr).mono (fun b hb => by simp at hb; simp [hb])⟩
    intro e
    subst e
    rcases List.mem_append.1 hb with h | h
    · exact hn1.1 (by simp [h])
    · exact hn1.1 (by simp [h])
end
end Go.Proofs.Ytkdkikmhlhcndaa
