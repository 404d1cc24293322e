/- Lemmas (12). -/
import Derived.Test.YtkdkikmhlhcndaaZC0
import Derived.Test.YtkdkikmhlhcndaaZC2
import Derived.Test.YtkdkikmhlhcndaaZC7
import Derived.Test.YtkdkikmhlhcndaaZC9
import Derived.Test.YtkdkikmhlhcndaaZC11
set_option linter.unusedSimpArgs false
set_option linter.unusedVariables false
namespace Go.Proofs.Ytkdkikmhlhcndaa
open Go.RowKit
abbrev RCut : Rep ((List (List Int) × List Int) × Int) := RP (RP (RS (RS RI)) (RS RI)) RI
def eK (c : (List (List Int) × List Int) × Int) : List D := [.sl 1 (c.1.1.map eL), .sl 1 (c.1.2.map eI), .int c.2]
theorem encK : Enc RCut eK := encP (encP (encS (encS encI)) (encS encI)) encI
theorem arg_K {w : World} {u : Value} {xs : List ((List (List Int) × List Int) × Int)} (h : Rd (RS RCut) w [u] xs) : relArg (· < w.heap.size) w [.sl 3 (xs.map eK)] u := ((encS encK).rdV (x := xs) rfl).1 h
def cnt_K : List ((List (List Int) × List Int) × Int) → Nat
  | [] => 0
  | p :: ps => cnt_II p.1.1 + cnt_I p.1.2 + 1 + cnt_K ps
def mkd_K : List ((List (List Int) × List Int) × Int) → Int → List ((List (List Int) × List Int) × Int)
  | [], _ => []
  | p :: ps, k => ((mkd_II p.1.1 k, mkd_I p.1.2 (k + cnt_II p.1.1)), k + cnt_II p.1.1 + cnt_I p.1.2) :: mkd_K ps (k + cnt_II p.1.1 + cnt_I p.1.2 + 1)
theorem mkd_K_len : ∀ (ps : List ((List (List Int) × List Int) × Int)) (k : Int), (mkd_K ps k).length = ps.length
  | [], _ => rfl
  | p :: ps, k => by simp [mkd_K, mkd_K_len ps]
theorem mkd_K_get : ∀ (ps : List ((List (List Int) × List Int) × Int)) (k : Int) (i : Nat) (h : i < ps.length), (mkd_K ps k)[i]'(by rw [mkd_K_len]; exact h) = ((mkd_II ps[i].1.1 (k + cnt_K (ps.take i)), mkd_I ps[i].1.2 (k + cnt_K (ps.take i) + cnt_II ps[i].1.1)), k + cnt_K (ps.take i) + cnt_II ps[i].1.1 + cnt_I ps[i].1.2)
  | p :: ps, k, 0, h => by simp [mkd_K, cnt_K]
  | p :: ps, k, i + 1, h => by
    simp only [mkd_K, List.getElem_cons_succ, List.take_succ_cons]
    rw [mkd_K_get ps _ i (by simpa using h)]
    simp only [cnt_K]
    have e : k + (cnt_II p.1.1 : Int) + (cnt_I p.1.2 : Int) + 1 + (cnt_K (ps.take i) : Nat) = k + ((cnt_II p.1.1 + cnt_I p.1.2 + 1 + cnt_K (ps.take i) : Nat) : Int) := by omega
    rw [e]
theorem cnt_K_append : ∀ (ps qs : List ((List (List Int) × List Int) × Int)), cnt_K (ps ++ qs) = cnt_K ps + cnt_K qs
  | [], qs => by simp [cnt_K]
  | p :: ps, qs => by simp only [List.cons_append, cnt_K, cnt_K_append ps qs]; omega
theorem cnt_K_take_succ (ps : List ((List (List Int) × List Int) × Int)) (k : Nat) (h : k < ps.length) : cnt_K (ps.take (k + 1)) = cnt_K (ps.take k) + (cnt_II ps[k].1.1 + cnt_I ps[k].1.2 + 1) := by
  rw [List.take_succ_eq_append_getElem h, cnt_K_append]; simp [cnt_K]
theorem cnt_K_take (ps : List ((List (List Int) × List Int) × Int)) (k : Nat) : cnt_K (ps.take k) ≤ cnt_K ps := by
  have : cnt_K (ps.take k ++ ps.drop k) = cnt_K ps := by rw [List.take_append_drop]
  rw [cnt_K_append] at this
  omega
set_option maxRecDepth 100000 in
set_option maxHeartbeats 2000000 in
theorem markF_K (v : Value) (xs : List ((List (List Int) × List Int) × Int)) (F : List Nat) (k0 : Int) (w : World) (h : OwnF (RS RCut) F w [v] xs) (hk0 : 0 ≤ k0) (hk : k0 + cnt_K xs ≤ 4611686018427387904) :
    Calls Try.prog 21 #[v, .int .i64 k0] w fun e w' => e = .returned (.int .i64 (k0 + (cnt_K xs : Nat))) ∧ OwnF (RS RCut) F w' [v] (mkd_K xs k0) ∧ ChgF F w w' := by
  obtain ⟨oa, cap, rfl, m1, m2⟩ := h.rd.val
  unfold maxLen at m2
  have H0 := Lib.hid h
  clear h
  go_enter Try.func21, Try.ntmps21
  go_wp2_with fail
  go_loopw [1, 5] (fun q i wr => ∃ (k : Nat) (z : List ((List (List Int) × List Int) × Int)), k ≤ xs.length ∧ i = .int .i64 k ∧ q = .int .i64 (k0 + (cnt_K (xs.take k) : Nat)) ∧ Hid (z = (mkd_K xs k0).take k ++ xs.drop k) ∧ Hid (OwnF (RS RCut) F wr [.slice oa xs.length cap] z ∧ ChgF F w wr)) (fun _ i _ => xs.length - (intOf i).toNat)
  case atStart => exact ⟨0, xs, Nat.zero_le _, rfl, by simp [cnt_K], Lib.hid (by simp), Lib.hid ⟨H0.out, ChgF.refl _ _⟩⟩
  case round =>
    obtain ⟨k, z, hkl, rfl, rfl, hz, hown⟩ := hrel
    clear H0
    by_cases hlt : k < xs.length
    · have hml := mkd_K_len xs k0
      have hzl : z.length = xs.length := by rw [hz.out]; simp [hml]; omega
      obtain ⟨g, cap', s, t, G1, G2, hv, -, -, hgl, g1, g2, g3, hfz, hGs, hGt, hG1F, hG2F, hdis, hUP, -⟩ := hown.out.1.at3 rfl rfl k (by omega)
      rw [hzl] at hv
      simp only [Value.slice.injEq, true_and] at hv
      obtain ⟨rfl, rfl⟩ := hv
      have hzk : z[k]'(by omega) = xs[k] := by
        simp only [hz.out]
        rw [List.getElem_append_right (by simp [hml]; omega)]
        simp [List.getElem_drop, hml]
        congr 1; omega
      have hst := cnt_K_take_succ xs k hlt
      have hle := cnt_K_take xs (k + 1)
      have hmk := mkd_K_get xs k0 k hlt
      obtain ⟨n, hn⟩ : ∃ n, n = cnt_K (xs.take k) := ⟨_, rfl⟩
      rw [← hn] at hst hmk
      rw [← hn]
      have hset : z.set k ((mkd_II xs[k].1.1 (k0 + n), mkd_I xs[k].1.2 (k0 + n + cnt_II xs[k].1.1)), k0 + (n : Int) + cnt_II xs[k].1.1 + cnt_I xs[k].1.2) = (mkd_K xs k0).take (k + 1) ++ xs.drop (k + 1) := by
        rw [hz.out, List.set_append_right _ _ (by simp [hml]; omega)]
        have e : k - ((mkd_K xs k0).take k).length = 0 := by simp [hml]; omega
        rw [e, List.drop_eq_getElem_cons hlt, List.set_cons_zero, List.take_succ_eq_append_getElem (by rw [hml]; exact hlt), hmk]
        simp
      rw [hzk] at hGs hGt hUP g3
      obtain ⟨pf, hpf⟩ : ∃ pf, pf = xs[k].1.1 := ⟨_, rfl⟩
      obtain ⟨pt, hpt⟩ : ∃ pt, pt = xs[k].1.2 := ⟨_, rfl⟩
      rw [← hpf, ← hpt] at hset hst
      rw [← hpf] at hGs
      rw [← hpt] at hGt
      obtain ⟨os, cs, rfl, q1, q2⟩ := hGs.rd.val
      obtain ⟨ot, ct, rfl, q3, q4⟩ := hGt.rd.val
      have hmkF := markF_II _ pf G1 (k0 + n) wr hGs (by omega) (by omega)
      obtain ⟨cf, hcf⟩ : ∃ cf, cf = cnt_II pf := ⟨_, rfl⟩
      obtain ⟨cu, hcu⟩ : ∃ cu, cu = cnt_I pt := ⟨_, rfl⟩
      rw [← hcf] at hmkF
      rw [← hcf, ← hcu] at hst hset
      have hmkT : ∀ W, OwnF (RS RI) G2 W [.slice ot pt.length ct] pt → Calls Try.prog 15 #[.slice ot pt.length ct, .int .i64 (k0 + n + cf)] W fun e w' => e = .returned (.int .i64 (k0 + n + cf + (cu : Nat))) ∧ OwnF (RS RI) G2 w' [.slice ot pt.length ct] (mkd_I pt (k0 + n + cf)) ∧ ChgF G2 W w' := fun W hW => by
        rw [hcu]; exact markF_I _ pt G2 (k0 + n + cf) W hW (by omega) (by omega)
      have HMT := Lib.hid hmkT
      have HUP := Lib.hid hUP
      have HSET := Lib.hid hset
      have HST := Lib.hid hst
      have HZL := Lib.hid hzl
      have HGT := Lib.hid hGt
      have HD : Hid (∀ b, b ∈ G1 → b ∉ G2) := Lib.hid hdis
      have HN1 : Hid (g ∉ G1 ∧ g ∉ G2) := Lib.hid ⟨fun hg => (hG1F g hg).2 rfl, fun hg => (hG2F g hg).2 rfl⟩
      have HG2 : Hid (∀ b ∈ G2, b < wr.heap.size) := Lib.hid hGt.lt
      have HG1 : Hid (∀ b ∈ G1, b < wr.heap.size) := Lib.hid hGs.lt
      have HGL := Lib.hid hgl
      have HT2 := Lib.hid g2
      have i1 : (0 : Int) ≤ (k : Int) := by omega
      have i2 : (k : Int) < (xs.length : Int) := by omega
      have hw2 : IntKind.i64.wrap (k0 + (n : Int) + (cf : Int) + (cu : Int) + 1) = k0 + n + cf + cu + 1 := IntWalk.i64_in _ (by omega)
      have hw3 : IntKind.i64.wrap (k0 + (n : Int) + (cf : Int) + (cu : Int)) = k0 + n + cf + cu := IntWalk.i64_in _ (by omega)
      have HIN : Hid (In64 (k0 + (n : Int) + (cf : Int) + (cu : Int))) := Lib.hid (by unfold In64; omega)
      obtain ⟨p2, hp2⟩ : ∃ p2, p2 = xs[k].2 := ⟨_, rfl⟩
      rw [← hp2] at HUP
      clear hUP hset hst hmk hzk hzl hn hpf hpt hGs hGt hml hcf hcu hp2 g3 hfz hmkT hdis hG1F hG2F
      go_wp2_with fail
      refine hmkF.mono ?_
      rintro e w2 ⟨rfl, hr2, hc2⟩
      have hT2 := HGT.out.frame (w' := w2) (fun b hb => hc2.block b (HG2.out b hb) (fun h1 => HD.out b h1 hb))
      have g2' : w2.cell? ⟨g, k * 3 + 1, none⟩ = some (.slice ot pt.length ct) := (hc2.cell HGL.out HN1.out.1).trans HT2.out
      have HC2 := Lib.hid hc2
      have HR2 := Lib.hid hr2
      have hmk2 := HMT.out w2 hT2
      clear hmkF hr2 hc2 hT2 g1 g2
      go_wp2_with fail
      refine hmk2.mono ?_
      rintro e w3 ⟨rfl, hr3, hc3⟩
      have hr2' := HR2.out.frame (w' := w3) (fun b hb => hc3.block b (HR2.out.lt b hb) (HD.out b hb))
      obtain ⟨k1, k2⟩ := HUP.out w3 _ _ hr2' hr3 ((HC2.out.mono (fun b hb => List.mem_append_left _ hb)).trans (hc3.mono (fun b hb => List.mem_append_right _ hb)))
      have hzl2 : (z.set k ((mkd_II pf (k0 + n), mkd_I pt (k0 + n + cf)), p2)).length = xs.length := by rw [List.length_set, HZL.out]
      obtain ⟨g', cap', s', t', G1', G2', hv', -, -, -, g1', g2'', g3', hfz', -, -, -, -, -, -, hNUM⟩ := k1.at3 rfl rfl k (by omega)
      rw [hzl2] at hv'
      simp only [Value.slice.injEq, Option.some.injEq, Addr.mk.injEq, and_true, true_and] at hv'
      obtain ⟨rfl, rfl⟩ := hv'
      simp only [List.getElem_set_self] at g3' hNUM
      obtain ⟨f1, f2⟩ := hNUM (k0 + n + cf + cu) HIN.out
      rw [List.set_set] at f1
      rw [HSET.out] at f1
      have HF : Hid (OwnF (RS RCut) F (w3.setCell ⟨g, k * 3 + 2, none⟩ (.int .i64 (k0 + n + cf + cu))) [.slice (some ⟨g, 0, none⟩) xs.length cap] ((mkd_K xs k0).take (k + 1) ++ xs.drop (k + 1)) ∧ ChgF F w (w3.setCell ⟨g, k * 3 + 2, none⟩ (.int .i64 (k0 + n + cf + cu)))) := Lib.hid ⟨f1, hown.out.2.trans (k2.trans f2)⟩
      clear k1 k2 hr2' hr3 hc3 hmk2 f1 f2 hNUM hzl2 g1' g2' g2''
      go_wp2_with fail
      go_roundw
      case rel => exact ⟨k + 1, _, by omega, by go_num, by rw [HST.out]; congr 1; omega, Lib.hid rfl, HF⟩
      case measure => simp [intOf] <;> omega
    · have hfin : Hid (z = mkd_K xs k0) := Lib.hid (by rw [hz.out, List.take_of_length_le (by rw [mkd_K_len]; omega), List.drop_of_length_le (by omega), List.append_nil])
      have hf2 : xs.take k = xs := List.take_of_length_le (by omega)
      rw [hf2]
      go_wp2_with fail
      go_ret
      exact ⟨rfl, hfin.out ▸ hown.out.1, hown.out.2⟩
theorem mark_K (v : Value) (xs : List ((List (List Int) × List Int) × Int)) (lo hi : Nat) (k0 : Int) (w : World) (h : Own (RS RCut) lo hi w [v] xs) (hk0 : 0 ≤ k0) (hk : k0 + cnt_K xs ≤ 4611686018427387904) :
    Calls Try.prog 21 #[v, .int .i64 k0] w fun e w' => e = .returned (.int .i64 (k0 + (cnt_K xs : Nat))) ∧ Own (RS RCut) lo hi w' [v] (mkd_K xs k0) ∧ Chg lo hi w w' := by
  obtain ⟨F, hF, hb⟩ := OwnF.of h
  refine (markF_K v xs F k0 w hF hk0 hk).mono ?_
  rintro e w' ⟨rfl, h1, h2⟩
  exact ⟨rfl, h1.to hb, ⟨h2.os, h2.tape, h2.output, h2.size, fun k hk hne => h2.block k hk (fun e => by have := hb k e; omega)⟩⟩
noncomputable def TEqK : Tab Try.prog :=
  (Tab.none.add 27 (tab2 codLL codLL fun f g => if f = g then some [.val (.bool true)] else none) (tab2_ok fun f g rs h => by
    split at h
    · rename_i e; subst e; cases h
      exact AFn.of_v (v := .bool true) (enters_of Try.func27 rfl rfl) (fun _ _ => rdV_bool.2 rfl) (fun w A vs ⟨v1, _, e1, h1, v2, _, e2, h2, e3⟩ => by subst e3; subst e2; subst e1; exact eqv_II v1 v2 f w (Rd.of (rdLL h1)) (Rd.of (rdLL h2)))
    · cases h)).add 11 (tab2 codL codL fun f g => if f = g then some [.val (.bool true)] else none) (tab2_ok fun f g rs h => by
    split at h
    · rename_i e; subst e; cases h
      exact AFn.of_v (v := .bool true) (enters_of Try.func11 rfl rfl) (fun _ _ => rdV_bool.2 rfl) (fun w A vs ⟨v1, _, e1, h1, v2, _, e2, h2, e3⟩ => by subst e3; subst e2; subst e1; exact eqv_I v1 v2 f w (Rd.of (rd1 h1)) (Rd.of (rd1 h2)))
    · cases h)
theorem a_eqCut (c : (List (List Int) × List Int) × Int) : AFn Try.prog 41 [eK c, eK c] (· = [.val (.bool true)]) := by
  obtain ⟨⟨f, g⟩, n⟩ := c
  have hn : (n != n) = false := by simp
  refine AFn.of_runs (cfg_ok 22) Try.func41 rfl rfl rfl (by simp only [List.length_cons, List.length_nil]; decide) ?_
  have hres : Try.f41.results.toList = [.tmp 4] := rfl
  have hrts : Try.f41.resultTypes.toList = [4] := rfl
  simp only [argRegs, argAV1, eL, eI, eLL, eB, Nat.zero_add, Nat.reduceAdd, eK]
  intro M
  refine RunK.of ?_
  repeat' (first | with_reducible (first | refine Q1 ?_ | refine Q2 ?_ | refine Q3 ?_ | refine Q4 ?_ | refine Q5 ?_ | refine Q6 ?_ | refine Q7 ?_ | refine Q8 ?_ | refine Q9 ?_ | refine Qa ?_ | refine Qb ?_ | refine Qc ?_ | refine Qd ?_ | refine Qe ?_ | refine Qf ?_) | ((with_reducible refine Qo ?_ ?_); focus rfl) | ((with_reducible first | refine QT 5 (l := ?_) ?_ ?_ | refine QF 5 (l := ?_) ?_ ?_); rotate_left 1; focus (simp only [Zu, Nat.reduceSub, Nat.reduceBEq]; with_reducible rfl)) | ((with_reducible first | refine QS (cfg_ok 22) TEqK (s' := ?_) ?_ ?_ | refine QC (b := ?_) ?_ ?_); rotate_left 1; focus ((with_reducible refine QW ?_); simp only [Zg, seval, if_true, if_false, reduceCtorEq, Nat.reduceEqDiff, TEqK, TEqK, hn, eq_self, if_true]; with_reducible rfl)))
  (refine Ends.mk (by simp) (rs := ?_) (ks := ?_) hres hrts ?_ ?_ ?_; rotate_left 2; (focus (simp only [Ze, Zg, seval, if_true, if_false, reduceCtorEq, Nat.reduceEqDiff]; with_reducible rfl)); (focus simp); focus (first | with_reducible rfl | (simp only [Zv]; done)))
theorem a_eqCutS (xs : List ((List (List Int) × List Int) × Int)) (hl : xs.length ≤ maxLen) : AFn Try.prog 20 [[.sl 3 (xs.map eK)], [.sl 3 (xs.map eK)]] (· = [.val (.bool true)]) := by
  unfold maxLen at hl
  have hle : (xs.map eK).length = xs.length := List.length_map _
  have hne : ((xs.length : Int) != (xs.length : Int)) = false := by simp
  refine AFn.of_runs (cfg_ok 27) Try.func20 rfl rfl rfl (by simp only [List.length_cons, List.length_nil]; decide) ?_
  have hres : Try.f20.results.toList = [.tmp 4] := rfl
  have hrts : Try.f20.resultTypes.toList = [4] := rfl
  simp only [argRegs, argAV1, eL, eI, eLL, eB, Nat.zero_add, Nat.reduceAdd]
  intro M
  refine RunK.of ?_
  repeat' (first | with_reducible (first | refine Q1 ?_ | refine Q2 ?_ | refine Q3 ?_ | refine Q4 ?_ | refine Q5 ?_ | refine Q6 ?_ | refine Q7 ?_ | refine Q8 ?_ | refine Q9 ?_ | refine Qa ?_ | refine Qb ?_ | refine Qc ?_ | refine Qd ?_ | refine Qe ?_ | refine Qf ?_) | ((with_reducible refine Qo ?_ ?_); focus rfl) | ((with_reducible first | refine QT 6 (l := ?_) ?_ ?_ | refine QF 6 (l := ?_) ?_ ?_); rotate_left 1; focus (simp only [Zu, Nat.reduceSub, Nat.reduceBEq]; with_reducible rfl)) | ((with_reducible first | refine QS (cfg_ok 27) Tab.none (s' := ?_) ?_ ?_ | refine QC (b := ?_) ?_ ?_); rotate_left 1; focus ((with_reducible refine QW ?_); simp only [Zg, seval, if_true, if_false, reduceCtorEq, Nat.reduceEqDiff, hle, hne]; with_reducible rfl)) | ((with_reducible refine QD (cfg_ok 27) Tab.none mixed_ok (tr := ?_) (s' := ?_) ?_ ?_ ?_); rotate_left 2; (focus ((with_reducible refine QW ?_); simp only [Zg, Zd, seval, if_true, if_false, reduceCtorEq, Nat.reduceEqDiff, hle, hne]; with_reducible rfl)); focus ((with_reducible refine QK ?_); simp only [Zk]; kernel_rfl)))
  refine RunK.loop (β := Nat) (γ := Unit) (fun i => ⟨[(0, .c (.val (.sl 3 (xs.map eK)))), (1, .c (.val (.sl 3 (xs.map eK)))), (5, .c (.val (.int i)))], []⟩) (fun i => i ≤ xs.length) (fun i => xs.length - i)
    (fun _ => ⟨[], []⟩) (fun _ => True) 0 (Nat.zero_le _) ?_ ?_ ?_
  · (repeat' (first | with_reducible refine Qn | ((with_reducible refine Qr ?_ ?_); focus (first | with_reducible rfl | (simp only [Zz, Nat.reduceBEq, Int.natCast_zero]; done) | rfl)) | ((with_reducible refine Qj (o' := ?_) ?_ ?_ ?_); rotate_left 1; focus rfl) | ((with_reducible refine Qw ?_ ?_); (focus (first | with_reducible rfl | (simp only [Zv, Int.natCast_zero]; done))); focus (first | exact id | exact (fun h => nomatch h) | exact (fun _ => rfl)))))
  · intro i hi
    have hi : i ≤ xs.length := hi
    by_cases h : i < xs.length
    · have hw := w64_succ (n := i) (by omega)
      have i1 : ((i : Int) < (xs.length : Int)) = True := eq_true (by omega)
      have i2 : ((0 : Int) ≤ (i : Int)) = True := eq_true (by omega)
      obtain ⟨c, hc⟩ : ∃ c, c = xs[i] := ⟨_, rfl⟩
      have hg : (xs.map eK)[i]? = some (eK c) := by rw [map_get h, hc]
      have hq := a_eqCut c
      obtain ⟨⟨f, g⟩, n⟩ := c
      simp only [eK] at hg hq
      repeat' (first | with_reducible (first | refine Q1 ?_ | refine Q2 ?_ | refine Q3 ?_ | refine Q4 ?_ | refine Q5 ?_ | refine Q6 ?_ | refine Q7 ?_ | refine Q8 ?_ | refine Q9 ?_ | refine Qa ?_ | refine Qb ?_ | refine Qc ?_ | refine Qd ?_ | refine Qe ?_ | refine Qf ?_) | ((with_reducible refine Qo ?_ ?_); focus rfl) | ((with_reducible first | refine QT 6 (l := ?_) ?_ ?_ | refine QF 6 (l := ?_) ?_ ?_); rotate_left 1; focus (simp only [Zu, Nat.reduceSub, Nat.reduceBEq]; with_reducible rfl)) | ((with_reducible first | refine QS (cfg_ok 27) (Tab.none.at' 41 hq) (s' := ?_) ?_ ?_ | refine QC (b := ?_) ?_ ?_); rotate_left 1; focus ((with_reducible refine QW ?_); simp only [Zg, seval, if_true, if_false, reduceCtorEq, Nat.reduceEqDiff, hle, i1, i2, hg, hw, Int.toNat_natCast]; with_reducible rfl)) | ((with_reducible refine QD (cfg_ok 27) (Tab.none.at' 41 hq) mixed_ok (tr := ?_) (s' := ?_) ?_ ?_ ?_); rotate_left 2; (focus ((with_reducible refine QW ?_); simp only [Zg, Zd, seval, if_true, if_false, reduceCtorEq, Nat.reduceEqDiff, hle, i1, i2, hg, hw, Int.toNat_natCast]; with_reducible rfl)); focus ((with_reducible refine QK ?_); simp only [Zk]; kernel_rfl)))
      refine roundK.on (i + 1) ⟨h, by omega⟩ ?_
      (repeat' (first | with_reducible refine Qn | ((with_reducible refine Qr ?_ ?_); focus (first | with_reducible rfl | (simp only [Zz, Nat.reduceBEq]; done) | rfl)) | ((with_reducible refine Qj (o' := ?_) ?_ ?_ ?_); rotate_left 1; focus rfl) | ((with_reducible refine Qw ?_ ?_); (focus (first | with_reducible rfl | (simp only [Zv]; done))); focus (first | exact id | exact (fun h => nomatch h) | exact (fun _ => rfl)))))
    · have i1 : ((i : Int) < (xs.length : Int)) = False := eq_false (by omega)
      repeat' (first | with_reducible (first | refine Q1 ?_ | refine Q2 ?_ | refine Q3 ?_ | refine Q4 ?_ | refine Q5 ?_ | refine Q6 ?_ | refine Q7 ?_ | refine Q8 ?_ | refine Q9 ?_ | refine Qa ?_ | refine Qb ?_ | refine Qc ?_ | refine Qd ?_ | refine Qe ?_ | refine Qf ?_) | ((with_reducible refine Qo ?_ ?_); focus rfl) | ((with_reducible first | refine QT 6 (l := ?_) ?_ ?_ | refine QF 6 (l := ?_) ?_ ?_); rotate_left 1; focus (simp only [Zu, Nat.reduceSub, Nat.reduceBEq]; with_reducible rfl)) | ((with_reducible first | refine QS (cfg_ok 27) Tab.none (s' := ?_) ?_ ?_ | refine QC (b := ?_) ?_ ?_); rotate_left 1; focus ((with_reducible refine QW ?_); simp only [Zg, seval, if_true, if_false, reduceCtorEq, Nat.reduceEqDiff, hle, i1]; with_reducible rfl)) | ((with_reducible refine QD (cfg_ok 27) Tab.none mixed_ok (tr := ?_) (s' := ?_) ?_ ?_ ?_); rotate_left 2; (focus ((with_reducible refine QW ?_); simp only [Zg, Zd, seval, if_true, if_false, reduceCtorEq, Nat.reduceEqDiff, hle, i1]; with_reducible rfl)); focus ((with_reducible refine QK ?_); simp only [Zk]; kernel_rfl)))
      refine roundK.out () trivial ?_
      (repeat' (first | with_reducible refine Qn | ((with_reducible refine Qr ?_ ?_); focus (first | with_reducible rfl | (simp only [Zz, Nat.reduceBEq]; done) | rfl)) | ((with_reducible refine Qj (o' := ?_) ?_ ?_ ?_); rotate_left 1; focus rfl) | ((with_reducible refine Qw ?_ ?_); (focus (first | with_reducible rfl | (simp only [Zv]; done))); focus (first | exact id | exact (fun h => nomatch h) | exact (fun _ => rfl)))))
  · rintro _ _
    repeat' (first | with_reducible (first | refine Q1 ?_ | refine Q2 ?_ | refine Q3 ?_ | refine Q4 ?_ | refine Q5 ?_ | refine Q6 ?_ | refine Q7 ?_ | refine Q8 ?_ | refine Q9 ?_ | refine Qa ?_ | refine Qb ?_ | refine Qc ?_ | refine Qd ?_ | refine Qe ?_ | refine Qf ?_) | ((with_reducible refine Qo ?_ ?_); focus rfl) | ((with_reducible first | refine QT 6 (l := ?_) ?_ ?_ | refine QF 6 (l := ?_) ?_ ?_); rotate_left 1; focus (simp only [Zu, Nat.reduceSub, Nat.reduceBEq]; with_reducible rfl)) | ((with_reducible first | refine QS (cfg_ok 27) Tab.none (s' := ?_) ?_ ?_ | refine QC (b := ?_) ?_ ?_); rotate_left 1; focus ((with_reducible refine QW ?_); simp only [Zg, seval, if_true, if_false, reduceCtorEq, Nat.reduceEqDiff]; with_reducible rfl)) | ((with_reducible refine QD (cfg_ok 27) Tab.none mixed_ok (tr := ?_) (s' := ?_) ?_ ?_ ?_); rotate_left 2; (focus ((with_reducible refine QW ?_); simp only [Zg, Zd, seval, if_true, if_false, reduceCtorEq, Nat.reduceEqDiff]; with_reducible rfl)); focus ((with_reducible refine QK ?_); simp only [Zk]; kernel_rfl)))
    (refine Ends.mk (by simp) (rs := ?_) (ks := ?_) hres hrts ?_ ?_ ?_; rotate_left 2; (focus (simp only [Ze, Zg, seval, if_true, if_false, reduceCtorEq, Nat.reduceEqDiff]; with_reducible rfl)); (focus simp); focus (first | with_reducible rfl | (simp only [Zv]; done)))
theorem eqv_K (v1 v2 : Value) (xs : List ((List (List Int) × List Int) × Int)) (w : World) (h1 : Rd (RS RCut) w [v1] xs) (h2 : Rd (RS RCut) w [v2] xs) :
    Calls Try.prog 20 #[v1, v2] w (RetV w (.bool true)) :=
  AFn.one (v := .bool true) (fun A w u hu => rdV_bool.1 hu) (a_eqCutS xs (by obtain ⟨_, _, _, a, b⟩ := h1.val; omega)) (args2 (arg_K h1) (arg_K h2))
theorem a_heldIIK (f : List (List Int)) (k : Int) (hk0 : 0 ≤ k) (hk : k + cnt_II f ≤ 4611686018427387904) : AFn Try.prog 43 [eLL (mkd_II f k), eI k] (· = [.val (.int (k + (cnt_II f : Nat)))]) :=
  AFn.of_s (v := .int .i64 _) (enters_of Try.func43 rfl rfl) (fun _ _ => rdV_int.2 ⟨rfl, by unfold In64; omega⟩) (fun w A vs ⟨v1, _, e1, h1, v2, _, e2, h2, e3⟩ => by subst e3; subst e2; subst e1; rw [arg_int h2]; exact held_II v1 f k w (Rd.of (rdLL h1)) hk0 hk)
theorem a_held2K (f : List Int) (k : Int) (hk0 : 0 ≤ k) (hk : k + cnt_I f ≤ 4611686018427387904) : AFn Try.prog 39 [eL (mkd_I f k), eI k] (· = [.val (.int (k + (cnt_I f : Nat)))]) :=
  AFn.of_s (v := .int .i64 _) (enters_of Try.func39 rfl rfl) (fun _ _ => rdV_int.2 ⟨rfl, by unfold In64; omega⟩) (fun w A vs ⟨v1, _, e1, h1, v2, _, e2, h2, e3⟩ => by subst e3; subst e2; subst e1; rw [arg_int h2]; exact held_I v1 f k w (Rd.of (rd1 h1)) hk0 hk)
theorem a_heldCutS (xs : List ((List (List Int) × List Int) × Int)) (k0 : Int) (hl : xs.length ≤ maxLen) (hk0 : 0 ≤ k0) (hk : k0 + cnt_K xs ≤ 4611686018427387904) : AFn Try.prog 22 [[.sl 3 ((mkd_K xs k0).map eK)], eI k0] (· = [.val (.int (k0 + (cnt_K xs : Nat)))]) := by
  unfold maxLen at hl
  have hle : ((mkd_K xs k0).map eK).length = xs.length := by rw [List.length_map, mkd_K_len]
  have hle2 := mkd_K_len xs k0
  refine AFn.of_runs (cfg_ok 40) Try.func22 rfl rfl rfl (by simp only [List.length_cons, List.length_nil]; decide) ?_
  have hres : Try.f22.results.toList = [.tmp 4] := rfl
  have hrts : Try.f22.resultTypes.toList = [3] := rfl
  simp only [argRegs, argAV1, eL, eI, eLL, eB, Nat.zero_add, Nat.reduceAdd]
  intro M
  refine RunK.of ?_
  repeat' (first | with_reducible (first | refine Q1 ?_ | refine Q2 ?_ | refine Q3 ?_ | refine Q4 ?_ | refine Q5 ?_ | refine Q6 ?_ | refine Q7 ?_ | refine Q8 ?_ | refine Q9 ?_ | refine Qa ?_ | refine Qb ?_ | refine Qc ?_ | refine Qd ?_ | refine Qe ?_ | refine Qf ?_) | ((with_reducible refine Qo ?_ ?_); focus rfl) | ((with_reducible first | refine QT 6 (l := ?_) ?_ ?_ | refine QF 6 (l := ?_) ?_ ?_); rotate_left 1; focus (simp only [Zu, Nat.reduceSub, Nat.reduceBEq]; with_reducible rfl)) | ((with_reducible first | refine QS (cfg_ok 40) Tab.none (s' := ?_) ?_ ?_ | refine QC (b := ?_) ?_ ?_); rotate_left 1; focus ((with_reducible refine QW ?_); simp only [Zg, seval, if_true, if_false, reduceCtorEq, Nat.reduceEqDiff]; with_reducible rfl)))
  refine RunK.loop (β := Nat) (γ := Unit) (fun i => ⟨[(0, .c (.val (.sl 3 ((mkd_K xs k0).map eK)))), (1, .c (.val (.int (k0 + (cnt_K (xs.take i) : Nat))))), (5, .c (.val (.int i)))], []⟩) (fun i => i ≤ xs.length) (fun i => xs.length - i)
    (fun _ => ⟨[(1, .c (.val (.int (k0 + (cnt_K xs : Nat)))))], []⟩) (fun _ => True) 0 (Nat.zero_le _) ?_ ?_ ?_
  · (repeat' (first | with_reducible refine Qn | ((with_reducible refine Qr ?_ ?_); focus (first | with_reducible rfl | (simp only [Zz, Nat.reduceBEq, List.take_zero, show cnt_K [] = 0 from rfl, Int.natCast_zero, Int.add_zero]; done) | rfl)) | ((with_reducible refine Qj (o' := ?_) ?_ ?_ ?_); rotate_left 1; focus rfl) | ((with_reducible refine Qw ?_ ?_); (focus (first | with_reducible rfl | (simp only [Zv, List.take_zero, show cnt_K [] = 0 from rfl, Int.natCast_zero, Int.add_zero]; done))); focus (first | exact id | exact (fun h => nomatch h) | exact (fun _ => rfl)))))
  · intro i hi
    have hi : i ≤ xs.length := hi
    by_cases h : i < xs.length
    · have hw := w64_succ (n := i) (by omega)
      have i1 : ((i : Int) < (xs.length : Int)) = True := eq_true (by omega)
      have i2 : ((0 : Int) ≤ (i : Int)) = True := eq_true (by omega)
      have hgt := mkd_K_get xs k0 i h
      have hst := cnt_K_take_succ xs i h
      have hlt := cnt_K_take xs (i + 1)
      obtain ⟨n, hn⟩ : ∃ n, n = cnt_K (xs.take i) := ⟨_, rfl⟩
      rw [← hn] at hgt hst ⊢
      obtain ⟨f, hf⟩ : ∃ f, f = xs[i].1.1 := ⟨_, rfl⟩
      obtain ⟨g, hg2⟩ : ∃ g, g = xs[i].1.2 := ⟨_, rfl⟩
      rw [← hf, ← hg2] at hgt hst
      have hg : ((mkd_K xs k0).map eK)[i]? = some [.sl 1 ((mkd_II f (k0 + n)).map eL), .sl 1 ((mkd_I g (k0 + n + cnt_II f)).map eI), .int (k0 + n + cnt_II f + cnt_I g)] := by
        rw [map_get (by rw [hle2]; exact h), hgt]; rfl
      have h1 := a_heldIIK f (k0 + n) (by omega) (by omega)
      have h2 := a_held2K g (k0 + n + cnt_II f) (by omega) (by omega)
      simp only [eLL, eL, eI] at h1 h2
      have c1 : (k0 + (n : Int) + (cnt_II f : Int) < 0) = False := eq_false (by omega)
      have c2 : (k0 + (n : Int) + (cnt_II f : Int) + (cnt_I g : Int) < 0) = False := eq_false (by omega)
      have c3 : (k0 + (n : Int) + (cnt_II f : Int) + (cnt_I g : Int) != k0 + n + cnt_II f + cnt_I g) = false := by simp
      have hw2 := w64_eq (n := k0 + (n : Int) + (cnt_II f : Int) + (cnt_I g : Int) + 1) (by omega)
      ((repeat' (first | with_reducible (first | refine Q1 ?_ | refine Q2 ?_ | refine Q3 ?_ | refine Q4 ?_ | refine Q5 ?_ | refine Q6 ?_ | refine Q7 ?_ | refine Q8 ?_ | refine Q9 ?_ | refine Qa ?_ | refine Qb ?_ | refine Qc ?_ | refine Qd ?_ | refine Qe ?_ | refine Qf ?_) | ((with_reducible refine Qo ?_ ?_); focus rfl) | ((with_reducible first | refine QT 6 (l := ?_) ?_ ?_ | refine QF 6 (l := ?_) ?_ ?_); rotate_left 1; focus (simp only [Zu, Nat.reduceSub, Nat.reduceBEq]; with_reducible rfl)) | ((with_reducible refine QC (b := ?_) ?_ ?_); rotate_left 1; focus ((with_reducible refine QW ?_); simp only [Zg, seval, if_true, if_false, reduceCtorEq, Nat.reduceEqDiff, hle, i1]; with_reducible rfl)))); ((with_reducible refine QS (cfg_ok 40) Tab.none (s' := ?_) ?_ ?_); rotate_left 1; focus ((with_reducible refine QW ?_); simp only [Zg, seval, if_true, if_false, reduceCtorEq, Nat.reduceEqDiff, hle, i1]; with_reducible rfl)); (repeat' (first | with_reducible (first | refine Q1 ?_ | refine Q2 ?_ | refine Q3 ?_ | refine Q4 ?_ | refine Q5 ?_ | refine Q6 ?_ | refine Q7 ?_ | refine Q8 ?_ | refine Q9 ?_ | refine Qa ?_ | refine Qb ?_ | refine Qc ?_ | refine Qd ?_ | refine Qe ?_ | refine Qf ?_) | ((with_reducible refine Qo ?_ ?_); focus rfl) | ((with_reducible first | refine QT 6 (l := ?_) ?_ ?_ | refine QF 6 (l := ?_) ?_ ?_); rotate_left 1; focus (simp only [Zu, Nat.reduceSub, Nat.reduceBEq]; with_reducible rfl)) | ((with_reducible refine QC (b := ?_) ?_ ?_); rotate_left 1; focus ((with_reducible refine QW ?_); simp only [Zg, seval, if_true, if_false, reduceCtorEq, Nat.reduceEqDiff, hle, i1]; with_reducible rfl)))))
      ((repeat' (first | with_reducible (first | refine Q1 ?_ | refine Q2 ?_ | refine Q3 ?_ | refine Q4 ?_ | refine Q5 ?_ | refine Q6 ?_ | refine Q7 ?_ | refine Q8 ?_ | refine Q9 ?_ | refine Qa ?_ | refine Qb ?_ | refine Qc ?_ | refine Qd ?_ | refine Qe ?_ | refine Qf ?_) | ((with_reducible refine Qo ?_ ?_); focus rfl) | ((with_reducible first | refine QT 6 (l := ?_) ?_ ?_ | refine QF 6 (l := ?_) ?_ ?_); rotate_left 1; focus (simp only [Zu, Nat.reduceSub, Nat.reduceBEq]; with_reducible rfl)) | ((with_reducible refine QC (b := ?_) ?_ ?_); rotate_left 1; focus ((with_reducible refine QW ?_); simp only [Zg, seval, if_true, if_false, reduceCtorEq, Nat.reduceEqDiff, hle, i1, i2, hg, Int.toNat_natCast]; with_reducible rfl)))); ((with_reducible refine QS (cfg_ok 40) (Tab.none.at' 43 h1) (s' := ?_) ?_ ?_); rotate_left 1; focus ((with_reducible refine QW ?_); simp only [Zg, seval, if_true, if_false, reduceCtorEq, Nat.reduceEqDiff, hle, i1, i2, hg, Int.toNat_natCast]; with_reducible rfl)); (repeat' (first | with_reducible (first | refine Q1 ?_ | refine Q2 ?_ | refine Q3 ?_ | refine Q4 ?_ | refine Q5 ?_ | refine Q6 ?_ | refine Q7 ?_ | refine Q8 ?_ | refine Q9 ?_ | refine Qa ?_ | refine Qb ?_ | refine Qc ?_ | refine Qd ?_ | refine Qe ?_ | refine Qf ?_) | ((with_reducible refine Qo ?_ ?_); focus rfl) | ((with_reducible first | refine QT 6 (l := ?_) ?_ ?_ | refine QF 6 (l := ?_) ?_ ?_); rotate_left 1; focus (simp only [Zu, Nat.reduceSub, Nat.reduceBEq]; with_reducible rfl)) | ((with_reducible refine QC (b := ?_) ?_ ?_); rotate_left 1; focus ((with_reducible refine QW ?_); simp only [Zg, seval, if_true, if_false, reduceCtorEq, Nat.reduceEqDiff, hle, i1, i2, hg, Int.toNat_natCast]; with_reducible rfl)))))
      repeat' (first | with_reducible (first | refine Q1 ?_ | refine Q2 ?_ | refine Q3 ?_ | refine Q4 ?_ | refine Q5 ?_ | refine Q6 ?_ | refine Q7 ?_ | refine Q8 ?_ | refine Q9 ?_ | refine Qa ?_ | refine Qb ?_ | refine Qc ?_ | refine Qd ?_ | refine Qe ?_ | refine Qf ?_) | ((with_reducible refine Qo ?_ ?_); focus rfl) | ((with_reducible first | refine QT 6 (l := ?_) ?_ ?_ | refine QF 6 (l := ?_) ?_ ?_); rotate_left 1; focus (simp only [Zu, Nat.reduceSub, Nat.reduceBEq]; with_reducible rfl)) | ((with_reducible first | refine QS (cfg_ok 40) (Tab.none.at' 39 h2) (s' := ?_) ?_ ?_ | refine QC (b := ?_) ?_ ?_); rotate_left 1; focus ((with_reducible refine QW ?_); simp only [Zg, seval, if_true, if_false, reduceCtorEq, Nat.reduceEqDiff, hle, i1, i2, hg, hw, c1, c2, c3, hw2, Int.toNat_natCast]; with_reducible rfl)))
      refine roundK.on (i + 1) ⟨h, by omega⟩ ?_
      have e : k0 + ((cnt_K (xs.take (i + 1)) : Nat) : Int) = k0 + n + cnt_II f + cnt_I g + 1 := by rw [hst]; omega
      rw [e]
      (repeat' (first | with_reducible refine Qn | ((with_reducible refine Qr ?_ ?_); focus (first | with_reducible rfl | (simp only [Zz, Nat.reduceBEq]; done) | rfl)) | ((with_reducible refine Qj (o' := ?_) ?_ ?_ ?_); rotate_left 1; focus rfl) | ((with_reducible refine Qw ?_ ?_); (focus (first | with_reducible rfl | (simp only [Zv]; done))); focus (first | exact id | exact (fun h => nomatch h) | exact (fun _ => rfl)))))
    · have i1 : ((i : Int) < (xs.length : Int)) = False := eq_false (by omega)
      obtain rfl : i = xs.length := by omega
      rw [List.take_length]
      repeat' (first | with_reducible (first | refine Q1 ?_ | refine Q2 ?_ | refine Q3 ?_ | refine Q4 ?_ | refine Q5 ?_ | refine Q6 ?_ | refine Q7 ?_ | refine Q8 ?_ | refine Q9 ?_ | refine Qa ?_ | refine Qb ?_ | refine Qc ?_ | refine Qd ?_ | refine Qe ?_ | refine Qf ?_) | ((with_reducible refine Qo ?_ ?_); focus rfl) | ((with_reducible first | refine QT 6 (l := ?_) ?_ ?_ | refine QF 6 (l := ?_) ?_ ?_); rotate_left 1; focus (simp only [Zu, Nat.reduceSub, Nat.reduceBEq]; with_reducible rfl)) | ((with_reducible first | refine QS (cfg_ok 40) Tab.none (s' := ?_) ?_ ?_ | refine QC (b := ?_) ?_ ?_); rotate_left 1; focus ((with_reducible refine QW ?_); simp only [Zg, seval, if_true, if_false, reduceCtorEq, Nat.reduceEqDiff, hle, i1]; with_reducible rfl)))
      refine roundK.out () trivial ?_
      (repeat' (first | with_reducible refine Qn | ((with_reducible refine Qr ?_ ?_); focus (first | with_reducible rfl | (simp only [Zz, Nat.reduceBEq]; done) | rfl)) | ((with_reducible refine Qj (o' := ?_) ?_ ?_ ?_); rotate_left 1; focus rfl) | ((with_reducible refine Qw ?_ ?_); (focus (first | with_reducible rfl | (simp only [Zv]; done))); focus (first | exact id | exact (fun h => nomatch h) | exact (fun _ => rfl)))))
  · rintro _ _
    repeat' (first | with_reducible (first | refine Q1 ?_ | refine Q2 ?_ | refine Q3 ?_ | refine Q4 ?_ | refine Q5 ?_ | refine Q6 ?_ | refine Q7 ?_ | refine Q8 ?_ | refine Q9 ?_ | refine Qa ?_ | refine Qb ?_ | refine Qc ?_ | refine Qd ?_ | refine Qe ?_ | refine Qf ?_) | ((with_reducible refine Qo ?_ ?_); focus rfl) | ((with_reducible first | refine QT 6 (l := ?_) ?_ ?_ | refine QF 6 (l := ?_) ?_ ?_); rotate_left 1; focus (simp only [Zu, Nat.reduceSub, Nat.reduceBEq]; with_reducible rfl)) | ((with_reducible first | refine QS (cfg_ok 40) Tab.none (s' := ?_) ?_ ?_ | refine QC (b := ?_) ?_ ?_); rotate_left 1; focus ((with_reducible refine QW ?_); simp only [Zg, seval, if_true, if_false, reduceCtorEq, Nat.reduceEqDiff]; with_reducible rfl)))
    (refine Ends.mk (by simp) (rs := ?_) (ks := ?_) hres hrts ?_ ?_ ?_; rotate_left 2; (focus (simp only [Ze, Zg, seval, if_true, if_false, reduceCtorEq, Nat.reduceEqDiff]; with_reducible rfl)); (focus simp); focus (first | with_reducible rfl | (simp only [Zv]; done)))
theorem held_K (v : Value) (xs : List ((List (List Int) × List Int) × Int)) (k0 : Int) (w : World) (h : Rd (RS RCut) w [v] (mkd_K xs k0)) (hk0 : 0 ≤ k0) (hk : k0 + cnt_K xs ≤ 4611686018427387904) :
    Calls Try.prog 22 #[v, .int .i64 k0] w (RetV w (.int .i64 (k0 + (cnt_K xs : Nat)))) :=
  AFn.one (v := .int .i64 _) (fun A w u hu => (rdV_int.1 hu).1) (a_heldCutS xs k0 (by obtain ⟨_, _, _, a, b⟩ := h.val; rw [mkd_K_len] at a; omega) hk0 hk) (args2 (arg_K h) (arg_I (by unfold In64; omega)))
end Go.Proofs.Ytkdkikmhlhcndaa
namespace Go.Proofs.Ytkdkikmhlhcndaa
def fIdx {α : Type} (p : α → Bool) : List α → Option Nat
  | [] => none
  | x :: xs => if p x then some 0 else (fIdx p xs).map (· + 1)
def idxI (o : Option Nat) : Int := match o with | some i => i | none => -1
theorem fIdx_none {α : Type} {p : α → Bool} : ∀ {xs : List α}, fIdx p xs = none ↔ ∀ x ∈ xs, p x = false
  | [] => by simp [fIdx]
  | x :: xs => by
    unfold fIdx
    by_cases h : p x = true
    · simp [h]
    · have h' : p x = false := by simpa using h
      simp only [h, Bool.false_eq_true, if_false, Option.map_eq_none_iff, fIdx_none (xs := xs)]
      simp [h']
theorem fIdx_some {α : Type} {p : α → Bool} : ∀ {xs : List α} {i : Nat}, fIdx p xs = some i → ∃ h : i < xs.length, p xs[i] = true ∧ ∀ x ∈ xs.take i, p x = false
  | x :: xs, i, h => by
    unfold fIdx at h
    by_cases hx : p x = true
    · rw [if_pos hx] at h; cases h
      exact ⟨by simp, hx, by simp⟩
    · rw [if_neg hx] at h
      obtain ⟨j, hj, rfl⟩ := map_some h
      obtain ⟨h1, h2, h3⟩ := fIdx_some hj
      refine ⟨by simpa using h1, h2, fun y hy => ?_⟩
      rw [List.take_succ_cons, List.mem_cons] at hy
      rcases hy with rfl | hy
      · simpa using hx
      · exact h3 y hy
theorem fIdx_at {α : Type} {p : α → Bool} : ∀ {xs : List α} {i : Nat} (h : i < xs.length), p xs[i] = true → (∀ x ∈ xs.take i, p x = false) → fIdx p xs = some i
  | x :: xs, 0, _, h1, _ => by
    have h1 : p x = true := h1
    unfold fIdx; rw [if_pos h1]
  | x :: xs, i + 1, h, h1, h2 => by
    unfold fIdx
    have hx : p x = false := h2 x (by simp)
    rw [if_neg (by simp [hx]), fIdx_at (xs := xs) (i := i) (by simpa using h) h1 (fun y hy => h2 y (by simp [hy]))]
    rfl
def keepF {α : Type} (p : α → Bool) (xs : List α) : List α := xs.filter fun x => !p x
end Go.Proofs.Ytkdkikmhlhcndaa
namespace Go.Proofs.Ytkdkikmhlhcndaa
open Go.RowKit
set_option maxHeartbeats 2000000 in
theorem a_IndexFuncCu {α : Type} (e : α → List D) (d d2 : α → D) (c0 : α → Int) (f : α → List (List Int)) (f2 : α → List Int) (p : α → Bool) (g : FuncId) (he : ∀ x, e x = [d x, d2 x, .int (c0 x)]) (hun : ∀ x, (d x).un = .sl 1 ((f x).map eL)) (hun2 : ∀ x, (d2 x).un = .sl 1 ((f2 x).map eI)) (hp : ∀ x, AFn Try.prog g [[.sl 1 ((f x).map eL), .sl 1 ((f2 x).map eI), .int (c0 x)]] (· = [.val (.bool (p x))])) (xs : List α) (hl : xs.length ≤ 1000000000) :
    AFn Try.prog 77 [[.sl 3 (xs.map e)], [.raw (.func (.func g) #[] #[])]] (· = [.val (.int (idxI (fIdx p xs)))]) := by
  refine AFn.of_runs (cfg_ok 19) Try.func77 rfl rfl rfl (by simp only [List.length_cons, List.length_nil]; decide) ?_
  have hres : Try.f77.results.toList = [.tmp 4] := rfl
  have hrts : Try.f77.resultTypes.toList = [3] := rfl
  simp only [argRegs, argAV1, eL, eI, eLL, eB, Nat.zero_add, Nat.reduceAdd]
  intro M
  refine RunK.of ?_
  have hle : (xs.map e).length = xs.length := by simp
  repeat' (first | with_reducible (first | refine Q1 ?_ | refine Q2 ?_ | refine Q3 ?_ | refine Q4 ?_ | refine Q5 ?_ | refine Q6 ?_ | refine Q7 ?_ | refine Q8 ?_ | refine Q9 ?_ | refine Qa ?_ | refine Qb ?_ | refine Qc ?_ | refine Qd ?_ | refine Qe ?_ | refine Qf ?_) | ((with_reducible refine Qo ?_ ?_); focus rfl) | ((with_reducible first | refine QT 9 (l := ?_) ?_ ?_ | refine QF 9 (l := ?_) ?_ ?_); rotate_left 1; focus (simp only [Zu, Nat.reduceSub, Nat.reduceBEq]; with_reducible rfl)) | ((with_reducible first | refine QS (cfg_ok 19) Tab.none (s' := ?_) ?_ ?_ | refine QC (b := ?_) ?_ ?_); rotate_left 1; focus ((with_reducible refine QW ?_); simp only [Zg, seval, if_true, if_false, reduceCtorEq, Nat.reduceEqDiff, hle]; with_reducible rfl)))
  refine RunK.loop (β := Nat) (γ := Unit) (fun i => ⟨[(0, .c (.val (.sl 3 (xs.map e)))), (1, .c (.val (.raw (.func (.func g) #[] #[])))), (7, .c (.val (.int xs.length))), (8, .c (.val (.int i)))], []⟩) (fun i => i ≤ xs.length ∧ ∀ x ∈ xs.take i, p x = false) (fun i => xs.length - i)
    (fun _ => ⟨[], []⟩) (fun _ => ∀ x ∈ xs, p x = false) 0 ⟨Nat.zero_le _, by simp⟩ ?_ ?_ ?_
  · (repeat' (first | with_reducible refine Qn | ((with_reducible refine Qr ?_ ?_); focus (first | with_reducible rfl | (simp only [Zz, Nat.reduceBEq]; done) | rfl)) | ((with_reducible refine Qj (o' := ?_) ?_ ?_ ?_); rotate_left 1; focus rfl) | ((with_reducible refine Qw ?_ ?_); (focus (first | with_reducible rfl | (simp only [Zv]; done))); focus (first | exact id | exact (fun h => nomatch h) | exact (fun _ => rfl)))))
  · rintro i ⟨hi, hlow⟩
    have hw := w64_succ (n := i) (by omega)
    by_cases h : i < xs.length
    · have hx := hp xs[i]
      have hj : (xs.map e)[i]? = some [d xs[i], d2 xs[i], .int (c0 xs[i])] := by rw [map_get h, he]
      have i1 : ((i : Int) < (xs.length : Int)) = True := eq_true (by omega)
      have i2 : ((0 : Int) ≤ (i : Int)) = True := eq_true (by omega)
      by_cases hpx : p xs[i] = true
      · repeat' (first | with_reducible (first | refine Q1 ?_ | refine Q2 ?_ | refine Q3 ?_ | refine Q4 ?_ | refine Q5 ?_ | refine Q6 ?_ | refine Q7 ?_ | refine Q8 ?_ | refine Q9 ?_ | refine Qa ?_ | refine Qb ?_ | refine Qc ?_ | refine Qd ?_ | refine Qe ?_ | refine Qf ?_) | ((with_reducible refine Qo ?_ ?_); focus rfl) | ((with_reducible first | refine QT 9 (l := ?_) ?_ ?_ | refine QF 9 (l := ?_) ?_ ?_); rotate_left 1; focus (simp only [Zu, Nat.reduceSub, Nat.reduceBEq]; with_reducible rfl)) | ((with_reducible first | refine QS (cfg_ok 19) (Tab.none.at' g hx) (s' := ?_) ?_ ?_ | refine QC (b := ?_) ?_ ?_); rotate_left 1; focus ((with_reducible refine QW ?_); simp only [Zg, seval, if_true, if_false, reduceCtorEq, Nat.reduceEqDiff, hle, i1, i2, hj, hun, hun2, argV_un (hun _), cellD_un (hun _), argV_un (hun2 _), cellD_un (hun2 _), hpx, hw, eL, Int.toNat_natCast]; with_reducible rfl)))
        refine roundK.ret ?_
        repeat' (first | with_reducible (first | refine Q1 ?_ | refine Q2 ?_ | refine Q3 ?_ | refine Q4 ?_ | refine Q5 ?_ | refine Q6 ?_ | refine Q7 ?_ | refine Q8 ?_ | refine Q9 ?_ | refine Qa ?_ | refine Qb ?_ | refine Qc ?_ | refine Qd ?_ | refine Qe ?_ | refine Qf ?_) | ((with_reducible refine Qo ?_ ?_); focus rfl) | ((with_reducible first | refine QT 9 (l := ?_) ?_ ?_ | refine QF 9 (l := ?_) ?_ ?_); rotate_left 1; focus (simp only [Zu, Nat.reduceSub, Nat.reduceBEq]; with_reducible rfl)) | ((with_reducible first | refine QS (cfg_ok 19) Tab.none (s' := ?_) ?_ ?_ | refine QC (b := ?_) ?_ ?_); rotate_left 1; focus ((with_reducible refine QW ?_); simp only [Zg, seval, if_true, if_false, reduceCtorEq, Nat.reduceEqDiff]; with_reducible rfl)))
        rw [fIdx_at h hpx hlow]
        (refine Ends.mk (by simp) (rs := ?_) (ks := ?_) hres hrts ?_ ?_ ?_; rotate_left 2; (focus (simp only [Ze, Zg, seval, if_true, if_false, reduceCtorEq, Nat.reduceEqDiff, idxI]; with_reducible rfl)); (focus simp); focus (first | with_reducible rfl | (simp only [Zv, idxI]; done)))
      · have hpx' : p xs[i] = false := by simpa using hpx
        repeat' (first | with_reducible (first | refine Q1 ?_ | refine Q2 ?_ | refine Q3 ?_ | refine Q4 ?_ | refine Q5 ?_ | refine Q6 ?_ | refine Q7 ?_ | refine Q8 ?_ | refine Q9 ?_ | refine Qa ?_ | refine Qb ?_ | refine Qc ?_ | refine Qd ?_ | refine Qe ?_ | refine Qf ?_) | ((with_reducible refine Qo ?_ ?_); focus rfl) | ((with_reducible first | refine QT 9 (l := ?_) ?_ ?_ | refine QF 9 (l := ?_) ?_ ?_); rotate_left 1; focus (simp only [Zu, Nat.reduceSub, Nat.reduceBEq]; with_reducible rfl)) | ((with_reducible first | refine QS (cfg_ok 19) (Tab.none.at' g hx) (s' := ?_) ?_ ?_ | refine QC (b := ?_) ?_ ?_); rotate_left 1; focus ((with_reducible refine QW ?_); simp only [Zg, seval, if_true, if_false, reduceCtorEq, Nat.reduceEqDiff, hle, i1, i2, hj, hun, hun2, argV_un (hun _), cellD_un (hun _), argV_un (hun2 _), cellD_un (hun2 _), hpx', hw, eL, Int.toNat_natCast]; with_reducible rfl)))
        refine roundK.on (i + 1) ⟨⟨h, fun x hx => ?_⟩, by omega⟩ ?_
        · rw [List.take_succ_eq_append_getElem h, List.mem_append, List.mem_singleton] at hx
          rcases hx with hx | rfl
          · exact hlow x hx
          · exact hpx'
        · (repeat' (first | with_reducible refine Qn | ((with_reducible refine Qr ?_ ?_); focus (first | with_reducible rfl | (simp only [Zz, Nat.reduceBEq]; done) | rfl)) | ((with_reducible refine Qj (o' := ?_) ?_ ?_ ?_); rotate_left 1; focus rfl) | ((with_reducible refine Qw ?_ ?_); (focus (first | with_reducible rfl | (simp only [Zv]; done))); focus (first | exact id | exact (fun h => nomatch h) | exact (fun _ => rfl)))))
    · have i1 : ((i : Int) < (xs.length : Int)) = False := eq_false (by omega)
      repeat' (first | with_reducible (first | refine Q1 ?_ | refine Q2 ?_ | refine Q3 ?_ | refine Q4 ?_ | refine Q5 ?_ | refine Q6 ?_ | refine Q7 ?_ | refine Q8 ?_ | refine Q9 ?_ | refine Qa ?_ | refine Qb ?_ | refine Qc ?_ | refine Qd ?_ | refine Qe ?_ | refine Qf ?_) | ((with_reducible refine Qo ?_ ?_); focus rfl) | ((with_reducible first | refine QT 9 (l := ?_) ?_ ?_ | refine QF 9 (l := ?_) ?_ ?_); rotate_left 1; focus (simp only [Zu, Nat.reduceSub, Nat.reduceBEq]; with_reducible rfl)) | ((with_reducible first | refine QS (cfg_ok 19) Tab.none (s' := ?_) ?_ ?_ | refine QC (b := ?_) ?_ ?_); rotate_left 1; focus ((with_reducible refine QW ?_); simp only [Zg, seval, if_true, if_false, reduceCtorEq, Nat.reduceEqDiff, hle, i1]; with_reducible rfl)))
      refine roundK.out () (fun x hx => hlow x (by rw [List.take_of_length_le (by omega)]; exact hx)) ?_
      (repeat' (first | with_reducible refine Qn | ((with_reducible refine Qr ?_ ?_); focus (first | with_reducible rfl | (simp only [Zz, Nat.reduceBEq]; done) | rfl)) | ((with_reducible refine Qj (o' := ?_) ?_ ?_ ?_); rotate_left 1; focus rfl) | ((with_reducible refine Qw ?_ ?_); (focus (first | with_reducible rfl | (simp only [Zv]; done))); focus (first | exact id | exact (fun h => nomatch h) | exact (fun _ => rfl)))))
  · rintro _ hno
    repeat' (first | with_reducible (first | refine Q1 ?_ | refine Q2 ?_ | refine Q3 ?_ | refine Q4 ?_ | refine Q5 ?_ | refine Q6 ?_ | refine Q7 ?_ | refine Q8 ?_ | refine Q9 ?_ | refine Qa ?_ | refine Qb ?_ | refine Qc ?_ | refine Qd ?_ | refine Qe ?_ | refine Qf ?_) | ((with_reducible refine Qo ?_ ?_); focus rfl) | ((with_reducible first | refine QT 9 (l := ?_) ?_ ?_ | refine QF 9 (l := ?_) ?_ ?_); rotate_left 1; focus (simp only [Zu, Nat.reduceSub, Nat.reduceBEq]; with_reducible rfl)) | ((with_reducible first | refine QS (cfg_ok 19) Tab.none (s' := ?_) ?_ ?_ | refine QC (b := ?_) ?_ ?_); rotate_left 1; focus ((with_reducible refine QW ?_); simp only [Zg, seval, if_true, if_false, reduceCtorEq, Nat.reduceEqDiff]; with_reducible rfl)))
    rw [fIdx_none.2 hno]
    (refine Ends.mk (by simp) (rs := ?_) (ks := ?_) hres hrts ?_ ?_ ?_; rotate_left 2; (focus (simp only [Ze, Zg, seval, if_true, if_false, reduceCtorEq, Nat.reduceEqDiff, idxI]; with_reducible rfl)); (focus simp); focus (first | with_reducible rfl | (simp only [Zv, idxI]; done)))
set_option maxHeartbeats 4000000 in
theorem a_DeleteFuncCu {α : Type} (e : α → List D) (d d2 : α → D) (c0 : α → Int) (f : α → List (List Int)) (f2 : α → List Int) (p : α → Bool) (g : FuncId) (he : ∀ x, e x = [d x, d2 x, .int (c0 x)]) (hun : ∀ x, (d x).un = .sl 1 ((f x).map eL)) (hun2 : ∀ x, (d2 x).un = .sl 1 ((f2 x).map eI)) (hp : ∀ x, AFn Try.prog g [[.sl 1 ((f x).map eL), .sl 1 ((f2 x).map eI), .int (c0 x)]] (· = [.val (.bool (p x))])) (xs : List α) (hl : xs.length ≤ 1000000000) :
    AOw Try.prog 53 [] 3 (xs.map e) [[.raw (.func (.func g) #[] #[])]] (· = [.own 3 ((keepF p xs).map e) false]) := by
  have hidx := a_IndexFuncCu e d d2 c0 f f2 p g he hun hun2 hp xs hl
  rcases hfi : fIdx p xs with _ | i0
  · rw [hfi] at hidx
    have hk : keepF p xs = xs := List.filter_eq_self.2 (fun x hx => by rw [fIdx_none.1 hfi x hx]; rfl)
    rw [hk]
    refine AOw.of_runs (cfg_ok 42) Try.func53 rfl rfl rfl (by simp only [List.length_cons, List.length_nil]; decide) ?_
    have hres : Try.f53.results.toList = [.tmp 4] := rfl
    have hrts : Try.f53.resultTypes.toList = [34] := rfl
    simp only [List.length_cons, List.length_nil, List.nil_append, List.cons_append, argRegs, argAV1, eL, eI, eLL, eB, Nat.zero_add, Nat.reduceAdd]
    intro M
    refine RunK.of ?_
    repeat' (first | with_reducible (first | refine Q1 ?_ | refine Q2 ?_ | refine Q3 ?_ | refine Q4 ?_ | refine Q5 ?_ | refine Q6 ?_ | refine Q7 ?_ | refine Q8 ?_ | refine Q9 ?_ | refine Qa ?_ | refine Qb ?_ | refine Qc ?_ | refine Qd ?_ | refine Qe ?_ | refine Qf ?_) | ((with_reducible refine Qo ?_ ?_); focus rfl) | ((with_reducible first | refine QT 8 (l := ?_) ?_ ?_ | refine QF 8 (l := ?_) ?_ ?_); rotate_left 1; focus (simp only [Zu, Nat.reduceSub, Nat.reduceBEq]; with_reducible rfl)) | ((with_reducible first | refine QS (cfg_ok 42) (Tab.none.at' 77 hidx) (s' := ?_) ?_ ?_ | refine QC (b := ?_) ?_ ?_); rotate_left 1; focus ((with_reducible refine QW ?_); simp only [Zg, seval, if_true, if_false, reduceCtorEq, Nat.reduceEqDiff, idxI]; with_reducible rfl)))
    (refine Ends.mk (by simp) (rs := ?_) (ks := ?_) hres hrts ?_ ?_ ?_; rotate_left 2; (focus (simp only [Ze, Zg, seval, if_true, if_false, reduceCtorEq, Nat.reduceEqDiff]; with_reducible rfl)); (focus simp); focus (first | with_reducible rfl | (simp only [Zv]; done)))
  · rw [hfi] at hidx
    obtain ⟨hi0, hpi, hlow⟩ := fIdx_some hfi
    refine AOw.of_runs (cfg_ok 42) Try.func53 rfl rfl rfl (by simp only [List.length_cons, List.length_nil]; decide) ?_
    have hres : Try.f53.results.toList = [.tmp 4] := rfl
    have hrts : Try.f53.resultTypes.toList = [34] := rfl
    simp only [List.length_cons, List.length_nil, List.nil_append, List.cons_append, argRegs, argAV1, eL, eI, eLL, eB, Nat.zero_add, Nat.reduceAdd]
    intro M
    refine RunK.of ?_
    have hne : ((i0 : Int) == -1) = false := beq_eq_false_iff_ne.2 (by omega)
    have hw0 := w64_succ (n := i0) (by omega)
    repeat' (first | with_reducible (first | refine Q1 ?_ | refine Q2 ?_ | refine Q3 ?_ | refine Q4 ?_ | refine Q5 ?_ | refine Q6 ?_ | refine Q7 ?_ | refine Q8 ?_ | refine Q9 ?_ | refine Qa ?_ | refine Qb ?_ | refine Qc ?_ | refine Qd ?_ | refine Qe ?_ | refine Qf ?_) | ((with_reducible refine Qo ?_ ?_); focus rfl) | ((with_reducible first | refine QT 8 (l := ?_) ?_ ?_ | refine QF 8 (l := ?_) ?_ ?_); rotate_left 1; focus (simp only [Zu, Nat.reduceSub, Nat.reduceBEq]; with_reducible rfl)) | ((with_reducible first | refine QS (cfg_ok 42) (Tab.none.at' 77 hidx) (s' := ?_) ?_ ?_ | refine QC (b := ?_) ?_ ?_); rotate_left 1; focus ((with_reducible refine QW ?_); simp only [Zg, seval, if_true, if_false, reduceCtorEq, Nat.reduceEqDiff, idxI, hne, hw0]; with_reducible rfl)))
    refine RunK.loop (β := Nat × List (List D)) (γ := List (List D)) (fun x => ⟨[(0, .c (.own 0 xs.length)), (1, .c (.val (.raw (.func (.func g) #[] #[])))), (5, .c (.val (.int (keepF p (xs.take x.1)).length))), (6, .c (.val (.int x.1)))], [(0, .row 3 x.2 false)]⟩)
      (fun x => x.1 ≤ xs.length ∧ x.2.length = xs.length ∧ (∀ r ∈ x.2, r.length = 3) ∧ x.2.take (keepF p (xs.take x.1)).length = (keepF p (xs.take x.1)).map e ∧ x.2.drop x.1 = (xs.drop x.1).map e) (fun x => xs.length - x.1)
      (fun L => ⟨[(0, .c (.own 0 xs.length)), (5, .c (.val (.int (keepF p xs).length)))], [(0, .row 3 L false)]⟩) (fun L => L.length = xs.length ∧ L.take (keepF p xs).length = (keepF p xs).map e) (i0 + 1, xs.map e) ⟨by omega, by simp, ?_, ?_, by rw [List.map_drop]⟩ ?_ ?_ ?_
    · intro r hr
      obtain ⟨x, _, rfl⟩ := List.mem_map.1 hr
      rw [he]; rfl
    · have h1 : keepF p (xs.take (i0 + 1)) = xs.take i0 := by
        rw [List.take_succ_eq_append_getElem hi0]
        unfold keepF
        rw [List.filter_append, List.filter_eq_self.2 (fun x hx => by rw [hlow x hx]; rfl)]
        simp [hpi]
      show (xs.map e).take (keepF p (xs.take (i0 + 1))).length = (keepF p (xs.take (i0 + 1))).map e
      rw [h1, ← List.map_take, List.length_take, Nat.min_eq_left (Nat.le_of_lt hi0)]
    · have h1 : (keepF p (xs.take (i0 + 1))).length = i0 := by
        rw [List.take_succ_eq_append_getElem hi0]
        unfold keepF
        rw [List.filter_append, List.filter_eq_self.2 (fun x hx => by rw [hlow x hx]; rfl)]
        simp [hpi]; omega
      (repeat' (first | with_reducible refine Qn | ((with_reducible refine Qr ?_ ?_); focus (first | with_reducible rfl | (simp only [Zz, Nat.reduceBEq, h1]; done) | rfl)) | ((with_reducible refine Qj (o' := ?_) ?_ ?_ ?_); rotate_left 1; focus rfl) | ((with_reducible refine Qw ?_ ?_); (focus (first | with_reducible rfl | (simp only [Zv, h1]; done))); focus (first | exact id | exact (fun h => nomatch h) | exact (fun _ => rfl)))))
    · rintro ⟨j, L⟩ ⟨hj, hL, hone, htk, hdr⟩
      have hj : j ≤ xs.length := hj
      have hL : L.length = xs.length := hL
      have htk : L.take (keepF p (xs.take j)).length = (keepF p (xs.take j)).map e := htk
      have hdr : L.drop j = (xs.drop j).map e := hdr
      have hw := w64_succ (n := j) (by omega)
      have hcl : (keepF p (xs.take j)).length ≤ j := by
        have := List.length_filter_le (fun x => !p x) (xs.take j)
        unfold keepF
        rw [List.length_take] at this
        omega
      have hwc := w64_succ (n := (keepF p (xs.take j)).length) (by omega)
      by_cases h : j < xs.length
      · have hx := hp xs[j]
        have hLj : L[j]? = some [d xs[j], d2 xs[j], .int (c0 xs[j])] := by
          have : (L.drop j)[0]? = ((xs.drop j).map e)[0]? := by rw [hdr]
          rw [List.getElem?_drop, List.getElem?_map, List.getElem?_drop] at this
          simpa [h, he] using this
        have i1 : ((j : Int) < (xs.length : Int)) = True := eq_true (by omega)
        have i2 : ((0 : Int) ≤ (j : Int)) = True := eq_true (by omega)
        have hsucc : keepF p (xs.take (j + 1)) = if p xs[j] = true then keepF p (xs.take j) else keepF p (xs.take j) ++ [xs[j]] := by
          rw [List.take_succ_eq_append_getElem h]
          unfold keepF
          rw [List.filter_append]
          by_cases hpx : p xs[j] = true <;> simp [hpx]
        by_cases hpx : p xs[j] = true
        · rw [if_pos hpx] at hsucc
          repeat' (first | with_reducible (first | refine Q1 ?_ | refine Q2 ?_ | refine Q3 ?_ | refine Q4 ?_ | refine Q5 ?_ | refine Q6 ?_ | refine Q7 ?_ | refine Q8 ?_ | refine Q9 ?_ | refine Qa ?_ | refine Qb ?_ | refine Qc ?_ | refine Qd ?_ | refine Qe ?_ | refine Qf ?_) | ((with_reducible refine Qo ?_ ?_); focus rfl) | ((with_reducible first | refine QT 8 (l := ?_) ?_ ?_ | refine QF 8 (l := ?_) ?_ ?_); rotate_left 1; focus (simp only [Zu, Nat.reduceSub, Nat.reduceBEq]; with_reducible rfl)) | ((with_reducible first | refine QS (cfg_ok 42) (Tab.none.at' g hx) (s' := ?_) ?_ ?_ | refine QC (b := ?_) ?_ ?_); rotate_left 1; focus ((with_reducible refine QW ?_); simp only [Zg, seval, if_true, if_false, reduceCtorEq, Nat.reduceEqDiff, hL, i1, i2, hLj, hun, hun2, argV_un (hun _), cellD_un (hun _), argV_un (hun2 _), cellD_un (hun2 _), hpx, hw, eL, Int.toNat_natCast]; with_reducible rfl)))
          refine roundK.on (j + 1, L) ⟨⟨h, hL, hone, ?_, ?_⟩, by show xs.length - (j + 1) < xs.length - j; omega⟩ ?_
          · rw [hsucc]; exact htk
          · show L.drop (j + 1) = (xs.drop (j + 1)).map e
            rw [← List.drop_drop, hdr, ← List.map_drop, List.drop_drop]
          · (repeat' (first | with_reducible refine Qn | ((with_reducible refine Qr ?_ ?_); focus (first | with_reducible rfl | (simp only [Zz, Nat.reduceBEq, hsucc]; done) | rfl)) | ((with_reducible refine Qj (o' := ?_) ?_ ?_ ?_); rotate_left 1; focus rfl) | ((with_reducible refine Qw ?_ ?_); (focus (first | with_reducible rfl | (simp only [Zv, hsucc]; done))); focus (first | exact id | exact (fun h => nomatch h) | exact (fun _ => rfl)))))
        · have hpx' : p xs[j] = false := by simpa using hpx
          rw [if_neg hpx] at hsucc
          obtain ⟨c, hc⟩ : ∃ c, c = (keepF p (xs.take j)).length := ⟨_, rfl⟩
          have hcs : (keepF p (xs.take (j + 1))).length = c + 1 := by rw [hsucc, hc]; simp
          rw [← hc] at hwc hcl htk
          have hcL : c < L.length := by omega
          obtain ⟨y, y2, y3, hy⟩ : ∃ y y2 y3, L[c] = [y, y2, y3] := by
            have := hone L[c] (List.getElem_mem _)
            match L[c], this with
            | [y, y2, y3], _ => exact ⟨y, y2, y3, rfl⟩
          have hLc : L[c]? = some [y, y2, y3] := by rw [List.getElem?_eq_getElem hcL, hy]
          have i3 : ((c : Int) < (xs.length : Int)) = True := eq_true (by omega)
          have i4 : ((0 : Int) ≤ (c : Int)) = True := eq_true (by omega)
          rw [← hc]
          repeat' (first | with_reducible (first | refine Q1 ?_ | refine Q2 ?_ | refine Q3 ?_ | refine Q4 ?_ | refine Q5 ?_ | refine Q6 ?_ | refine Q7 ?_ | refine Q8 ?_ | refine Q9 ?_ | refine Qa ?_ | refine Qb ?_ | refine Qc ?_ | refine Qd ?_ | refine Qe ?_ | refine Qf ?_) | ((with_reducible refine Qo ?_ ?_); focus rfl) | ((with_reducible first | refine QT 8 (l := ?_) ?_ ?_ | refine QF 8 (l := ?_) ?_ ?_); rotate_left 1; focus (simp only [Zu, Nat.reduceSub, Nat.reduceBEq]; with_reducible rfl)) | ((with_reducible first | refine QS (cfg_ok 42) (Tab.none.at' g hx) (s' := ?_) ?_ ?_ | refine QC (b := ?_) ?_ ?_); rotate_left 1; focus ((with_reducible refine QW ?_); simp only [Zg, seval, if_true, if_false, reduceCtorEq, Nat.reduceEqDiff, hL, i1, i2, i3, i4, hLj, hLc, hun, hun2, argV_un (hun _), cellD_un (hun _), argV_un (hun2 _), cellD_un (hun2 _), hpx', hw, hwc, eL, Int.toNat_natCast]; with_reducible rfl)))
          refine roundK.on (j + 1, L.set c [d xs[j], d2 xs[j], .int (c0 xs[j])]) ⟨⟨h, by simpa using hL, ?_, ?_, ?_⟩, by show xs.length - (j + 1) < xs.length - j; omega⟩ ?_
          · intro r hr
            rcases List.mem_or_eq_of_mem_set hr with hr | rfl
            · exact hone r hr
            · rfl
          · show (L.set c [d xs[j], d2 xs[j], .int (c0 xs[j])]).take (keepF p (xs.take (j + 1))).length = (keepF p (xs.take (j + 1))).map e
            rw [hcs, hsucc, List.map_append, List.take_succ_eq_append_getElem (by simpa using hcL), List.take_set_of_le (Nat.le_refl _), htk]
            simp [he]
          · show (L.set c [d xs[j], d2 xs[j], .int (c0 xs[j])]).drop (j + 1) = (xs.drop (j + 1)).map e
            rw [List.drop_set_of_lt (by omega), ← List.drop_drop, hdr, ← List.map_drop, List.drop_drop]
          · (repeat' (first | with_reducible refine Qn | ((with_reducible refine Qr ?_ ?_); focus (first | with_reducible rfl | (simp only [Zz, Nat.reduceBEq, hcs]; done) | rfl)) | ((with_reducible refine Qj (o' := ?_) ?_ ?_ ?_); rotate_left 1; focus rfl) | ((with_reducible refine Qw ?_ ?_); (focus (first | with_reducible rfl | (simp only [Zv, hcs]; done))); focus (first | exact id | exact (fun h => nomatch h) | exact (fun _ => rfl)))))
      · have i1 : ((j : Int) < (xs.length : Int)) = False := eq_false (by omega)
        have hall : xs.take j = xs := List.take_of_length_le (by omega)
        rw [hall] at htk ⊢
        repeat' (first | with_reducible (first | refine Q1 ?_ | refine Q2 ?_ | refine Q3 ?_ | refine Q4 ?_ | refine Q5 ?_ | refine Q6 ?_ | refine Q7 ?_ | refine Q8 ?_ | refine Q9 ?_ | refine Qa ?_ | refine Qb ?_ | refine Qc ?_ | refine Qd ?_ | refine Qe ?_ | refine Qf ?_) | ((with_reducible refine Qo ?_ ?_); focus rfl) | ((with_reducible first | refine QT 8 (l := ?_) ?_ ?_ | refine QF 8 (l := ?_) ?_ ?_); rotate_left 1; focus (simp only [Zu, Nat.reduceSub, Nat.reduceBEq]; with_reducible rfl)) | ((with_reducible first | refine QS (cfg_ok 42) Tab.none (s' := ?_) ?_ ?_ | refine QC (b := ?_) ?_ ?_); rotate_left 1; focus ((with_reducible refine QW ?_); simp only [Zg, seval, if_true, if_false, reduceCtorEq, Nat.reduceEqDiff, hL, i1]; with_reducible rfl)))
        refine roundK.out L ⟨hL, htk⟩ ?_
        (repeat' (first | with_reducible refine Qn | ((with_reducible refine Qr ?_ ?_); focus (first | with_reducible rfl | (simp only [Zz, Nat.reduceBEq]; done) | rfl)) | ((with_reducible refine Qj (o' := ?_) ?_ ?_ ?_); rotate_left 1; focus rfl) | ((with_reducible refine Qw ?_ ?_); (focus (first | with_reducible rfl | (simp only [Zv]; done))); focus (first | exact id | exact (fun h => nomatch h) | exact (fun _ => rfl)))))
    · rintro L ⟨hL, htk⟩
      have hcl : (keepF p xs).length ≤ xs.length := List.length_filter_le _ _
      obtain ⟨c, hc⟩ : ∃ c, c = (keepF p xs).length := ⟨_, rfl⟩
      rw [← hc] at htk hcl ⊢
      have i1 : ((c : Int) ≤ (xs.length : Int)) = True := eq_true (by omega)
      have i2 : ((0 : Int) ≤ (c : Int)) = True := eq_true (by omega)
      have i3 : ((xs.length : Int) ≤ (xs.length : Int)) = True := eq_true (by omega)
      have htn : ((xs.length : Int)).toNat = xs.length := Int.toNat_natCast _
      repeat' (first | with_reducible (first | refine Q1 ?_ | refine Q2 ?_ | refine Q3 ?_ | refine Q4 ?_ | refine Q5 ?_ | refine Q6 ?_ | refine Q7 ?_ | refine Q8 ?_ | refine Q9 ?_ | refine Qa ?_ | refine Qb ?_ | refine Qc ?_ | refine Qd ?_ | refine Qe ?_ | refine Qf ?_) | ((with_reducible refine Qo ?_ ?_); focus rfl) | ((with_reducible first | refine QT 8 (l := ?_) ?_ ?_ | refine QF 8 (l := ?_) ?_ ?_); rotate_left 1; focus (simp only [Zu, Nat.reduceSub, Nat.reduceBEq]; with_reducible rfl)) | ((with_reducible first | refine QS (cfg_ok 42) Tab.none (s' := ?_) ?_ ?_ | refine QC (b := ?_) ?_ ?_); rotate_left 1; focus ((with_reducible refine QW ?_); simp only [Zg, seval, if_true, if_false, reduceCtorEq, Nat.reduceEqDiff]; with_reducible rfl)))
      refine RunK.regCut (cfg_ok 42) Tab.none 3 (s1 := ?_) ?_ ?_
      rotate_left 1
      focus (refine Work.mk ?_; simp only [Zg, seval, if_true, if_false, reduceCtorEq, Nat.reduceEqDiff, hL, i1, i2, i3, Int.toNat_natCast]; with_reducible rfl)
      simp only [List.toList_toArray, List.drop_succ_cons, List.drop_zero]
      refine ROps.clear (cfg_ok 42) (x := .tmp 38) (t := 34) (i := ⟨47, [.sl 1 [], .sl 1 [], .int 0], 56⟩) (key := 0) (j := c) (m := xs.length - c) rfl rfl rfl rfl rfl rfl rfl (by rw [hL]; omega) ?_
      refine ROps.nil ?_
      repeat' (first | with_reducible (first | refine Q1 ?_ | refine Q2 ?_ | refine Q3 ?_ | refine Q4 ?_ | refine Q5 ?_ | refine Q6 ?_ | refine Q7 ?_ | refine Q8 ?_ | refine Q9 ?_ | refine Qa ?_ | refine Qb ?_ | refine Qc ?_ | refine Qd ?_ | refine Qe ?_ | refine Qf ?_) | ((with_reducible refine Qo ?_ ?_); focus rfl) | ((with_reducible first | refine QT 8 (l := ?_) ?_ ?_ | refine QF 8 (l := ?_) ?_ ?_); rotate_left 1; focus (simp only [Zu, Nat.reduceSub, Nat.reduceBEq]; with_reducible rfl)) | ((with_reducible first | refine QS (cfg_ok 42) Tab.none (s' := ?_) ?_ ?_ | refine QC (b := ?_) ?_ ?_); rotate_left 1; focus ((with_reducible refine QW ?_); simp only [Zg, seval, if_true, if_false, reduceCtorEq, Nat.reduceEqDiff]; with_reducible rfl)))
      refine RunK.regCut (cfg_ok 42) Tab.none 2 (s1 := ?_) ?_ ?_
      rotate_left 1
      focus (refine Work.mk ?_; simp only [Zg, seval, if_true, if_false, reduceCtorEq, Nat.reduceEqDiff]; with_reducible rfl)
      simp only [List.toList_toArray, List.drop_succ_cons, List.drop_zero]
      refine ROps.trunc (cfg_ok 42) (x := .tmp 39) (hi := .tmp 40) (t := 34) (i := ⟨47, [.sl 1 [], .sl 1 [], .int 0], 56⟩) (d := 41) (key := 0) (m := xs.length) (n := c) rfl rfl rfl (by decide) rfl rfl rfl rfl (by simp [hL]; omega) (fun q u hq hu => ?_) ?_
      · simp only [look] at hu
        split at hu
        · rename_i e; exact absurd e.symm hq
        · cases hu
      · have ht2 : (L.take c ++ List.replicate (xs.length - c) [D.sl 1 [], D.sl 1 [], D.int 0]).take c = (keepF p xs).map e := by
          rw [List.take_append_of_le_length (by rw [List.length_take]; omega), List.take_take, Nat.min_self, htk]
        rw [ht2]
        refine ROps.opsT (cfg_ok 42) (T := Tab.none) (s' := ?_) ?_ ?_
        rotate_left 1
        focus (simp only [Zg, seval, if_true, if_false, reduceCtorEq, Nat.reduceEqDiff]; with_reducible rfl)
        repeat' (first | with_reducible (first | refine Q1 ?_ | refine Q2 ?_ | refine Q3 ?_ | refine Q4 ?_ | refine Q5 ?_ | refine Q6 ?_ | refine Q7 ?_ | refine Q8 ?_ | refine Q9 ?_ | refine Qa ?_ | refine Qb ?_ | refine Qc ?_ | refine Qd ?_ | refine Qe ?_ | refine Qf ?_) | ((with_reducible refine Qo ?_ ?_); focus rfl) | ((with_reducible first | refine QT 8 (l := ?_) ?_ ?_ | refine QF 8 (l := ?_) ?_ ?_); rotate_left 1; focus (simp only [Zu, Nat.reduceSub, Nat.reduceBEq]; with_reducible rfl)) | ((with_reducible first | refine QS (cfg_ok 42) Tab.none (s' := ?_) ?_ ?_ | refine QC (b := ?_) ?_ ?_); rotate_left 1; focus ((with_reducible refine QW ?_); simp only [Zg, seval, if_true, if_false, reduceCtorEq, Nat.reduceEqDiff]; with_reducible rfl)))
        (refine Ends.mk (by simp) (rs := ?_) (ks := ?_) hres hrts ?_ ?_ ?_; rotate_left 2; (focus (simp only [Ze, Zg, seval, if_true, if_false, reduceCtorEq, Nat.reduceEqDiff]; with_reducible rfl)); (focus simp); focus (first | with_reducible rfl | (simp only [Zv]; done)))
end Go.Proofs.Ytkdkikmhlhcndaa
namespace Go.Proofs.Ytkdkikmhlhcndaa
open Go.RowKit
def RetOC {α : Type} (R : Rep α) (w : World) (x : α) (code : Int) : Ending → World → Prop :=
  fun e w' => ∃ u, e = .returned (.tuple #[u, .int .i64 code]) ∧ Own R w.heap.size w'.heap.size w' [u] x ∧ Below w.heap.size w w'
end Go.Proofs.Ytkdkikmhlhcndaa
namespace Go.Proofs.Ytkdkikmhlhcndaa
open Go.RowKit
def notOne (c : Cu) : Bool := decide (c.1.1.length ≠ 1) || decide (c.1.2.length = 0)
def cbOf (t : List Int) : List Cu × Int := if lev8 t = true then ((cutsL t).filter (fun c => !notOne c), 0) else ([], 1)
theorem cuts_good {t : List Int} (h : LevP t) (hl : t.length ≤ 8) : (cutsL t).length ≤ 256 ∧ ∀ x ∈ cutsL t, (1 ≤ x.2 ∧ x.2 ≤ 256) ∧ sumLen x.1.1 ≤ 8 ∧ x.1.2.length ≤ 8 := by
  have h0 := (gathS_is (split t)).len
  rw [List.length_map] at h0
  have h1 := split_len _ (Nat.le_refl _) h
  have h2 : 2 ^ t.length ≤ 2 ^ 8 := Nat.pow_le_pow_right (by decide) hl
  refine ⟨by unfold cutsL; rw [List.length_map]; omega, fun x hx => ?_⟩
  obtain ⟨z, hz, rfl⟩ := List.mem_map.1 hx
  obtain ⟨g1, g2, g3⟩ := gath_good (split_good _ (Nat.le_refl _) h) z hz
  have hone := gath_trunk t h z hz
  have hsum := g3.2
  refine ⟨⟨g1, by show z.2 ≤ 256; omega⟩, by show sumLen z.1.1 ≤ 8; omega, ?_⟩
  obtain ⟨⟨f, g⟩, n⟩ := z
  match g, hone with
  | [], _ => exact Nat.zero_le _
  | [tr], _ =>
    have h5 : sumLen [tr] = tr.length + 0 := rfl
    have hsum : sumLen f + sumLen [tr] = t.length := hsum
    show tr.length ≤ 8; omega
theorem cnt_K_le : ∀ (L : List Cu), (∀ x ∈ L, sumLen x.1.1 ≤ 8 ∧ x.1.2.length ≤ 8) → cnt_K L ≤ 17 * L.length
  | [], _ => by simp [cnt_K]
  | c :: L, h => by
    have h1 := h c (by simp)
    have h2 := cnt_K_le L (fun x hx => h x (by simp [hx]))
    unfold cnt_K cnt_II cnt_I
    rw [List.length_cons, Nat.mul_succ]; omega
theorem cbOf_cnt (t : List Int) : cnt_K (cbOf t).1 ≤ 1048576 := by
  unfold cbOf
  split
  · rename_i h
    obtain ⟨h1, h2⟩ := cuts_good (lev8_lev h) (lev8_len h)
    have h3 := cnt_K_le ((cutsL t).filter (fun c => !notOne c)) (fun x hx => (h2 x (List.mem_filter.1 hx).1).2)
    have h4 := List.length_filter_le (fun c => !notOne c) (cutsL t)
    show cnt_K ((cutsL t).filter _) ≤ _; omega
  · simp [cnt_K]
end Go.Proofs.Ytkdkikmhlhcndaa
