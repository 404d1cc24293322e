/- Lemmas (8). -/
import Derived.Test.YtkdkikmhlhcndaaGreatZD0
import Derived.Test.YtkdkikmhlhcndaaGreatZD1
import Derived.Test.YtkdkikmhlhcndaaGreatZD7
set_option linter.unusedSimpArgs false
set_option linter.unusedVariables false
namespace Go.Proofs.YtkdkikmhlhcndaaGreat
open Go.RowKit
theorem lexC_step {α : Type} {c : α → α → Int} {f g : List α} {k : Nat} (h1 : k < f.length) (h2 : k < g.length) : lexC c (f.drop k) (g.drop k) = if c f[k] g[k] = 0 then lexC c (f.drop (k + 1)) (g.drop (k + 1)) else c f[k] g[k] := by
  rw [List.drop_eq_getElem_cons h1, List.drop_eq_getElem_cons h2]; rfl
theorem lexC_endL {α : Type} {c : α → α → Int} {f g : List α} {k : Nat} (h1 : ¬ k < f.length) (h2 : k < g.length) : lexC c (f.drop k) (g.drop k) = -1 := by
  rw [List.drop_eq_nil_of_le (Nat.not_lt.1 h1), List.drop_eq_getElem_cons h2]; rfl
theorem lexC_endR {α : Type} {c : α → α → Int} {f g : List α} {k : Nat} (h1 : k < f.length) (h2 : ¬ k < g.length) : lexC c (f.drop k) (g.drop k) = 1 := by
  rw [List.drop_eq_getElem_cons h1, List.drop_eq_nil_of_le (Nat.not_lt.1 h2)]; rfl
theorem lexC_end0 {α : Type} {c : α → α → Int} {f g : List α} {k : Nat} (h1 : ¬ k < f.length) (h2 : ¬ k < g.length) : lexC c (f.drop k) (g.drop k) = 0 := by
  rw [List.drop_eq_nil_of_le (Nat.not_lt.1 h1), List.drop_eq_nil_of_le (Nat.not_lt.1 h2)]; rfl
set_option maxRecDepth 100000 in
set_option maxHeartbeats 2000000 in
theorem c_CompareFunc (v1 v2 : Value) (f g : List (List Int)) (w : World) (h1 : Rd (RS (RS RI)) w [v1] f) (h2 : Rd (RS (RS RI)) w [v2] g) :
    Calls Tryz.prog 107 #[v1, v2, .func (.func 76) #[] #[]] w (RetS w (.int .i64 (lexC cmpT f g))) := by
  obtain ⟨oa, ca, L1⟩ := h1.lists
  obtain ⟨ob, cb, L2⟩ := h2.lists
  obtain rfl := L1.val
  obtain rfl := L2.val
  have m1 := L1.le; have m2 := L1.capLe; have m3 := L2.le; have m4 := L2.capLe
  unfold maxLen at m2 m4
  have HL1 := Lib.hid L1
  have HL2 := Lib.hid L2
  clear L1 L2 h1 h2
  go_enter Tryz.func107, Tryz.ntmps107
  go_wp2_with fail
  go_loop [13] (fun i => ∃ k : Nat, k ≤ f.length ∧ k ≤ g.length ∧ i = .int .i64 k ∧ lexC cmpT f g = lexC cmpT (f.drop k) (g.drop k)) (fun i => f.length - (intOf i).toNat)
  case atStart => exact ⟨0, Nat.zero_le _, Nat.zero_le _, rfl, by simp⟩
  case round =>
    obtain ⟨k, hk, hk2, rfl, he⟩ := hrel
    have He := Lib.hid he
    clear he
    by_cases hlt : k < f.length
    · obtain ⟨b1, o1, rfl, hb1, hc1⟩ := HL1.out.get hlt
      obtain ⟨oi, ci, g1, hrd1, q1, q2⟩ := hc1 k hlt
      clear hc1
      by_cases hlt2 : k < g.length
      · obtain ⟨b2, o2, rfl, hb2, hc2⟩ := HL2.out.get hlt2
        obtain ⟨oj, cj, g2, hrd2, q3, q4⟩ := hc2 k hlt2
        clear hc2
        have hs := lexC_step (c := cmpT) hlt hlt2
        by_cases h0 : cmpT f[k] g[k] = 0
        · rw [if_pos h0] at hs
          have hcall := c_impl_compareTrees _ _ _ _ w hrd1 hrd2
          rw [h0] at hcall
          have HC := Lib.hid hcall
          have Hs := Lib.hid hs
          obtain ⟨x1, hx1⟩ : ∃ x, x = f[k].length := ⟨_, rfl⟩
          obtain ⟨x2, hx2⟩ : ∃ x, x = g[k].length := ⟨_, rfl⟩
          rw [← hx1] at g1 q1 HC
          rw [← hx2] at g2 q3 HC
          clear hs h0 hcall hrd1 hrd2 hx1 hx2
          go_wp2_with (go_at_call 76; refine HC.out.mono ?_; rintro e w' ⟨rfl, rfl⟩)
          go_round
          case rel => exact ⟨k + 1, by omega, by omega, by go_num, by rw [He.out, Hs.out]⟩
          case measure => simp [intOf]; omega
        · rw [if_neg h0] at hs
          have hcall := c_impl_compareTrees _ _ _ _ w hrd1 hrd2
          have hb : (cmpT f[k] g[k] != 0) = true := by simp [h0]
          obtain ⟨z, hz⟩ : ∃ z, z = cmpT f[k] g[k] := ⟨_, rfl⟩
          rw [← hz] at hcall hb hs
          have HC := Lib.hid hcall
          have Hs := Lib.hid hs
          obtain ⟨x1, hx1⟩ : ∃ x, x = f[k].length := ⟨_, rfl⟩
          obtain ⟨x2, hx2⟩ : ∃ x, x = g[k].length := ⟨_, rfl⟩
          rw [← hx1] at g1 q1 HC
          rw [← hx2] at g2 q3 HC
          clear hs h0 hcall hrd1 hrd2 hx1 hx2 hz
          go_wp2_with (go_at_call 76; refine HC.out.mono ?_; rintro e w' ⟨rfl, rfl⟩)
          go_ret
          exact ⟨by (rw [He.out, Hs.out] <;> rfl), rfl⟩
      · have HE := Lib.hid (lexC_endR (c := cmpT) hlt hlt2)
        go_wp2_with fail
        go_ret
        exact ⟨by (rw [He.out, HE.out] <;> rfl), rfl⟩
    · by_cases hlt2 : k < g.length
      · have HE := Lib.hid (lexC_endL (c := cmpT) hlt hlt2)
        go_wp2_with fail
        go_ret
        exact ⟨by (rw [He.out, HE.out] <;> rfl), rfl⟩
      · have HE := Lib.hid (lexC_end0 (c := cmpT) hlt hlt2)
        go_wp2_with fail
        go_ret
        exact ⟨by (rw [He.out, HE.out] <;> rfl), rfl⟩
set_option maxRecDepth 100000 in
set_option maxHeartbeats 400000 in
theorem c_compareTrunks (v1 v2 : Value) (f g : List (List Int)) (w : World) (h1 : Rd (RS (RS RI)) w [v1] f) (h2 : Rd (RS (RS RI)) w [v2] g) :
    Calls Tryz.prog 78 #[v1, v2] w (RetS w (.int .i64 (cmpN f g))) := by
  obtain ⟨oa, c1, e1, m1, m2⟩ := h1.val
  obtain ⟨ob, c2, e2, m3, m4⟩ := h2.val
  subst e1; subst e2
  unfold maxLen at m2 m4
  rw [cmpN_eq]
  by_cases hl : f.length = g.length
  · have hlb : ((f.length : Int) != (g.length : Int)) = false := by simp [hl]
    have hcall := c_CompareFunc _ _ _ _ w h1 h2
    rw [if_pos (by rw [hl])]
    have HC := Lib.hid hcall
    clear hl hcall h1 h2
    go_enter Tryz.func78, Tryz.ntmps78
    go_wp2_with (go_at_call 107; refine HC.out.mono ?_; rintro e w' ⟨rfl, rfl⟩)
    go_ret
    exact ⟨rfl, rfl⟩
  · have hlb : ((f.length : Int) != (g.length : Int)) = true := by simp; omega
    have hw : IntKind.i64.wrap ((f.length : Int) - (g.length : Int)) = (f.length : Int) - (g.length : Int) := IntWalk.i64_in _ (by omega)
    rw [if_neg (by omega)]
    clear h1 h2
    go_enter Tryz.func78, Tryz.ntmps78
    go_wp2_with fail
    go_ret
    exact ⟨rfl, rfl⟩
set_option maxRecDepth 100000 in
set_option maxHeartbeats 400000 in
theorem c_compareForests (v1 v2 : Value) (f g : List (List Int)) (w : World) (h1 : Rd (RS (RS RI)) w [v1] f) (h2 : Rd (RS (RS RI)) w [v2] g) (hf : sumLen f ≤ 1000000000000000000) (hg : sumLen g ≤ 1000000000000000000) :
    Calls Tryz.prog 61 #[v1, v2] w (RetS w (.int .i64 (cmpF f g))) := by
  have hn1 := c_impl_nodesIn _ _ w h1
  have hn2 := c_impl_nodesIn _ _ w h2
  rw [nodesB_eq f hf] at hn1
  rw [nodesB_eq g hg] at hn2
  have ht := c_compareTrunks _ _ _ _ w h1 h2
  rw [cmpF_N]
  obtain ⟨p, hp⟩ : ∃ p, p = sumLen f := ⟨_, rfl⟩
  obtain ⟨q, hq⟩ : ∃ q, q = sumLen g := ⟨_, rfl⟩
  rw [← hp] at hf hn1 ⊢
  rw [← hq] at hg hn2 ⊢
  have hw : IntKind.i64.wrap ((p : Int) - (q : Int)) = (p : Int) - (q : Int) := IntWalk.i64_in _ (by omega)
  obtain ⟨Rl, hR⟩ : ∃ R : Value → Int → Prop, ∀ v n, R v n ↔ Calls Tryz.prog 74 #[v] w (RetS w (.int .i64 n)) := ⟨_, fun _ _ => Iff.rfl⟩
  have r1 : Rl v1 p := (hR _ _).2 hn1
  have r2 : Rl v2 q := (hR _ _).2 hn2
  have HN : Hid (∀ v n, Rl v n → Calls Tryz.prog 74 #[v] w (RetS w (.int .i64 n))) := Lib.hid (fun v n => (hR v n).1)
  have H3 := Lib.hid ht
  clear hp hq h1 h2 hn1 hn2 ht hR
  by_cases hl : (p : Int) = q
  · have hlb : (((p : Int) - (q : Int)) != 0) = false := by rw [hl]; simp
    rw [if_pos hl]
    clear hl
    go_enter Tryz.func61, Tryz.ntmps61
    go_wp2_with (first | (go_at_call 74; refine (HN.out _ _ (by assumption)).mono ?_; rintro e w' ⟨rfl, rfl⟩) | (go_at_call 78; refine H3.out.mono ?_; rintro e w' ⟨rfl, rfl⟩))
    go_ret
    exact ⟨rfl, rfl⟩
  · have hlb : (((p : Int) - (q : Int)) != 0) = true := by simp; omega
    rw [if_neg hl]
    clear hl
    go_enter Tryz.func61, Tryz.ntmps61
    go_wp2_with (go_at_call 74; refine (HN.out _ _ (by assumption)).mono ?_; rintro e w' ⟨rfl, rfl⟩)
    go_ret
    exact ⟨rfl, rfl⟩
theorem lexC_in64 : ∀ (f g : List (List Int)), (∀ t ∈ f, t.length ≤ maxLen) → (∀ t ∈ g, t.length ≤ maxLen) → In64 (lexC cmpT f g) := by
  intro f
  induction f with
  | nil => intro g _ _; cases g <;> (unfold lexC In64; omega)
  | cons x xs ih => intro g h3 h4; cases g with
    | nil => unfold lexC In64; omega
    | cons y bs =>
      unfold lexC
      split
      · exact ih bs (fun t ht => h3 t (by simp [ht])) (fun t ht => h4 t (by simp [ht]))
      · exact cmpT_in64 (h3 x (by simp)) (h4 y (by simp))
theorem cmpF_in64 {f g : List (List Int)} (hf : sumLen f ≤ 1000000000000000000) (hg : sumLen g ≤ 1000000000000000000) (h1 : f.length ≤ maxLen) (h2 : g.length ≤ maxLen) (h3 : ∀ t ∈ f, t.length ≤ maxLen) (h4 : ∀ t ∈ g, t.length ≤ maxLen) : In64 (cmpF f g) := by
  rw [cmpF_N, cmpN_eq]
  unfold maxLen at h1 h2
  split
  · split
    · exact lexC_in64 f g h3 h4
    · unfold In64; omega
  · unfold In64; omega
end Go.Proofs.YtkdkikmhlhcndaaGreat
namespace Go.Proofs.YtkdkikmhlhcndaaGreat
def canT (t : List Int) : Bool := lev8 t && decide (canon t = t)
def okT (f : List (List Int)) (i : Nat) : Bool := canT (f.getD i []) && (decide (i = 0) || decide (cmpT (f.getD (i - 1) []) (f.getD i []) ≤ 0))
def forB (f : List (List Int)) : Bool := decide (sumLen f ≤ 8) && (List.range f.length).all (okT f)
theorem all_range {n : Nat} {p : Nat → Bool} : (List.range n).all p = true ↔ ∀ i < n, p i = true := by
  rw [List.all_eq_true]
  exact ⟨fun h i hi => h i (List.mem_range.2 hi), fun h i hi => h i (List.mem_range.1 hi)⟩
theorem all_range_no {n i : Nat} {p : Nat → Bool} (hi : i < n) (h : p i = false) : (List.range n).all p = false := by
  rcases hq : (List.range n).all p with _ | _
  · rfl
  · rw [all_range.1 hq i hi] at h; cases h
theorem adj_pairwise {α : Type} {r : α → α → Prop} (ht : ∀ a b d, r a b → r b d → r a d) : ∀ {l : List α}, (∀ i (h : i + 1 < l.length), r l[i] l[i + 1]) → l.Pairwise r
  | [], _ => List.Pairwise.nil
  | [a], _ => List.pairwise_singleton _ _
  | a :: b :: l, h => by
    have ih := adj_pairwise ht (l := b :: l) (fun i hi => h (i + 1) (by simp at hi ⊢; omega))
    refine List.pairwise_cons.2 ⟨fun x hx => ?_, ih⟩
    have h0 : r a b := h 0 (by simp)
    rcases List.mem_cons.1 hx with rfl | hx
    · exact h0
    · exact ht a b x h0 ((List.pairwise_cons.1 ih).1 x hx)
theorem getD_at {α : Type} {l : List α} {d : α} {i : Nat} (h : i < l.length) : l.getD i d = l[i] := by
  rw [List.getD_eq_getElem?_getD, List.getElem?_eq_getElem h]; rfl
theorem forB_spec {f : List (List Int)} (h : forB f = true) : sumLen f ≤ 8 ∧ (∀ t ∈ f, canT t = true) ∧ f.Pairwise fun a b => cmpT a b ≤ 0 := by
  unfold forB at h
  rw [Bool.and_eq_true, all_range] at h
  refine ⟨of_decide_eq_true h.1, fun t ht => ?_, adj_pairwise (fun a b d => cmpT_cmp.trans a b d) (fun i hi => ?_)⟩
  · obtain ⟨i, hi, rfl⟩ := List.getElem_of_mem ht
    have := h.2 i hi
    unfold okT at this
    rw [Bool.and_eq_true, getD_at hi] at this
    exact this.1
  · have := h.2 (i + 1) hi
    unfold okT at this
    rw [Bool.and_eq_true, Bool.or_eq_true, getD_at hi, Nat.add_sub_cancel, getD_at (show i < f.length by omega)] at this
    rcases this.2 with h1 | h1
    · have := of_decide_eq_true h1; omega
    · exact of_decide_eq_true h1
end Go.Proofs.YtkdkikmhlhcndaaGreat
namespace Go.Proofs.YtkdkikmhlhcndaaGreat
open Go.RowKit
theorem forB_lev {f : List (List Int)} (h : forB f = true) : ∀ b ∈ f, LevP b := fun b hb => by
  have := (forB_spec h).2.1 b hb
  unfold canT at this
  rw [Bool.and_eq_true] at this
  exact lev8_lev this.1
theorem forB_can {f : List (List Int)} (h : forB f = true) : ∀ b ∈ f, canon b = b := fun b hb => by
  have := (forB_spec h).2.1 b hb
  unfold canT at this
  rw [Bool.and_eq_true] at this
  exact of_decide_eq_true this.2
end Go.Proofs.YtkdkikmhlhcndaaGreat
namespace Go.Proofs.YtkdkikmhlhcndaaGreat
open Go.RowKit
theorem a_impl_IsTree (t : List Int) : AFn Tryz.prog 75 [eL t] (· = [.val (.bool (canT t))]) := by
  have h1 := a_impl_IsLevels t
  unfold canT
  cases h8 : lev8 t
  · rw [h8] at h1
    rw [Bool.false_and]
    refine AFn.of_runs (cfg_ok 11) Tryz.func75 rfl rfl rfl (by simp only [List.length_cons, List.length_nil]; decide) ?_
    have hres : Tryz.f75.results.toList = [.tmp 2] := rfl
    have hrts : Tryz.f75.resultTypes.toList = [4] := rfl
    simp only [argRegs, argAV1, eL, eI, eLL, eB, Nat.zero_add, Nat.reduceAdd]
    intro M
    refine RunK.of ?_
    repeat' (first | with_reducible (first | refine Q1 ?_ | refine Q2 ?_ | refine Q3 ?_ | refine Q4 ?_ | refine Q5 ?_ | refine Q6 ?_ | refine Q7 ?_ | refine Q8 ?_ | refine Q9 ?_ | refine Qa ?_ | refine Qb ?_ | refine Qc ?_ | refine Qd ?_ | refine Qe ?_ | refine Qf ?_) | ((with_reducible refine Qo ?_ ?_); focus rfl) | ((with_reducible first | refine QT 3 (l := ?_) ?_ ?_ | refine QF 3 (l := ?_) ?_ ?_); rotate_left 1; focus (simp only [Zu, Nat.reduceSub, Nat.reduceBEq]; with_reducible rfl)) | ((with_reducible first | refine QS (cfg_ok 11) (Tab.none.at' 47 h1) (s' := ?_) ?_ ?_ | refine QC (b := ?_) ?_ ?_); rotate_left 1; focus ((with_reducible refine QW ?_); simp only [Zg, seval, if_true, if_false, reduceCtorEq, Nat.reduceEqDiff, eL]; with_reducible rfl)))
    (refine Ends.mk (by simp) (rs := ?_) (ks := ?_) hres hrts ?_ ?_ ?_; rotate_left 2; (focus (simp only [Ze, Zg, seval, if_true, if_false, reduceCtorEq, Nat.reduceEqDiff]; with_reducible rfl)); (focus simp); focus (first | with_reducible rfl | (simp only [Zv]; done)))
  · rw [h8] at h1
    rw [Bool.true_and]
    have h2 := a_canonical t (lev8_lev h8) (lev8_len h8)
    have h3 := a_slicesEqual (canon t) t
    refine AFn.of_runs (cfg_ok 11) Tryz.func75 rfl rfl rfl (by simp only [List.length_cons, List.length_nil]; decide) ?_
    have hres : Tryz.f75.results.toList = [.tmp 2] := rfl
    have hrts : Tryz.f75.resultTypes.toList = [4] := rfl
    simp only [argRegs, argAV1, eL, eI, eLL, eB, Nat.zero_add, Nat.reduceAdd]
    intro M
    refine RunK.of ?_
    repeat' (first | with_reducible (first | refine Q1 ?_ | refine Q2 ?_ | refine Q3 ?_ | refine Q4 ?_ | refine Q5 ?_ | refine Q6 ?_ | refine Q7 ?_ | refine Q8 ?_ | refine Q9 ?_ | refine Qa ?_ | refine Qb ?_ | refine Qc ?_ | refine Qd ?_ | refine Qe ?_ | refine Qf ?_) | ((with_reducible refine Qo ?_ ?_); focus rfl) | ((with_reducible first | refine QT 3 (l := ?_) ?_ ?_ | refine QF 3 (l := ?_) ?_ ?_); rotate_left 1; focus (simp only [Zu, Nat.reduceSub, Nat.reduceBEq]; with_reducible rfl)) | ((with_reducible first | refine QS (cfg_ok 11) (((Tab.none.at' 47 h1).at' 55 h2).at' 62 h3) (s' := ?_) ?_ ?_ | refine QC (b := ?_) ?_ ?_); rotate_left 1; focus ((with_reducible refine QW ?_); simp only [Zg, seval, if_true, if_false, reduceCtorEq, Nat.reduceEqDiff, eL]; with_reducible rfl)))
    (refine Ends.mk (by simp) (rs := ?_) (ks := ?_) hres hrts ?_ ?_ ?_; rotate_left 2; (focus (simp only [Ze, Zg, seval, if_true, if_false, reduceCtorEq, Nat.reduceEqDiff]; with_reducible rfl)); (focus simp); focus (first | with_reducible rfl | (simp only [Zv]; done)))
theorem a_spec_IsTree (t : List Int) (hsz : t.length ≤ 1048576) : AFn Tryz.prog 68 [eL t] (· = [.val (.bool (canT t))]) := by
  have h1 := a_spec_l03Is t hsz
  unfold canT
  cases h8 : lev8 t
  · rw [h8] at h1
    rw [Bool.false_and]
    refine AFn.of_runs (cfg_ok 11) Tryz.func68 rfl rfl rfl (by simp only [List.length_cons, List.length_nil]; decide) ?_
    have hres : Tryz.f68.results.toList = [.tmp 2] := rfl
    have hrts : Tryz.f68.resultTypes.toList = [4] := rfl
    simp only [argRegs, argAV1, eL, eI, eLL, eB, Nat.zero_add, Nat.reduceAdd]
    intro M
    refine RunK.of ?_
    repeat' (first | with_reducible (first | refine Q1 ?_ | refine Q2 ?_ | refine Q3 ?_ | refine Q4 ?_ | refine Q5 ?_ | refine Q6 ?_ | refine Q7 ?_ | refine Q8 ?_ | refine Q9 ?_ | refine Qa ?_ | refine Qb ?_ | refine Qc ?_ | refine Qd ?_ | refine Qe ?_ | refine Qf ?_) | ((with_reducible refine Qo ?_ ?_); focus rfl) | ((with_reducible first | refine QT 3 (l := ?_) ?_ ?_ | refine QF 3 (l := ?_) ?_ ?_); rotate_left 1; focus (simp only [Zu, Nat.reduceSub, Nat.reduceBEq]; with_reducible rfl)) | ((with_reducible first | refine QS (cfg_ok 11) (Tab.none.at' 49 h1) (s' := ?_) ?_ ?_ | refine QC (b := ?_) ?_ ?_); rotate_left 1; focus ((with_reducible refine QW ?_); simp only [Zg, seval, if_true, if_false, reduceCtorEq, Nat.reduceEqDiff, eL]; with_reducible rfl)))
    (refine Ends.mk (by simp) (rs := ?_) (ks := ?_) hres hrts ?_ ?_ ?_; rotate_left 2; (focus (simp only [Ze, Zg, seval, if_true, if_false, reduceCtorEq, Nat.reduceEqDiff]; with_reducible rfl)); (focus simp); focus (first | with_reducible rfl | (simp only [Zv]; done)))
  · rw [h8] at h1
    rw [Bool.true_and]
    have h2 := a_l03Canon t (lev8_lev h8) (lev8_len h8)
    have h3 := a_l01Same (canon t) t
    refine AFn.of_runs (cfg_ok 11) Tryz.func68 rfl rfl rfl (by simp only [List.length_cons, List.length_nil]; decide) ?_
    have hres : Tryz.f68.results.toList = [.tmp 2] := rfl
    have hrts : Tryz.f68.resultTypes.toList = [4] := rfl
    simp only [argRegs, argAV1, eL, eI, eLL, eB, Nat.zero_add, Nat.reduceAdd]
    intro M
    refine RunK.of ?_
    repeat' (first | with_reducible (first | refine Q1 ?_ | refine Q2 ?_ | refine Q3 ?_ | refine Q4 ?_ | refine Q5 ?_ | refine Q6 ?_ | refine Q7 ?_ | refine Q8 ?_ | refine Q9 ?_ | refine Qa ?_ | refine Qb ?_ | refine Qc ?_ | refine Qd ?_ | refine Qe ?_ | refine Qf ?_) | ((with_reducible refine Qo ?_ ?_); focus rfl) | ((with_reducible first | refine QT 3 (l := ?_) ?_ ?_ | refine QF 3 (l := ?_) ?_ ?_); rotate_left 1; focus (simp only [Zu, Nat.reduceSub, Nat.reduceBEq]; with_reducible rfl)) | ((with_reducible first | refine QS (cfg_ok 11) (((Tab.none.at' 49 h1).at' 51 h2).at' 102 h3) (s' := ?_) ?_ ?_ | refine QC (b := ?_) ?_ ?_); rotate_left 1; focus ((with_reducible refine QW ?_); simp only [Zg, seval, if_true, if_false, reduceCtorEq, Nat.reduceEqDiff, eL]; with_reducible rfl)))
    (refine Ends.mk (by simp) (rs := ?_) (ks := ?_) hres hrts ?_ ?_ ?_; rotate_left 2; (focus (simp only [Ze, Zg, seval, if_true, if_false, reduceCtorEq, Nat.reduceEqDiff]; with_reducible rfl)); (focus simp); focus (first | with_reducible rfl | (simp only [Zv]; done)))
noncomputable def TFor : Tab Tryz.prog :=
  ((Tab.none.add 75 (tab1 codL fun t => some [.val (.bool (canT t))]) (tab1_ok fun t rs h => by cases h; exact a_impl_IsTree t)).add
    76 (tab2 codL codL fun xs ys => some [.val (.int (cmpT xs ys))]) (tab2_ok fun xs ys rs h => by cases h; exact a_compareTrees xs ys)).add
    74 (tab1 codLL fun f => some [.val (.int (nodesB f))]) (tab1_ok fun f rs h => by cases h; exact a_nodesIn f)
noncomputable def TForS : Tab Tryz.prog :=
  ((Tab.none.add 68 (tab1 codL fun t => if t.length ≤ 1048576 then some [.val (.bool (canT t))] else none) (tab1_ok fun t rs h => by split at h; cases h; exact a_spec_IsTree t ‹_›; cases h)).add
    69 (tab2 codL codL fun xs ys => some [.val (.bool (decide (cmpT xs ys < 0)))]) (tab2_ok fun xs ys rs h => by cases h; exact a_l03Before xs ys)).add
    70 (tab1 codLL fun f => some [.val (.int (nodesB f))]) (tab1_ok fun f rs h => by cases h; exact a_l03Nodes f)
theorem all_range_succ {n : Nat} {p : Nat → Bool} (h : (List.range n).all p = true) (h2 : p n = true) : (List.range (n + 1)).all p = true :=
  all_range.2 (fun i hi => by
    by_cases e : i = n
    · rw [e]; exact h2
    · exact all_range.1 h i (by omega))
set_option maxHeartbeats 4000000 in
theorem a_impl_IsForest (f : List (List Int)) (hsz : sumLen f ≤ 1000000000) (hln : f.length ≤ 1000000000) : AFn Tryz.prog 38 [eLL f] (· = [.val (.bool (forB f))]) := by
  have hn : nodesB f = sumLen f := nodesB_eq f (by omega)
  refine AFn.of_runs (cfg_ok 33) Tryz.func38 rfl rfl rfl (by simp only [List.length_cons, List.length_nil]; decide) ?_
  have hres : Tryz.f38.results.toList = [.tmp 2] := rfl
  have hrts : Tryz.f38.resultTypes.toList = [4] := rfl
  simp only [argRegs, argAV1, eL, eI, eLL, eB, Nat.zero_add, Nat.reduceAdd]
  intro M
  refine RunK.of ?_
  by_cases h8 : sumLen f ≤ 8
  · have i8 : ((sumLen f : Int) > 8) = False := eq_false (by omega)
    repeat' (first | with_reducible (first | refine Q1 ?_ | refine Q2 ?_ | refine Q3 ?_ | refine Q4 ?_ | refine Q5 ?_ | refine Q6 ?_ | refine Q7 ?_ | refine Q8 ?_ | refine Q9 ?_ | refine Qa ?_ | refine Qb ?_ | refine Qc ?_ | refine Qd ?_ | refine Qe ?_ | refine Qf ?_) | ((with_reducible refine Qo ?_ ?_); focus rfl) | ((with_reducible first | refine QT 11 (l := ?_) ?_ ?_ | refine QF 11 (l := ?_) ?_ ?_); rotate_left 1; focus (simp only [Zu, Nat.reduceSub, Nat.reduceBEq]; with_reducible rfl)) | ((with_reducible first | refine QS (cfg_ok 33) TFor (s' := ?_) ?_ ?_ | refine QC (b := ?_) ?_ ?_); rotate_left 1; focus ((with_reducible refine QW ?_); simp only [Zg, seval, if_true, if_false, reduceCtorEq, Nat.reduceEqDiff, TFor, hn, i8, eL]; with_reducible rfl)))
    refine RunK.loop (β := Nat) (γ := Unit) (fun i => ⟨[(0, .c (.val (.sl 1 (f.map eL)))), (8, .c (.val (.sl 1 (f.map eL)))), (9, .c (.val (.int f.length))), (10, .c (.val (.int i)))], []⟩) (fun i => i ≤ f.length ∧ (List.range i).all (okT f) = true) (fun i => f.length - i)
      (fun _ => ⟨[], []⟩) (fun _ => (List.range f.length).all (okT f) = true) 0 ⟨Nat.zero_le _, rfl⟩ ?_ ?_ ?_
    · (repeat' (first | with_reducible refine Qn | ((with_reducible refine Qr ?_ ?_); focus (first | with_reducible rfl | (simp only [Zz, Nat.reduceBEq]; done) | rfl)) | ((with_reducible refine Qj (o' := ?_) ?_ ?_ ?_); rotate_left 1; focus rfl) | ((with_reducible refine Qw ?_ ?_); (focus (first | with_reducible rfl | (simp only [Zv]; done))); focus (first | exact id | exact (fun h => nomatch h) | exact (fun _ => rfl)))))
    · rintro i ⟨hi, hall⟩
      have hw := w64_succ (n := i) (by omega)
      by_cases h : i < f.length
      · have i1 : ((i : Int) < (f.length : Int)) = True := eq_true (by omega)
        have i2 : ((0 : Int) ≤ (i : Int)) = True := eq_true (by omega)
        obtain ⟨t, ht⟩ : ∃ t, t = f[i] := ⟨_, rfl⟩
        have hg : (f.map eL)[i]? = some [.sl 1 (t.map eI)] := by rw [map_get h, ht]; rfl
        have hgd : f.getD i [] = t := by rw [getD_at h, ht]
        by_cases hc : canT t = true
        · by_cases h0 : i = 0
          · have j1 : ((i : Int) > 0) = False := eq_false (by omega)
            have hok : okT f i = true := by unfold okT; rw [hgd, hc, h0]; rfl
            repeat' (first | with_reducible (first | refine Q1 ?_ | refine Q2 ?_ | refine Q3 ?_ | refine Q4 ?_ | refine Q5 ?_ | refine Q6 ?_ | refine Q7 ?_ | refine Q8 ?_ | refine Q9 ?_ | refine Qa ?_ | refine Qb ?_ | refine Qc ?_ | refine Qd ?_ | refine Qe ?_ | refine Qf ?_) | ((with_reducible refine Qo ?_ ?_); focus rfl) | ((with_reducible first | refine QT 11 (l := ?_) ?_ ?_ | refine QF 11 (l := ?_) ?_ ?_); rotate_left 1; focus (simp only [Zu, Nat.reduceSub, Nat.reduceBEq]; with_reducible rfl)) | ((with_reducible first | refine QS (cfg_ok 33) TFor (s' := ?_) ?_ ?_ | refine QC (b := ?_) ?_ ?_); rotate_left 1; focus ((with_reducible refine QW ?_); simp only [Zg, seval, if_true, if_false, reduceCtorEq, Nat.reduceEqDiff, TFor, i1, i2, hg, hw, hc, j1, Int.toNat_natCast, List.length_map]; with_reducible rfl)))
            refine roundK.on (i + 1) ⟨⟨h, all_range_succ hall hok⟩, by omega⟩ ?_
            (repeat' (first | with_reducible refine Qn | ((with_reducible refine Qr ?_ ?_); focus (first | with_reducible rfl | (simp only [Zz, Nat.reduceBEq]; done) | rfl)) | ((with_reducible refine Qj (o' := ?_) ?_ ?_ ?_); rotate_left 1; focus rfl) | ((with_reducible refine Qw ?_ ?_); (focus (first | with_reducible rfl | (simp only [Zv]; done))); focus (first | exact id | exact (fun h => nomatch h) | exact (fun _ => rfl)))))
          · have j1 : ((i : Int) > 0) = True := eq_true (by omega)
            have hw1 : w64 ((i : Int) - 1) = ((i - 1 : Nat) : Int) := by rw [w64_eq (by omega)]; omega
            have i3 : ((0 : Int) ≤ ((i - 1 : Nat) : Int)) = True := eq_true (by omega)
            have i4 : (((i - 1 : Nat) : Int) < (f.length : Int)) = True := eq_true (by omega)
            obtain ⟨s, hs⟩ : ∃ s, s = f[i - 1] := ⟨_, rfl⟩
            have hgs : (f.map eL)[i - 1]? = some [.sl 1 (s.map eI)] := by rw [map_get (by omega), hs]; rfl
            have hgds : f.getD (i - 1) [] = s := by rw [getD_at (by omega), hs]
            by_cases hk : cmpT s t > 0
            · have hok : okT f i = false := by unfold okT; rw [hgd, hgds, hc, decide_eq_false h0, decide_eq_false (by omega)]; rfl
              have hB : forB f = false := by unfold forB; rw [all_range_no h hok, Bool.and_false]
              have k1 : (cmpT s t > 0) = True := eq_true hk
              rw [hB]
              repeat' (first | with_reducible (first | refine Q1 ?_ | refine Q2 ?_ | refine Q3 ?_ | refine Q4 ?_ | refine Q5 ?_ | refine Q6 ?_ | refine Q7 ?_ | refine Q8 ?_ | refine Q9 ?_ | refine Qa ?_ | refine Qb ?_ | refine Qc ?_ | refine Qd ?_ | refine Qe ?_ | refine Qf ?_) | ((with_reducible refine Qo ?_ ?_); focus rfl) | ((with_reducible first | refine QT 11 (l := ?_) ?_ ?_ | refine QF 11 (l := ?_) ?_ ?_); rotate_left 1; focus (simp only [Zu, Nat.reduceSub, Nat.reduceBEq]; with_reducible rfl)) | ((with_reducible first | refine QS (cfg_ok 33) TFor (s' := ?_) ?_ ?_ | refine QC (b := ?_) ?_ ?_); rotate_left 1; focus ((with_reducible refine QW ?_); simp only [Zg, seval, if_true, if_false, reduceCtorEq, Nat.reduceEqDiff, TFor, i1, i2, i3, i4, hg, hgs, hw, hw1, hc, j1, k1, Int.toNat_natCast, List.length_map]; with_reducible rfl)))
              refine roundK.ret ?_
              repeat' (first | with_reducible (first | refine Q1 ?_ | refine Q2 ?_ | refine Q3 ?_ | refine Q4 ?_ | refine Q5 ?_ | refine Q6 ?_ | refine Q7 ?_ | refine Q8 ?_ | refine Q9 ?_ | refine Qa ?_ | refine Qb ?_ | refine Qc ?_ | refine Qd ?_ | refine Qe ?_ | refine Qf ?_) | ((with_reducible refine Qo ?_ ?_); focus rfl) | ((with_reducible first | refine QT 11 (l := ?_) ?_ ?_ | refine QF 11 (l := ?_) ?_ ?_); rotate_left 1; focus (simp only [Zu, Nat.reduceSub, Nat.reduceBEq]; with_reducible rfl)) | ((with_reducible first | refine QS (cfg_ok 33) TFor (s' := ?_) ?_ ?_ | refine QC (b := ?_) ?_ ?_); rotate_left 1; focus ((with_reducible refine QW ?_); simp only [Zg, seval, if_true, if_false, reduceCtorEq, Nat.reduceEqDiff, TFor]; with_reducible rfl)))
              (refine Ends.mk (by simp) (rs := ?_) (ks := ?_) hres hrts ?_ ?_ ?_; rotate_left 2; (focus (simp only [Ze, Zg, seval, if_true, if_false, reduceCtorEq, Nat.reduceEqDiff]; with_reducible rfl)); (focus simp); focus (first | with_reducible rfl | (simp only [Zv]; done)))
            · have hok : okT f i = true := by unfold okT; rw [hgd, hgds, hc, decide_eq_true (show cmpT s t ≤ 0 by omega), Bool.or_true]; rfl
              have k1 : (cmpT s t > 0) = False := eq_false hk
              repeat' (first | with_reducible (first | refine Q1 ?_ | refine Q2 ?_ | refine Q3 ?_ | refine Q4 ?_ | refine Q5 ?_ | refine Q6 ?_ | refine Q7 ?_ | refine Q8 ?_ | refine Q9 ?_ | refine Qa ?_ | refine Qb ?_ | refine Qc ?_ | refine Qd ?_ | refine Qe ?_ | refine Qf ?_) | ((with_reducible refine Qo ?_ ?_); focus rfl) | ((with_reducible first | refine QT 11 (l := ?_) ?_ ?_ | refine QF 11 (l := ?_) ?_ ?_); rotate_left 1; focus (simp only [Zu, Nat.reduceSub, Nat.reduceBEq]; with_reducible rfl)) | ((with_reducible first | refine QS (cfg_ok 33) TFor (s' := ?_) ?_ ?_ | refine QC (b := ?_) ?_ ?_); rotate_left 1; focus ((with_reducible refine QW ?_); simp only [Zg, seval, if_true, if_false, reduceCtorEq, Nat.reduceEqDiff, TFor, i1, i2, i3, i4, hg, hgs, hw, hw1, hc, j1, k1, Int.toNat_natCast, List.length_map]; with_reducible rfl)))
              refine roundK.on (i + 1) ⟨⟨h, all_range_succ hall hok⟩, by omega⟩ ?_
              (repeat' (first | with_reducible refine Qn | ((with_reducible refine Qr ?_ ?_); focus (first | with_reducible rfl | (simp only [Zz, Nat.reduceBEq]; done) | rfl)) | ((with_reducible refine Qj (o' := ?_) ?_ ?_ ?_); rotate_left 1; focus rfl) | ((with_reducible refine Qw ?_ ?_); (focus (first | with_reducible rfl | (simp only [Zv]; done))); focus (first | exact id | exact (fun h => nomatch h) | exact (fun _ => rfl)))))
        · have hc : canT t = false := by simpa using hc
          have hok : okT f i = false := by unfold okT; rw [hgd, hc, Bool.false_and]
          have hB : forB f = false := by unfold forB; rw [all_range_no h hok, Bool.and_false]
          rw [hB]
          repeat' (first | with_reducible (first | refine Q1 ?_ | refine Q2 ?_ | refine Q3 ?_ | refine Q4 ?_ | refine Q5 ?_ | refine Q6 ?_ | refine Q7 ?_ | refine Q8 ?_ | refine Q9 ?_ | refine Qa ?_ | refine Qb ?_ | refine Qc ?_ | refine Qd ?_ | refine Qe ?_ | refine Qf ?_) | ((with_reducible refine Qo ?_ ?_); focus rfl) | ((with_reducible first | refine QT 11 (l := ?_) ?_ ?_ | refine QF 11 (l := ?_) ?_ ?_); rotate_left 1; focus (simp only [Zu, Nat.reduceSub, Nat.reduceBEq]; with_reducible rfl)) | ((with_reducible first | refine QS (cfg_ok 33) TFor (s' := ?_) ?_ ?_ | refine QC (b := ?_) ?_ ?_); rotate_left 1; focus ((with_reducible refine QW ?_); simp only [Zg, seval, if_true, if_false, reduceCtorEq, Nat.reduceEqDiff, TFor, i1, i2, hg, hw, hc, Int.toNat_natCast, List.length_map]; with_reducible rfl)))
          refine roundK.ret ?_
          repeat' (first | with_reducible (first | refine Q1 ?_ | refine Q2 ?_ | refine Q3 ?_ | refine Q4 ?_ | refine Q5 ?_ | refine Q6 ?_ | refine Q7 ?_ | refine Q8 ?_ | refine Q9 ?_ | refine Qa ?_ | refine Qb ?_ | refine Qc ?_ | refine Qd ?_ | refine Qe ?_ | refine Qf ?_) | ((with_reducible refine Qo ?_ ?_); focus rfl) | ((with_reducible first | refine QT 11 (l := ?_) ?_ ?_ | refine QF 11 (l := ?_) ?_ ?_); rotate_left 1; focus (simp only [Zu, Nat.reduceSub, Nat.reduceBEq]; with_reducible rfl)) | ((with_reducible first | refine QS (cfg_ok 33) TFor (s' := ?_) ?_ ?_ | refine QC (b := ?_) ?_ ?_); rotate_left 1; focus ((with_reducible refine QW ?_); simp only [Zg, seval, if_true, if_false, reduceCtorEq, Nat.reduceEqDiff, TFor]; with_reducible rfl)))
          (refine Ends.mk (by simp) (rs := ?_) (ks := ?_) hres hrts ?_ ?_ ?_; rotate_left 2; (focus (simp only [Ze, Zg, seval, if_true, if_false, reduceCtorEq, Nat.reduceEqDiff]; with_reducible rfl)); (focus simp); focus (first | with_reducible rfl | (simp only [Zv]; done)))
      · have i1 : ((i : Int) < (f.length : Int)) = False := eq_false (by omega)
        obtain rfl : i = f.length := by omega
        repeat' (first | with_reducible (first | refine Q1 ?_ | refine Q2 ?_ | refine Q3 ?_ | refine Q4 ?_ | refine Q5 ?_ | refine Q6 ?_ | refine Q7 ?_ | refine Q8 ?_ | refine Q9 ?_ | refine Qa ?_ | refine Qb ?_ | refine Qc ?_ | refine Qd ?_ | refine Qe ?_ | refine Qf ?_) | ((with_reducible refine Qo ?_ ?_); focus rfl) | ((with_reducible first | refine QT 11 (l := ?_) ?_ ?_ | refine QF 11 (l := ?_) ?_ ?_); rotate_left 1; focus (simp only [Zu, Nat.reduceSub, Nat.reduceBEq]; with_reducible rfl)) | ((with_reducible first | refine QS (cfg_ok 33) TFor (s' := ?_) ?_ ?_ | refine QC (b := ?_) ?_ ?_); rotate_left 1; focus ((with_reducible refine QW ?_); simp only [Zg, seval, if_true, if_false, reduceCtorEq, Nat.reduceEqDiff, TFor, i1]; with_reducible rfl)))
        refine roundK.out () hall ?_
        (repeat' (first | with_reducible refine Qn | ((with_reducible refine Qr ?_ ?_); focus (first | with_reducible rfl | (simp only [Zz, Nat.reduceBEq]; done) | rfl)) | ((with_reducible refine Qj (o' := ?_) ?_ ?_ ?_); rotate_left 1; focus rfl) | ((with_reducible refine Qw ?_ ?_); (focus (first | with_reducible rfl | (simp only [Zv]; done))); focus (first | exact id | exact (fun h => nomatch h) | exact (fun _ => rfl)))))
    · rintro _ hall
      have hB : forB f = true := by unfold forB; rw [hall, decide_eq_true h8]; rfl
      rw [hB]
      repeat' (first | with_reducible (first | refine Q1 ?_ | refine Q2 ?_ | refine Q3 ?_ | refine Q4 ?_ | refine Q5 ?_ | refine Q6 ?_ | refine Q7 ?_ | refine Q8 ?_ | refine Q9 ?_ | refine Qa ?_ | refine Qb ?_ | refine Qc ?_ | refine Qd ?_ | refine Qe ?_ | refine Qf ?_) | ((with_reducible refine Qo ?_ ?_); focus rfl) | ((with_reducible first | refine QT 11 (l := ?_) ?_ ?_ | refine QF 11 (l := ?_) ?_ ?_); rotate_left 1; focus (simp only [Zu, Nat.reduceSub, Nat.reduceBEq]; with_reducible rfl)) | ((with_reducible first | refine QS (cfg_ok 33) TFor (s' := ?_) ?_ ?_ | refine QC (b := ?_) ?_ ?_); rotate_left 1; focus ((with_reducible refine QW ?_); simp only [Zg, seval, if_true, if_false, reduceCtorEq, Nat.reduceEqDiff, TFor]; with_reducible rfl)))
      (refine Ends.mk (by simp) (rs := ?_) (ks := ?_) hres hrts ?_ ?_ ?_; rotate_left 2; (focus (simp only [Ze, Zg, seval, if_true, if_false, reduceCtorEq, Nat.reduceEqDiff]; with_reducible rfl)); (focus simp); focus (first | with_reducible rfl | (simp only [Zv]; done)))
  · have i8 : ((sumLen f : Int) > 8) = True := eq_true (by omega)
    have hB : forB f = false := by unfold forB; rw [decide_eq_false h8, Bool.false_and]
    rw [hB]
    repeat' (first | with_reducible (first | refine Q1 ?_ | refine Q2 ?_ | refine Q3 ?_ | refine Q4 ?_ | refine Q5 ?_ | refine Q6 ?_ | refine Q7 ?_ | refine Q8 ?_ | refine Q9 ?_ | refine Qa ?_ | refine Qb ?_ | refine Qc ?_ | refine Qd ?_ | refine Qe ?_ | refine Qf ?_) | ((with_reducible refine Qo ?_ ?_); focus rfl) | ((with_reducible first | refine QT 11 (l := ?_) ?_ ?_ | refine QF 11 (l := ?_) ?_ ?_); rotate_left 1; focus (simp only [Zu, Nat.reduceSub, Nat.reduceBEq]; with_reducible rfl)) | ((with_reducible first | refine QS (cfg_ok 33) TFor (s' := ?_) ?_ ?_ | refine QC (b := ?_) ?_ ?_); rotate_left 1; focus ((with_reducible refine QW ?_); simp only [Zg, seval, if_true, if_false, reduceCtorEq, Nat.reduceEqDiff, TFor, hn, i8, eL]; with_reducible rfl)))
    (refine Ends.mk (by simp) (rs := ?_) (ks := ?_) hres hrts ?_ ?_ ?_; rotate_left 2; (focus (simp only [Ze, Zg, seval, if_true, if_false, reduceCtorEq, Nat.reduceEqDiff]; with_reducible rfl)); (focus simp); focus (first | with_reducible rfl | (simp only [Zv]; done)))
end Go.Proofs.YtkdkikmhlhcndaaGreat
namespace Go.Proofs.YtkdkikmhlhcndaaGreat
open Go.RowKit
set_option maxHeartbeats 4000000 in
theorem a_l03Forest (f : List (List Int)) (hsz : sumLen f ≤ 1048576) (hln : f.length ≤ 1048576) : AFn Tryz.prog 34 [eLL f] (· = [.val (.bool (forB f))]) := by
  have hn : nodesB f = sumLen f := nodesB_eq f (by omega)
  refine AFn.of_runs (cfg_ok 35) Tryz.func34 rfl rfl rfl (by simp only [List.length_cons, List.length_nil]; decide) ?_
  have hres : Tryz.f34.results.toList = [.tmp 2] := rfl
  have hrts : Tryz.f34.resultTypes.toList = [4] := rfl
  simp only [argRegs, argAV1, eL, eI, eLL, eB, Nat.zero_add, Nat.reduceAdd]
  intro M
  refine RunK.of ?_
  repeat' (first | with_reducible (first | refine Q1 ?_ | refine Q2 ?_ | refine Q3 ?_ | refine Q4 ?_ | refine Q5 ?_ | refine Q6 ?_ | refine Q7 ?_ | refine Q8 ?_ | refine Q9 ?_ | refine Qa ?_ | refine Qb ?_ | refine Qc ?_ | refine Qd ?_ | refine Qe ?_ | refine Qf ?_) | ((with_reducible refine Qo ?_ ?_); focus rfl) | ((with_reducible first | refine QT 4 (l := ?_) ?_ ?_ | refine QF 4 (l := ?_) ?_ ?_); rotate_left 1; focus (simp only [Zu, Nat.reduceSub, Nat.reduceBEq]; with_reducible rfl)) | ((with_reducible first | refine QS (cfg_ok 35) TForS (s' := ?_) ?_ ?_ | refine QC (b := ?_) ?_ ?_); rotate_left 1; focus ((with_reducible refine QW ?_); simp only [Zg, seval, if_true, if_false, reduceCtorEq, Nat.reduceEqDiff, TForS, eL]; with_reducible rfl)) | ((with_reducible refine QD (cfg_ok 35) TForS mixed_ok (tr := ?_) (s' := ?_) ?_ ?_ ?_); rotate_left 2; (focus ((with_reducible refine QW ?_); simp only [Zg, Zd, seval, if_true, if_false, reduceCtorEq, Nat.reduceEqDiff, TForS, eL]; with_reducible rfl)); focus ((with_reducible refine QK ?_); simp only [Zk]; kernel_rfl)))
  refine RunK.loop (β := Nat) (γ := Unit) (fun i => ⟨[(0, .c (.val (.sl 1 (f.map eL)))), (3, .c (.val (.int i)))], []⟩) (fun i => i ≤ f.length ∧ (List.range i).all (okT f) = true) (fun i => f.length - i)
    (fun _ => ⟨[(0, .c (.val (.sl 1 (f.map eL))))], []⟩) (fun _ => (List.range f.length).all (okT f) = true) 0 ⟨Nat.zero_le _, rfl⟩ ?_ ?_ ?_
  · (repeat' (first | with_reducible refine Qn | ((with_reducible refine Qr ?_ ?_); focus (first | with_reducible rfl | (simp only [Zz, Nat.reduceBEq]; done) | rfl)) | ((with_reducible refine Qj (o' := ?_) ?_ ?_ ?_); rotate_left 1; focus rfl) | ((with_reducible refine Qw ?_ ?_); (focus (first | with_reducible rfl | (simp only [Zv]; done))); focus (first | exact id | exact (fun h => nomatch h) | exact (fun _ => rfl)))))
  · rintro i ⟨hi, hall⟩
    have hw := w64_succ (n := i) (by omega)
    by_cases h : i < f.length
    · have i1 : ((i : Int) < (f.length : Int)) = True := eq_true (by omega)
      have i2 : ((0 : Int) ≤ (i : Int)) = True := eq_true (by omega)
      obtain ⟨t, ht⟩ : ∃ t, t = f[i] := ⟨_, rfl⟩
      have hg : (f.map eL)[i]? = some [.sl 1 (t.map eI)] := by rw [map_get h, ht]; rfl
      have hgd : f.getD i [] = t := by rw [getD_at h, ht]
      have htl : (t.length ≤ 1048576) = True := eq_true (Nat.le_trans (by rw [ht]; exact sumLen_mem (List.getElem_mem h)) hsz)
      by_cases hc : canT t = true
      · by_cases h0 : i = 0
        · have j1 : ((i : Int) > 0) = False := eq_false (by omega)
          have hok : okT f i = true := by unfold okT; rw [hgd, hc, h0]; rfl
          repeat' (first | with_reducible (first | refine Q1 ?_ | refine Q2 ?_ | refine Q3 ?_ | refine Q4 ?_ | refine Q5 ?_ | refine Q6 ?_ | refine Q7 ?_ | refine Q8 ?_ | refine Q9 ?_ | refine Qa ?_ | refine Qb ?_ | refine Qc ?_ | refine Qd ?_ | refine Qe ?_ | refine Qf ?_) | ((with_reducible refine Qo ?_ ?_); focus rfl) | ((with_reducible first | refine QT 4 (l := ?_) ?_ ?_ | refine QF 4 (l := ?_) ?_ ?_); rotate_left 1; focus (simp only [Zu, Nat.reduceSub, Nat.reduceBEq]; with_reducible rfl)) | ((with_reducible first | refine QS (cfg_ok 35) TForS (s' := ?_) ?_ ?_ | refine QC (b := ?_) ?_ ?_); rotate_left 1; focus ((with_reducible refine QW ?_); simp only [Zg, seval, if_true, if_false, reduceCtorEq, Nat.reduceEqDiff, TForS, i1, i2, hg, hw, hc, j1, htl, Int.toNat_natCast, List.length_map]; with_reducible rfl)) | ((with_reducible refine QD (cfg_ok 35) TForS mixed_ok (tr := ?_) (s' := ?_) ?_ ?_ ?_); rotate_left 2; (focus ((with_reducible refine QW ?_); simp only [Zg, Zd, seval, if_true, if_false, reduceCtorEq, Nat.reduceEqDiff, TForS, i1, i2, hg, hw, hc, j1, htl, Int.toNat_natCast, List.length_map]; with_reducible rfl)); focus ((with_reducible refine QK ?_); simp only [Zk]; kernel_rfl)))
          refine roundK.on (i + 1) ⟨⟨h, all_range_succ hall hok⟩, by omega⟩ ?_
          (repeat' (first | with_reducible refine Qn | ((with_reducible refine Qr ?_ ?_); focus (first | with_reducible rfl | (simp only [Zz, Nat.reduceBEq]; done) | rfl)) | ((with_reducible refine Qj (o' := ?_) ?_ ?_ ?_); rotate_left 1; focus rfl) | ((with_reducible refine Qw ?_ ?_); (focus (first | with_reducible rfl | (simp only [Zv]; done))); focus (first | exact id | exact (fun h => nomatch h) | exact (fun _ => rfl)))))
        · have j1 : ((i : Int) > 0) = True := eq_true (by omega)
          have hw1 : w64 ((i : Int) - 1) = ((i - 1 : Nat) : Int) := by rw [w64_eq (by omega)]; omega
          have i3 : ((0 : Int) ≤ ((i - 1 : Nat) : Int)) = True := eq_true (by omega)
          have i4 : (((i - 1 : Nat) : Int) < (f.length : Int)) = True := eq_true (by omega)
          obtain ⟨s, hs⟩ : ∃ s, s = f[i - 1] := ⟨_, rfl⟩
          have hgs : (f.map eL)[i - 1]? = some [.sl 1 (s.map eI)] := by rw [map_get (by omega), hs]; rfl
          have hgds : f.getD (i - 1) [] = s := by rw [getD_at (by omega), hs]
          have han := cmpT_cmp.anti t s
          by_cases hk : cmpT t s < 0
          · have hok : okT f i = false := by unfold okT; rw [hgd, hgds, hc, decide_eq_false h0, decide_eq_false (by omega)]; rfl
            have hB : forB f = false := by unfold forB; rw [all_range_no h hok, Bool.and_false]
            have k1 : decide (cmpT t s < 0) = true := decide_eq_true hk
            rw [hB]
            repeat' (first | with_reducible (first | refine Q1 ?_ | refine Q2 ?_ | refine Q3 ?_ | refine Q4 ?_ | refine Q5 ?_ | refine Q6 ?_ | refine Q7 ?_ | refine Q8 ?_ | refine Q9 ?_ | refine Qa ?_ | refine Qb ?_ | refine Qc ?_ | refine Qd ?_ | refine Qe ?_ | refine Qf ?_) | ((with_reducible refine Qo ?_ ?_); focus rfl) | ((with_reducible first | refine QT 4 (l := ?_) ?_ ?_ | refine QF 4 (l := ?_) ?_ ?_); rotate_left 1; focus (simp only [Zu, Nat.reduceSub, Nat.reduceBEq]; with_reducible rfl)) | ((with_reducible first | refine QS (cfg_ok 35) TForS (s' := ?_) ?_ ?_ | refine QC (b := ?_) ?_ ?_); rotate_left 1; focus ((with_reducible refine QW ?_); simp only [Zg, seval, if_true, if_false, reduceCtorEq, Nat.reduceEqDiff, TForS, i1, i2, i3, i4, hg, hgs, hw, hw1, hc, j1, k1, htl, Int.toNat_natCast, List.length_map]; with_reducible rfl)) | ((with_reducible refine QD (cfg_ok 35) TForS mixed_ok (tr := ?_) (s' := ?_) ?_ ?_ ?_); rotate_left 2; (focus ((with_reducible refine QW ?_); simp only [Zg, Zd, seval, if_true, if_false, reduceCtorEq, Nat.reduceEqDiff, TForS, i1, i2, i3, i4, hg, hgs, hw, hw1, hc, j1, k1, htl, Int.toNat_natCast, List.length_map]; with_reducible rfl)); focus ((with_reducible refine QK ?_); simp only [Zk]; kernel_rfl)))
            refine roundK.ret ?_
            repeat' (first | with_reducible (first | refine Q1 ?_ | refine Q2 ?_ | refine Q3 ?_ | refine Q4 ?_ | refine Q5 ?_ | refine Q6 ?_ | refine Q7 ?_ | refine Q8 ?_ | refine Q9 ?_ | refine Qa ?_ | refine Qb ?_ | refine Qc ?_ | refine Qd ?_ | refine Qe ?_ | refine Qf ?_) | ((with_reducible refine Qo ?_ ?_); focus rfl) | ((with_reducible first | refine QT 4 (l := ?_) ?_ ?_ | refine QF 4 (l := ?_) ?_ ?_); rotate_left 1; focus (simp only [Zu, Nat.reduceSub, Nat.reduceBEq]; with_reducible rfl)) | ((with_reducible first | refine QS (cfg_ok 35) TForS (s' := ?_) ?_ ?_ | refine QC (b := ?_) ?_ ?_); rotate_left 1; focus ((with_reducible refine QW ?_); simp only [Zg, seval, if_true, if_false, reduceCtorEq, Nat.reduceEqDiff, TForS]; with_reducible rfl)) | ((with_reducible refine QD (cfg_ok 35) TForS mixed_ok (tr := ?_) (s' := ?_) ?_ ?_ ?_); rotate_left 2; (focus ((with_reducible refine QW ?_); simp only [Zg, Zd, seval, if_true, if_false, reduceCtorEq, Nat.reduceEqDiff, TForS]; with_reducible rfl)); focus ((with_reducible refine QK ?_); simp only [Zk]; kernel_rfl)))
            (refine Ends.mk (by simp) (rs := ?_) (ks := ?_) hres hrts ?_ ?_ ?_; rotate_left 2; (focus (simp only [Ze, Zg, seval, if_true, if_false, reduceCtorEq, Nat.reduceEqDiff]; with_reducible rfl)); (focus simp); focus (first | with_reducible rfl | (simp only [Zv]; done)))
          · have hok : okT f i = true := by unfold okT; rw [hgd, hgds, hc, decide_eq_true (show cmpT s t ≤ 0 by omega), Bool.or_true]; rfl
            have k1 : decide (cmpT t s < 0) = false := decide_eq_false hk
            repeat' (first | with_reducible (first | refine Q1 ?_ | refine Q2 ?_ | refine Q3 ?_ | refine Q4 ?_ | refine Q5 ?_ | refine Q6 ?_ | refine Q7 ?_ | refine Q8 ?_ | refine Q9 ?_ | refine Qa ?_ | refine Qb ?_ | refine Qc ?_ | refine Qd ?_ | refine Qe ?_ | refine Qf ?_) | ((with_reducible refine Qo ?_ ?_); focus rfl) | ((with_reducible first | refine QT 4 (l := ?_) ?_ ?_ | refine QF 4 (l := ?_) ?_ ?_); rotate_left 1; focus (simp only [Zu, Nat.reduceSub, Nat.reduceBEq]; with_reducible rfl)) | ((with_reducible first | refine QS (cfg_ok 35) TForS (s' := ?_) ?_ ?_ | refine QC (b := ?_) ?_ ?_); rotate_left 1; focus ((with_reducible refine QW ?_); simp only [Zg, seval, if_true, if_false, reduceCtorEq, Nat.reduceEqDiff, TForS, i1, i2, i3, i4, hg, hgs, hw, hw1, hc, j1, k1, htl, Int.toNat_natCast, List.length_map]; with_reducible rfl)) | ((with_reducible refine QD (cfg_ok 35) TForS mixed_ok (tr := ?_) (s' := ?_) ?_ ?_ ?_); rotate_left 2; (focus ((with_reducible refine QW ?_); simp only [Zg, Zd, seval, if_true, if_false, reduceCtorEq, Nat.reduceEqDiff, TForS, i1, i2, i3, i4, hg, hgs, hw, hw1, hc, j1, k1, htl, Int.toNat_natCast, List.length_map]; with_reducible rfl)); focus ((with_reducible refine QK ?_); simp only [Zk]; kernel_rfl)))
            refine roundK.on (i + 1) ⟨⟨h, all_range_succ hall hok⟩, by omega⟩ ?_
            (repeat' (first | with_reducible refine Qn | ((with_reducible refine Qr ?_ ?_); focus (first | with_reducible rfl | (simp only [Zz, Nat.reduceBEq]; done) | rfl)) | ((with_reducible refine Qj (o' := ?_) ?_ ?_ ?_); rotate_left 1; focus rfl) | ((with_reducible refine Qw ?_ ?_); (focus (first | with_reducible rfl | (simp only [Zv]; done))); focus (first | exact id | exact (fun h => nomatch h) | exact (fun _ => rfl)))))
      · have hc : canT t = false := by simpa using hc
        have hok : okT f i = false := by unfold okT; rw [hgd, hc, Bool.false_and]
        have hB : forB f = false := by unfold forB; rw [all_range_no h hok, Bool.and_false]
        rw [hB]
        repeat' (first | with_reducible (first | refine Q1 ?_ | refine Q2 ?_ | refine Q3 ?_ | refine Q4 ?_ | refine Q5 ?_ | refine Q6 ?_ | refine Q7 ?_ | refine Q8 ?_ | refine Q9 ?_ | refine Qa ?_ | refine Qb ?_ | refine Qc ?_ | refine Qd ?_ | refine Qe ?_ | refine Qf ?_) | ((with_reducible refine Qo ?_ ?_); focus rfl) | ((with_reducible first | refine QT 4 (l := ?_) ?_ ?_ | refine QF 4 (l := ?_) ?_ ?_); rotate_left 1; focus (simp only [Zu, Nat.reduceSub, Nat.reduceBEq]; with_reducible rfl)) | ((with_reducible first | refine QS (cfg_ok 35) TForS (s' := ?_) ?_ ?_ | refine QC (b := ?_) ?_ ?_); rotate_left 1; focus ((with_reducible refine QW ?_); simp only [Zg, seval, if_true, if_false, reduceCtorEq, Nat.reduceEqDiff, TForS, i1, i2, hg, hw, hc, htl, Int.toNat_natCast, List.length_map]; with_reducible rfl)) | ((with_reducible refine QD (cfg_ok 35) TForS mixed_ok (tr := ?_) (s' := ?_) ?_ ?_ ?_); rotate_left 2; (focus ((with_reducible refine QW ?_); simp only [Zg, Zd, seval, if_true, if_false, reduceCtorEq, Nat.reduceEqDiff, TForS, i1, i2, hg, hw, hc, htl, Int.toNat_natCast, List.length_map]; with_reducible rfl)); focus ((with_reducible refine QK ?_); simp only [Zk]; kernel_rfl)))
        refine roundK.ret ?_
        repeat' (first | with_reducible (first | refine Q1 ?_ | refine Q2 ?_ | refine Q3 ?_ | refine Q4 ?_ | refine Q5 ?_ | refine Q6 ?_ | refine Q7 ?_ | refine Q8 ?_ | refine Q9 ?_ | refine Qa ?_ | refine Qb ?_ | refine Qc ?_ | refine Qd ?_ | refine Qe ?_ | refine Qf ?_) | ((with_reducible refine Qo ?_ ?_); focus rfl) | ((with_reducible first | refine QT 4 (l := ?_) ?_ ?_ | refine QF 4 (l := ?_) ?_ ?_); rotate_left 1; focus (simp only [Zu, Nat.reduceSub, Nat.reduceBEq]; with_reducible rfl)) | ((with_reducible first | refine QS (cfg_ok 35) TForS (s' := ?_) ?_ ?_ | refine QC (b := ?_) ?_ ?_); rotate_left 1; focus ((with_reducible refine QW ?_); simp only [Zg, seval, if_true, if_false, reduceCtorEq, Nat.reduceEqDiff, TForS]; with_reducible rfl)) | ((with_reducible refine QD (cfg_ok 35) TForS mixed_ok (tr := ?_) (s' := ?_) ?_ ?_ ?_); rotate_left 2; (focus ((with_reducible refine QW ?_); simp only [Zg, Zd, seval, if_true, if_false, reduceCtorEq, Nat.reduceEqDiff, TForS]; with_reducible rfl)); focus ((with_reducible refine QK ?_); simp only [Zk]; kernel_rfl)))
        (refine Ends.mk (by simp) (rs := ?_) (ks := ?_) hres hrts ?_ ?_ ?_; rotate_left 2; (focus (simp only [Ze, Zg, seval, if_true, if_false, reduceCtorEq, Nat.reduceEqDiff]; with_reducible rfl)); (focus simp); focus (first | with_reducible rfl | (simp only [Zv]; done)))
    · have i1 : ((i : Int) < (f.length : Int)) = False := eq_false (by omega)
      obtain rfl : i = f.length := by omega
      repeat' (first | with_reducible (first | refine Q1 ?_ | refine Q2 ?_ | refine Q3 ?_ | refine Q4 ?_ | refine Q5 ?_ | refine Q6 ?_ | refine Q7 ?_ | refine Q8 ?_ | refine Q9 ?_ | refine Qa ?_ | refine Qb ?_ | refine Qc ?_ | refine Qd ?_ | refine Qe ?_ | refine Qf ?_) | ((with_reducible refine Qo ?_ ?_); focus rfl) | ((with_reducible first | refine QT 4 (l := ?_) ?_ ?_ | refine QF 4 (l := ?_) ?_ ?_); rotate_left 1; focus (simp only [Zu, Nat.reduceSub, Nat.reduceBEq]; with_reducible rfl)) | ((with_reducible first | refine QS (cfg_ok 35) TForS (s' := ?_) ?_ ?_ | refine QC (b := ?_) ?_ ?_); rotate_left 1; focus ((with_reducible refine QW ?_); simp only [Zg, seval, if_true, if_false, reduceCtorEq, Nat.reduceEqDiff, TForS, i1, List.length_map]; with_reducible rfl)) | ((with_reducible refine QD (cfg_ok 35) TForS mixed_ok (tr := ?_) (s' := ?_) ?_ ?_ ?_); rotate_left 2; (focus ((with_reducible refine QW ?_); simp only [Zg, Zd, seval, if_true, if_false, reduceCtorEq, Nat.reduceEqDiff, TForS, i1, List.length_map]; with_reducible rfl)); focus ((with_reducible refine QK ?_); simp only [Zk]; kernel_rfl)))
      refine roundK.out () hall ?_
      (repeat' (first | with_reducible refine Qn | ((with_reducible refine Qr ?_ ?_); focus (first | with_reducible rfl | (simp only [Zz, Nat.reduceBEq]; done) | rfl)) | ((with_reducible refine Qj (o' := ?_) ?_ ?_ ?_); rotate_left 1; focus rfl) | ((with_reducible refine Qw ?_ ?_); (focus (first | with_reducible rfl | (simp only [Zv]; done))); focus (first | exact id | exact (fun h => nomatch h) | exact (fun _ => rfl)))))
  · rintro _ hall
    have hB : forB f = decide ((sumLen f : Int) ≤ 8) := by
      unfold forB; rw [hall, Bool.and_true]
      exact decide_eq_decide.2 (by omega)
    rw [hB]
    repeat' (first | with_reducible (first | refine Q1 ?_ | refine Q2 ?_ | refine Q3 ?_ | refine Q4 ?_ | refine Q5 ?_ | refine Q6 ?_ | refine Q7 ?_ | refine Q8 ?_ | refine Q9 ?_ | refine Qa ?_ | refine Qb ?_ | refine Qc ?_ | refine Qd ?_ | refine Qe ?_ | refine Qf ?_) | ((with_reducible refine Qo ?_ ?_); focus rfl) | ((with_reducible first | refine QT 4 (l := ?_) ?_ ?_ | refine QF 4 (l := ?_) ?_ ?_); rotate_left 1; focus (simp only [Zu, Nat.reduceSub, Nat.reduceBEq]; with_reducible rfl)) | ((with_reducible first | refine QS (cfg_ok 35) TForS (s' := ?_) ?_ ?_ | refine QC (b := ?_) ?_ ?_); rotate_left 1; focus ((with_reducible refine QW ?_); simp only [Zg, seval, if_true, if_false, reduceCtorEq, Nat.reduceEqDiff, TForS, hn, eL]; with_reducible rfl)) | ((with_reducible refine QD (cfg_ok 35) TForS mixed_ok (tr := ?_) (s' := ?_) ?_ ?_ ?_); rotate_left 2; (focus ((with_reducible refine QW ?_); simp only [Zg, Zd, seval, if_true, if_false, reduceCtorEq, Nat.reduceEqDiff, TForS, hn, eL]; with_reducible rfl)); focus ((with_reducible refine QK ?_); simp only [Zk]; kernel_rfl)))
    (refine Ends.mk (by simp) (rs := ?_) (ks := ?_) hres hrts ?_ ?_ ?_; rotate_left 2; (focus (simp only [Ze, Zg, seval, if_true, if_false, reduceCtorEq, Nat.reduceEqDiff]; with_reducible rfl)); (focus simp); focus (first | with_reducible rfl | (simp only [Zv]; done)))
theorem sgn_neg {n : Int} (h : n < 0) : sgn n = -1 := by unfold sgn; rw [if_pos h]
theorem sgn_pos {n : Int} (h : 0 < n) : sgn n = 1 := by unfold sgn; rw [if_neg (by omega), if_neg (by omega)]
theorem sgn_zero : sgn 0 = 0 := rfl
set_option maxHeartbeats 4000000 in
theorem a_l05Compare (f g : List (List Int)) (hf : f.length ≤ 1000000000) (hg : g.length ≤ 1000000000) : AFn Tryz.prog 142 [eLL f, eLL g] (· = [.val (.int (sgn (cmpN f g)))]) := by
  rw [cmpN_eq]
  refine AFn.of_runs (cfg_ok 42) Tryz.func142 rfl rfl rfl (by simp only [List.length_cons, List.length_nil]; decide) ?_
  have hres : Tryz.f142.results.toList = [.tmp 4] := rfl
  have hrts : Tryz.f142.resultTypes.toList = [2] := rfl
  simp only [argRegs, argAV1, eL, eI, eLL, eB, Nat.zero_add, Nat.reduceAdd]
  intro M
  refine RunK.of ?_
  by_cases hl : f.length = g.length
  · have hb : ((f.length : Int) != (g.length : Int)) = false := by simp [hl]
    rw [if_pos (by rw [hl])]
    repeat' (first | with_reducible (first | refine Q1 ?_ | refine Q2 ?_ | refine Q3 ?_ | refine Q4 ?_ | refine Q5 ?_ | refine Q6 ?_ | refine Q7 ?_ | refine Q8 ?_ | refine Q9 ?_ | refine Qa ?_ | refine Qb ?_ | refine Qc ?_ | refine Qd ?_ | refine Qe ?_ | refine Qf ?_) | ((with_reducible refine Qo ?_ ?_); focus rfl) | ((with_reducible first | refine QT 6 (l := ?_) ?_ ?_ | refine QF 6 (l := ?_) ?_ ?_); rotate_left 1; focus (simp only [Zu, Nat.reduceSub, Nat.reduceBEq]; with_reducible rfl)) | ((with_reducible first | refine QS (cfg_ok 42) TForS (s' := ?_) ?_ ?_ | refine QC (b := ?_) ?_ ?_); rotate_left 1; focus ((with_reducible refine QW ?_); simp only [Zg, seval, if_true, if_false, reduceCtorEq, Nat.reduceEqDiff, TForS, hb, eL, List.length_map]; with_reducible rfl)) | ((with_reducible refine QD (cfg_ok 42) TForS mixed_ok (tr := ?_) (s' := ?_) ?_ ?_ ?_); rotate_left 2; (focus ((with_reducible refine QW ?_); simp only [Zg, Zd, seval, if_true, if_false, reduceCtorEq, Nat.reduceEqDiff, TForS, hb, eL, List.length_map]; with_reducible rfl)); focus ((with_reducible refine QK ?_); simp only [Zk]; kernel_rfl)))
    refine RunK.loop (β := Nat) (γ := Unit) (fun i => ⟨[(0, .c (.val (.sl 1 (f.map eL)))), (1, .c (.val (.sl 1 (g.map eL)))), (5, .c (.val (.int i)))], []⟩) (fun i => i ≤ f.length ∧ lexC cmpT f g = lexC cmpT (f.drop i) (g.drop i)) (fun i => f.length - i)
      (fun _ => ⟨[], []⟩) (fun _ => lexC cmpT f g = 0) 0 ⟨Nat.zero_le _, rfl⟩ ?_ ?_ ?_
    · (repeat' (first | with_reducible refine Qn | ((with_reducible refine Qr ?_ ?_); focus (first | with_reducible rfl | (simp only [Zz, Nat.reduceBEq]; done) | rfl)) | ((with_reducible refine Qj (o' := ?_) ?_ ?_ ?_); rotate_left 1; focus rfl) | ((with_reducible refine Qw ?_ ?_); (focus (first | with_reducible rfl | (simp only [Zv]; done))); focus (first | exact id | exact (fun h => nomatch h) | exact (fun _ => rfl)))))
    · rintro i ⟨hi, hx⟩
      have hw := w64_succ (n := i) (by omega)
      by_cases h : i < f.length
      · have h2 : i < g.length := by omega
        have i1 : ((i : Int) < (f.length : Int)) = True := eq_true (by omega)
        have i1' : ((i : Int) < (g.length : Int)) = True := eq_true (by omega)
        have i2 : ((0 : Int) ≤ (i : Int)) = True := eq_true (by omega)
        have hs := lexC_step (c := cmpT) h h2
        obtain ⟨t, ht⟩ : ∃ t, t = f[i] := ⟨_, rfl⟩
        obtain ⟨s, hsd⟩ : ∃ s, s = g[i] := ⟨_, rfl⟩
        rw [← ht, ← hsd] at hs
        have hgt : (f.map eL)[i]? = some [.sl 1 (t.map eI)] := by rw [map_get h, ht]; rfl
        have hgs : (g.map eL)[i]? = some [.sl 1 (s.map eI)] := by rw [map_get h2, hsd]; rfl
        have han := cmpT_cmp.anti s t
        by_cases c1 : cmpT t s < 0
        · have d1 : decide (cmpT t s < 0) = true := decide_eq_true c1
          rw [hx, hs, if_neg (by omega), sgn_neg c1]
          repeat' (first | with_reducible (first | refine Q1 ?_ | refine Q2 ?_ | refine Q3 ?_ | refine Q4 ?_ | refine Q5 ?_ | refine Q6 ?_ | refine Q7 ?_ | refine Q8 ?_ | refine Q9 ?_ | refine Qa ?_ | refine Qb ?_ | refine Qc ?_ | refine Qd ?_ | refine Qe ?_ | refine Qf ?_) | ((with_reducible refine Qo ?_ ?_); focus rfl) | ((with_reducible first | refine QT 6 (l := ?_) ?_ ?_ | refine QF 6 (l := ?_) ?_ ?_); rotate_left 1; focus (simp only [Zu, Nat.reduceSub, Nat.reduceBEq]; with_reducible rfl)) | ((with_reducible first | refine QS (cfg_ok 42) TForS (s' := ?_) ?_ ?_ | refine QC (b := ?_) ?_ ?_); rotate_left 1; focus ((with_reducible refine QW ?_); simp only [Zg, seval, if_true, if_false, reduceCtorEq, Nat.reduceEqDiff, TForS, i1, i1', i2, hgt, hgs, hw, d1, Int.toNat_natCast, List.length_map]; with_reducible rfl)) | ((with_reducible refine QD (cfg_ok 42) TForS mixed_ok (tr := ?_) (s' := ?_) ?_ ?_ ?_); rotate_left 2; (focus ((with_reducible refine QW ?_); simp only [Zg, Zd, seval, if_true, if_false, reduceCtorEq, Nat.reduceEqDiff, TForS, i1, i1', i2, hgt, hgs, hw, d1, Int.toNat_natCast, List.length_map]; with_reducible rfl)); focus ((with_reducible refine QK ?_); simp only [Zk]; kernel_rfl)))
          refine roundK.ret ?_
          repeat' (first | with_reducible (first | refine Q1 ?_ | refine Q2 ?_ | refine Q3 ?_ | refine Q4 ?_ | refine Q5 ?_ | refine Q6 ?_ | refine Q7 ?_ | refine Q8 ?_ | refine Q9 ?_ | refine Qa ?_ | refine Qb ?_ | refine Qc ?_ | refine Qd ?_ | refine Qe ?_ | refine Qf ?_) | ((with_reducible refine Qo ?_ ?_); focus rfl) | ((with_reducible first | refine QT 6 (l := ?_) ?_ ?_ | refine QF 6 (l := ?_) ?_ ?_); rotate_left 1; focus (simp only [Zu, Nat.reduceSub, Nat.reduceBEq]; with_reducible rfl)) | ((with_reducible first | refine QS (cfg_ok 42) TForS (s' := ?_) ?_ ?_ | refine QC (b := ?_) ?_ ?_); rotate_left 1; focus ((with_reducible refine QW ?_); simp only [Zg, seval, if_true, if_false, reduceCtorEq, Nat.reduceEqDiff, TForS]; with_reducible rfl)) | ((with_reducible refine QD (cfg_ok 42) TForS mixed_ok (tr := ?_) (s' := ?_) ?_ ?_ ?_); rotate_left 2; (focus ((with_reducible refine QW ?_); simp only [Zg, Zd, seval, if_true, if_false, reduceCtorEq, Nat.reduceEqDiff, TForS]; with_reducible rfl)); focus ((with_reducible refine QK ?_); simp only [Zk]; kernel_rfl)))
          (refine Ends.mk (by simp) (rs := ?_) (ks := ?_) hres hrts ?_ ?_ ?_; rotate_left 2; (focus (simp only [Ze, Zg, seval, if_true, if_false, reduceCtorEq, Nat.reduceEqDiff]; with_reducible rfl)); (focus simp); focus (first | with_reducible rfl | (simp only [Zv]; done)))
        · have d1 : decide (cmpT t s < 0) = false := decide_eq_false c1
          by_cases c2 : cmpT s t < 0
          · have d2 : decide (cmpT s t < 0) = true := decide_eq_true c2
            rw [hx, hs, if_neg (by omega), sgn_pos (by omega)]
            repeat' (first | with_reducible (first | refine Q1 ?_ | refine Q2 ?_ | refine Q3 ?_ | refine Q4 ?_ | refine Q5 ?_ | refine Q6 ?_ | refine Q7 ?_ | refine Q8 ?_ | refine Q9 ?_ | refine Qa ?_ | refine Qb ?_ | refine Qc ?_ | refine Qd ?_ | refine Qe ?_ | refine Qf ?_) | ((with_reducible refine Qo ?_ ?_); focus rfl) | ((with_reducible first | refine QT 6 (l := ?_) ?_ ?_ | refine QF 6 (l := ?_) ?_ ?_); rotate_left 1; focus (simp only [Zu, Nat.reduceSub, Nat.reduceBEq]; with_reducible rfl)) | ((with_reducible first | refine QS (cfg_ok 42) TForS (s' := ?_) ?_ ?_ | refine QC (b := ?_) ?_ ?_); rotate_left 1; focus ((with_reducible refine QW ?_); simp only [Zg, seval, if_true, if_false, reduceCtorEq, Nat.reduceEqDiff, TForS, i1, i1', i2, hgt, hgs, hw, d1, d2, Int.toNat_natCast, List.length_map]; with_reducible rfl)) | ((with_reducible refine QD (cfg_ok 42) TForS mixed_ok (tr := ?_) (s' := ?_) ?_ ?_ ?_); rotate_left 2; (focus ((with_reducible refine QW ?_); simp only [Zg, Zd, seval, if_true, if_false, reduceCtorEq, Nat.reduceEqDiff, TForS, i1, i1', i2, hgt, hgs, hw, d1, d2, Int.toNat_natCast, List.length_map]; with_reducible rfl)); focus ((with_reducible refine QK ?_); simp only [Zk]; kernel_rfl)))
            refine roundK.ret ?_
            repeat' (first | with_reducible (first | refine Q1 ?_ | refine Q2 ?_ | refine Q3 ?_ | refine Q4 ?_ | refine Q5 ?_ | refine Q6 ?_ | refine Q7 ?_ | refine Q8 ?_ | refine Q9 ?_ | refine Qa ?_ | refine Qb ?_ | refine Qc ?_ | refine Qd ?_ | refine Qe ?_ | refine Qf ?_) | ((with_reducible refine Qo ?_ ?_); focus rfl) | ((with_reducible first | refine QT 6 (l := ?_) ?_ ?_ | refine QF 6 (l := ?_) ?_ ?_); rotate_left 1; focus (simp only [Zu, Nat.reduceSub, Nat.reduceBEq]; with_reducible rfl)) | ((with_reducible first | refine QS (cfg_ok 42) TForS (s' := ?_) ?_ ?_ | refine QC (b := ?_) ?_ ?_); rotate_left 1; focus ((with_reducible refine QW ?_); simp only [Zg, seval, if_true, if_false, reduceCtorEq, Nat.reduceEqDiff, TForS]; with_reducible rfl)) | ((with_reducible refine QD (cfg_ok 42) TForS mixed_ok (tr := ?_) (s' := ?_) ?_ ?_ ?_); rotate_left 2; (focus ((with_reducible refine QW ?_); simp only [Zg, Zd, seval, if_true, if_false, reduceCtorEq, Nat.reduceEqDiff, TForS]; with_reducible rfl)); focus ((with_reducible refine QK ?_); simp only [Zk]; kernel_rfl)))
            (refine Ends.mk (by simp) (rs := ?_) (ks := ?_) hres hrts ?_ ?_ ?_; rotate_left 2; (focus (simp only [Ze, Zg, seval, if_true, if_false, reduceCtorEq, Nat.reduceEqDiff]; with_reducible rfl)); (focus simp); focus (first | with_reducible rfl | (simp only [Zv]; done)))
          · have d2 : decide (cmpT s t < 0) = false := decide_eq_false c2
            rw [if_pos (by omega)] at hs
            repeat' (first | with_reducible (first | refine Q1 ?_ | refine Q2 ?_ | refine Q3 ?_ | refine Q4 ?_ | refine Q5 ?_ | refine Q6 ?_ | refine Q7 ?_ | refine Q8 ?_ | refine Q9 ?_ | refine Qa ?_ | refine Qb ?_ | refine Qc ?_ | refine Qd ?_ | refine Qe ?_ | refine Qf ?_) | ((with_reducible refine Qo ?_ ?_); focus rfl) | ((with_reducible first | refine QT 6 (l := ?_) ?_ ?_ | refine QF 6 (l := ?_) ?_ ?_); rotate_left 1; focus (simp only [Zu, Nat.reduceSub, Nat.reduceBEq]; with_reducible rfl)) | ((with_reducible first | refine QS (cfg_ok 42) TForS (s' := ?_) ?_ ?_ | refine QC (b := ?_) ?_ ?_); rotate_left 1; focus ((with_reducible refine QW ?_); simp only [Zg, seval, if_true, if_false, reduceCtorEq, Nat.reduceEqDiff, TForS, i1, i1', i2, hgt, hgs, hw, d1, d2, Int.toNat_natCast, List.length_map]; with_reducible rfl)) | ((with_reducible refine QD (cfg_ok 42) TForS mixed_ok (tr := ?_) (s' := ?_) ?_ ?_ ?_); rotate_left 2; (focus ((with_reducible refine QW ?_); simp only [Zg, Zd, seval, if_true, if_false, reduceCtorEq, Nat.reduceEqDiff, TForS, i1, i1', i2, hgt, hgs, hw, d1, d2, Int.toNat_natCast, List.length_map]; with_reducible rfl)); focus ((with_reducible refine QK ?_); simp only [Zk]; kernel_rfl)))
            refine roundK.on (i + 1) ⟨⟨h, by rw [hx, hs]⟩, by omega⟩ ?_
            (repeat' (first | with_reducible refine Qn | ((with_reducible refine Qr ?_ ?_); focus (first | with_reducible rfl | (simp only [Zz, Nat.reduceBEq]; done) | rfl)) | ((with_reducible refine Qj (o' := ?_) ?_ ?_ ?_); rotate_left 1; focus rfl) | ((with_reducible refine Qw ?_ ?_); (focus (first | with_reducible rfl | (simp only [Zv]; done))); focus (first | exact id | exact (fun h => nomatch h) | exact (fun _ => rfl)))))
      · have i1 : ((i : Int) < (f.length : Int)) = False := eq_false (by omega)
        rw [lexC_end0 h (by omega)] at hx
        repeat' (first | with_reducible (first | refine Q1 ?_ | refine Q2 ?_ | refine Q3 ?_ | refine Q4 ?_ | refine Q5 ?_ | refine Q6 ?_ | refine Q7 ?_ | refine Q8 ?_ | refine Q9 ?_ | refine Qa ?_ | refine Qb ?_ | refine Qc ?_ | refine Qd ?_ | refine Qe ?_ | refine Qf ?_) | ((with_reducible refine Qo ?_ ?_); focus rfl) | ((with_reducible first | refine QT 6 (l := ?_) ?_ ?_ | refine QF 6 (l := ?_) ?_ ?_); rotate_left 1; focus (simp only [Zu, Nat.reduceSub, Nat.reduceBEq]; with_reducible rfl)) | ((with_reducible first | refine QS (cfg_ok 42) TForS (s' := ?_) ?_ ?_ | refine QC (b := ?_) ?_ ?_); rotate_left 1; focus ((with_reducible refine QW ?_); simp only [Zg, seval, if_true, if_false, reduceCtorEq, Nat.reduceEqDiff, TForS, i1, List.length_map]; with_reducible rfl)) | ((with_reducible refine QD (cfg_ok 42) TForS mixed_ok (tr := ?_) (s' := ?_) ?_ ?_ ?_); rotate_left 2; (focus ((with_reducible refine QW ?_); simp only [Zg, Zd, seval, if_true, if_false, reduceCtorEq, Nat.reduceEqDiff, TForS, i1, List.length_map]; with_reducible rfl)); focus ((with_reducible refine QK ?_); simp only [Zk]; kernel_rfl)))
        refine roundK.out () hx ?_
        (repeat' (first | with_reducible refine Qn | ((with_reducible refine Qr ?_ ?_); focus (first | with_reducible rfl | (simp only [Zz, Nat.reduceBEq]; done) | rfl)) | ((with_reducible refine Qj (o' := ?_) ?_ ?_ ?_); rotate_left 1; focus rfl) | ((with_reducible refine Qw ?_ ?_); (focus (first | with_reducible rfl | (simp only [Zv]; done))); focus (first | exact id | exact (fun h => nomatch h) | exact (fun _ => rfl)))))
    · rintro _ h0
      rw [h0, sgn_zero]
      repeat' (first | with_reducible (first | refine Q1 ?_ | refine Q2 ?_ | refine Q3 ?_ | refine Q4 ?_ | refine Q5 ?_ | refine Q6 ?_ | refine Q7 ?_ | refine Q8 ?_ | refine Q9 ?_ | refine Qa ?_ | refine Qb ?_ | refine Qc ?_ | refine Qd ?_ | refine Qe ?_ | refine Qf ?_) | ((with_reducible refine Qo ?_ ?_); focus rfl) | ((with_reducible first | refine QT 6 (l := ?_) ?_ ?_ | refine QF 6 (l := ?_) ?_ ?_); rotate_left 1; focus (simp only [Zu, Nat.reduceSub, Nat.reduceBEq]; with_reducible rfl)) | ((with_reducible first | refine QS (cfg_ok 42) TForS (s' := ?_) ?_ ?_ | refine QC (b := ?_) ?_ ?_); rotate_left 1; focus ((with_reducible refine QW ?_); simp only [Zg, seval, if_true, if_false, reduceCtorEq, Nat.reduceEqDiff, TForS]; with_reducible rfl)) | ((with_reducible refine QD (cfg_ok 42) TForS mixed_ok (tr := ?_) (s' := ?_) ?_ ?_ ?_); rotate_left 2; (focus ((with_reducible refine QW ?_); simp only [Zg, Zd, seval, if_true, if_false, reduceCtorEq, Nat.reduceEqDiff, TForS]; with_reducible rfl)); focus ((with_reducible refine QK ?_); simp only [Zk]; kernel_rfl)))
      (refine Ends.mk (by simp) (rs := ?_) (ks := ?_) hres hrts ?_ ?_ ?_; rotate_left 2; (focus (simp only [Ze, Zg, seval, if_true, if_false, reduceCtorEq, Nat.reduceEqDiff]; with_reducible rfl)); (focus simp); focus (first | with_reducible rfl | (simp only [Zv]; done)))
  · have hb : ((f.length : Int) != (g.length : Int)) = true := by simp; omega
    rw [if_neg (by omega)]
    by_cases h2 : f.length < g.length
    · have i1 : ((f.length : Int) < (g.length : Int)) = True := eq_true (by omega)
      rw [sgn_neg (by omega)]
      repeat' (first | with_reducible (first | refine Q1 ?_ | refine Q2 ?_ | refine Q3 ?_ | refine Q4 ?_ | refine Q5 ?_ | refine Q6 ?_ | refine Q7 ?_ | refine Q8 ?_ | refine Q9 ?_ | refine Qa ?_ | refine Qb ?_ | refine Qc ?_ | refine Qd ?_ | refine Qe ?_ | refine Qf ?_) | ((with_reducible refine Qo ?_ ?_); focus rfl) | ((with_reducible first | refine QT 6 (l := ?_) ?_ ?_ | refine QF 6 (l := ?_) ?_ ?_); rotate_left 1; focus (simp only [Zu, Nat.reduceSub, Nat.reduceBEq]; with_reducible rfl)) | ((with_reducible first | refine QS (cfg_ok 42) TForS (s' := ?_) ?_ ?_ | refine QC (b := ?_) ?_ ?_); rotate_left 1; focus ((with_reducible refine QW ?_); simp only [Zg, seval, if_true, if_false, reduceCtorEq, Nat.reduceEqDiff, TForS, hb, i1, eL, List.length_map]; with_reducible rfl)) | ((with_reducible refine QD (cfg_ok 42) TForS mixed_ok (tr := ?_) (s' := ?_) ?_ ?_ ?_); rotate_left 2; (focus ((with_reducible refine QW ?_); simp only [Zg, Zd, seval, if_true, if_false, reduceCtorEq, Nat.reduceEqDiff, TForS, hb, i1, eL, List.length_map]; with_reducible rfl)); focus ((with_reducible refine QK ?_); simp only [Zk]; kernel_rfl)))
      (refine Ends.mk (by simp) (rs := ?_) (ks := ?_) hres hrts ?_ ?_ ?_; rotate_left 2; (focus (simp only [Ze, Zg, seval, if_true, if_false, reduceCtorEq, Nat.reduceEqDiff]; with_reducible rfl)); (focus simp); focus (first | with_reducible rfl | (simp only [Zv]; done)))
    · have i1 : ((f.length : Int) < (g.length : Int)) = False := eq_false (by omega)
      rw [sgn_pos (by omega)]
      repeat' (first | with_reducible (first | refine Q1 ?_ | refine Q2 ?_ | refine Q3 ?_ | refine Q4 ?_ | refine Q5 ?_ | refine Q6 ?_ | refine Q7 ?_ | refine Q8 ?_ | refine Q9 ?_ | refine Qa ?_ | refine Qb ?_ | refine Qc ?_ | refine Qd ?_ | refine Qe ?_ | refine Qf ?_) | ((with_reducible refine Qo ?_ ?_); focus rfl) | ((with_reducible first | refine QT 6 (l := ?_) ?_ ?_ | refine QF 6 (l := ?_) ?_ ?_); rotate_left 1; focus (simp only [Zu, Nat.reduceSub, Nat.reduceBEq]; with_reducible rfl)) | ((with_reducible first | refine QS (cfg_ok 42) TForS (s' := ?_) ?_ ?_ | refine QC (b := ?_) ?_ ?_); rotate_left 1; focus ((with_reducible refine QW ?_); simp only [Zg, seval, if_true, if_false, reduceCtorEq, Nat.reduceEqDiff, TForS, hb, i1, eL, List.length_map]; with_reducible rfl)) | ((with_reducible refine QD (cfg_ok 42) TForS mixed_ok (tr := ?_) (s' := ?_) ?_ ?_ ?_); rotate_left 2; (focus ((with_reducible refine QW ?_); simp only [Zg, Zd, seval, if_true, if_false, reduceCtorEq, Nat.reduceEqDiff, TForS, hb, i1, eL, List.length_map]; with_reducible rfl)); focus ((with_reducible refine QK ?_); simp only [Zk]; kernel_rfl)))
      (refine Ends.mk (by simp) (rs := ?_) (ks := ?_) hres hrts ?_ ?_ ?_; rotate_left 2; (focus (simp only [Ze, Zg, seval, if_true, if_false, reduceCtorEq, Nat.reduceEqDiff]; with_reducible rfl)); (focus simp); focus (first | with_reducible rfl | (simp only [Zv]; done)))
theorem a_compareForests (f g : List (List Int)) (hf : sumLen f ≤ 1000000000) (hg : sumLen g ≤ 1000000000) : AFn Tryz.prog 61 [eLL f, eLL g] (· = [.val (.int (cmpF f g))]) := by
  refine ⟨enters_of Tryz.func61 rfl rfl, fun A w vs hA ⟨v1, _, e1, h1, v2, _, e2, h2, e3⟩ => ?_⟩
  subst e3; subst e2; subst e1
  have r1 := Rd.of (rdLL h1)
  have r2 := Rd.of (rdLL h2)
  obtain ⟨oa, c1, k1, m1, m2⟩ := r1.val
  obtain ⟨ob, c2, k2, m3, m4⟩ := r2.val
  refine (c_compareForests v1 v2 f g w r1 r2 (by omega) (by omega)).mono ?_
  rintro e w' ⟨rfl, rfl⟩
  have hle : ∀ {f : List (List Int)}, sumLen f ≤ 1000000000 → ∀ t ∈ f, t.length ≤ maxLen := fun h t ht => Nat.le_trans (sumLen_mem ht) (Nat.le_trans h (by decide))
  exact ⟨_, _, rfl, rfl, Below.refl _ _, [_], [], [], rfl, List.nodup_nil, by simp, _, [], [], [], [], [], rfl, rfl, rfl, rfl, ⟨rdV_int.2 ⟨rfl, cmpF_in64 (by omega) (by omega) (by omega) (by omega) (hle hf) (hle hg)⟩, rfl, rfl⟩, rfl, rfl, rfl⟩
end Go.Proofs.YtkdkikmhlhcndaaGreat
