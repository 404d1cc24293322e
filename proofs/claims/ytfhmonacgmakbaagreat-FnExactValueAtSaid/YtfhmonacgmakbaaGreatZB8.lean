/- Lemmas (8). -/
import Derived.BigQuiet
import Derived.Ground.SlsfProg
import Derived.Shelf.SlSortCmp.NoneTotal
import Derived.Shelf.SlSortCmp.WholeK
import Derived.Test.YtfhmonacgmakbaaGreatZB0
import Derived.Test.YtfhmonacgmakbaaGreatZB1
import Derived.Test.YtfhmonacgmakbaaGreatZB4
import Derived.Test.YtfhmonacgmakbaaGreatZB5
import Derived.Test.YtfhmonacgmakbaaGreatZB6
import Derived.Test.YtfhmonacgmakbaaGreatZB7
set_option linter.unusedSimpArgs false
set_option linter.unusedVariables false
namespace Go.Proofs.YtfhmonacgmakbaaGreat
open Go.RowKit
theorem a_l03Before (xs ys : List Int) : AFn Tryz.prog 100 [eL xs, eL ys] (· = [.val (.bool (decide (cmpT xs ys < 0)))]) :=
  AFn.of_q (v := .bool _) (enters_of Tryz.func100 rfl rfl) (fun _ _ => rdV_bool.2 rfl) (fun w A vs ⟨v1, _, e1, h1, v2, _, e2, h2, e3⟩ => by subst e3; subst e2; subst e1; exact c_spec_l03Before v1 v2 xs ys w (Rd.of (rd1 h1)) (Rd.of (rd1 h2)))
theorem a_l01Same (xs ys : List Int) : AFn Tryz.prog 103 [eL xs, eL ys] (· = [.val (.bool (decide (xs = ys)))]) :=
  AFn.of_q (v := .bool _) (enters_of Tryz.func103 rfl rfl) (fun _ _ => rdV_bool.2 rfl) (fun w A vs ⟨v1, _, e1, h1, v2, _, e2, h2, e3⟩ => by subst e3; subst e2; subst e1; exact c_spec_l01Same v1 v2 xs ys w (Rd.of (rd1 h1)) (Rd.of (rd1 h2)))
theorem a_l01Own (xs : List Int) (hsz : xs.length ≤ 1000000000) : AFn Tryz.prog 155 [eL xs] (· = [.own 1 (xs.map eI) true]) :=
  AFn.of_o encI (enters_of Tryz.func155 rfl rfl) (fun w A vs ⟨v1, _, e1, h1, e2⟩ => by subst e2; subst e1; exact c_spec_l01Own v1 xs w (Rd.of (rd1 h1)) hsz)
theorem getD_in {t : List Int} {i : Nat} (h : i < t.length) : t.getD i 0 = t[i] := by simp [h]
theorem cmpT_in64 {xs ys : List Int} (h1 : xs.length ≤ maxLen) (h2 : ys.length ≤ maxLen) : In64 (cmpT xs ys) := by
  unfold maxLen at h1 h2
  unfold cmpT In64
  have := cmpL_range ys xs
  split <;> omega
theorem a_compareTrees (xs ys : List Int) : AFn Tryz.prog 107 [eL xs, eL ys] (· = [.val (.int (cmpT xs ys))]) := by
  refine ⟨enters_of Tryz.func107 rfl rfl, fun A w vs hA ⟨v1, _, e1, h1, v2, _, e2, h2, e3⟩ => ?_⟩
  subst e3; subst e2; subst e1
  obtain ⟨oa, c1, k1, m1, m2⟩ := (Rd.of (rd1 h1)).val
  obtain ⟨ob, c2, k2, m3, m4⟩ := (Rd.of (rd1 h2)).val
  refine (c_impl_compareTrees v1 v2 xs ys w (Rd.of (rd1 h1)) (Rd.of (rd1 h2))).mono ?_
  rintro e w' ⟨rfl, rfl⟩
  exact ⟨_, _, rfl, rfl, Below.refl _ _, [_], [], [], rfl, List.nodup_nil, by simp, _, [], [], [], [], [], rfl, rfl, rfl, rfl, ⟨rdV_int.2 ⟨rfl, cmpT_in64 (by omega) (by omega)⟩, rfl, rfl⟩, rfl, rfl, rfl⟩
theorem a_impl_IsLevels (t : List Int) : AFn Tryz.prog 70 [eL t] (· = [.val (.bool (lev8 t))]) := afn_L_s (v := .bool _) (enters_of Tryz.func70 rfl rfl) (fun _ _ => rdV_bool.2 rfl) (fun u w h => c_impl_IsLevels u t w h)
theorem a_spec_l03Is (t : List Int) (hsz : t.length ≤ 1048576) : AFn Tryz.prog 150 [eL t] (· = [.val (.bool (lev8 t))]) := afn_L_q (v := .bool _) (enters_of Tryz.func150 rfl rfl) (fun _ _ => rdV_bool.2 rfl) (fun u w h => c_spec_l03Is u t w h (by omega))
theorem a_slicesEqual (xs ys : List Int) : AFn Tryz.prog 153 [eL xs, eL ys] (· = [.val (.bool (decide (xs = ys)))]) := afn_LL_q (v := .bool _) (enters_of Tryz.func153 rfl rfl) (fun _ _ => rdV_bool.2 rfl) (fun u1 u2 w h1 h2 => c_slicesEqual u1 u2 xs ys w h1 h2)
theorem a_l03Canon (t : List Int) (h : LevP t) (hl : t.length ≤ 8) : AFn Tryz.prog 149 [eL t] (· = [.own 1 ((canon t).map eI) true]) :=
  afn_L_o (enters_of Tryz.func149 rfl rfl) (fun u w h' => c_spec_l03Canon 8 u t w h' h hl (by omega))
theorem a_canonical (t : List Int) (h : LevP t) (hl : t.length ≤ 8) : AFn Tryz.prog 71 [eL t] (· = [.own 1 ((canon t).map eI) true]) :=
  afn_L_o (enters_of Tryz.func71 rfl rfl) (fun u w h' => c_impl_canonical 8 u t w h' h hl (by omega))
theorem nodesB_in64 (f : List (List Int)) : In64 (nodesB f) := by
  have : ∀ (bs : List (List Int)) (a : Int), In64 a → In64 (bs.foldl (fun a b => wrap64 (a + (b.length : Int))) a) := by
    intro bs
    induction bs with
    | nil => intro a h; exact h
    | cons b bs ih => intro a _; exact ih _ (by show In64 (wrap64 (a + (b.length : Int))); unfold In64 wrap64; omega)
  exact this f 0 (by unfold In64; omega)
theorem a_nodesIn (f : List (List Int)) : AFn Tryz.prog 105 [eLL f] (· = [.val (.int (nodesB f))]) :=
  afn_LLL_s (enters_of Tryz.func105 rfl rfl) (fun _ _ => rdV_int.2 ⟨rfl, nodesB_in64 f⟩) (fun u w h => c_impl_nodesIn u f w h)
theorem a_l03Nodes (f : List (List Int)) : AFn Tryz.prog 101 [eLL f] (· = [.val (.int (nodesB f))]) :=
  afn_LLL_s (enters_of Tryz.func101 rfl rfl) (fun _ _ => rdV_int.2 ⟨rfl, nodesB_in64 f⟩) (fun u w h => c_spec_l03Nodes u f w h)
end Go.Proofs.YtfhmonacgmakbaaGreat
namespace Go.Proofs.YtfhmonacgmakbaaGreat
open Go.RowKit
theorem AFn.val1 {P : Program} {f : FuncId} {ds : List (List D)} {k : Nat} {xs : List (List D)} (h : AFn P f ds (· = [.own k xs false])) : AFn P f ds (· = [.val (.sl k xs)]) := by
  refine ⟨h.call, fun A w vs hA hr => (h.fn A w vs hA hr).mono ?_⟩
  rintro e w' ⟨v, rs, rfl, rfl, hb, us, G, X, rfl, hG1, hG2, v1, us1, G1, G2, Y1, Y2, rfl, rfl, rfl, ho, ⟨og, cap, F, dd, rfl, hrow, hk, rfl, rfl, hel⟩, rfl, rfl, rfl⟩
  refine ⟨_, _, rfl, rfl, hb, [_], [], [], rfl, List.nodup_nil, (fun b hb => nomatch hb), _, [], [], [], [], [], rfl, rfl, rfl, ho, ⟨?_, rfl, rfl⟩, rfl, rfl, rfl⟩
  have hel : rdR k (fun b => (A b ∨ w.heap.size ≤ b) ∧ b ∉ og.toList ++ []) w' dd xs := hel
  obtain ⟨oa, c, e, h1, h2, h3, h4⟩ := slv_len hrow
  refine rdV_sl.2 ⟨oa, c, dd, e, h1, h2, h3, hel.mono (fun b hb _ => ⟨hb.1, by simp⟩), ?_⟩
  cases og with
  | none =>
    left
    have := hrow.len0
    exact List.eq_nil_of_length_eq_zero (by rw [hrow.1, this, Nat.zero_mul])
  | some g =>
    refine .inr ⟨g, 0, h4, ⟨.inr (hG2 g (by simp)), by simp⟩, fun j u hj => ?_⟩
    rw [Nat.zero_add]
    exact hrow.cells j u hj
def SmF (f : List (List Int)) : Prop := f.length ≤ 19 ∧ sumLen f ≤ 100
instance (f : List (List Int)) : Decidable (SmF f) := inferInstanceAs (Decidable (_ ∧ _))
theorem SmF.b {f : List (List Int)} (h : SmF f) : ∀ b ∈ f, b.length ≤ 1000 := fun b hb => by have := sumLen_mem hb; have := h.2; omega
theorem AFn.valT {P : Program} {f : FuncId} {ds : List (List D)} {k : Nat} {xs : List (List D)} (h : AFn P f ds (· = [.own k xs true])) : AFn P f ds (· = [.val (.sl k xs)]) := by
  refine ⟨h.call, fun A w vs hA hr => (h.fn A w vs hA hr).mono ?_⟩
  rintro e w' ⟨v, rs, rfl, rfl, hb, us, G, X, rfl, hG1, hG2, v1, us1, G1, G2, Y1, Y2, rfl, rfl, rfl, ho, ⟨og, cap, F, dd, rfl, hrow, hk, rfl, rfl, hel⟩, rfl, rfl, rfl⟩
  refine ⟨_, _, rfl, rfl, hb, [_], [], [], rfl, List.nodup_nil, (fun b hb => nomatch hb), _, [], [], [], [], [], rfl, rfl, rfl, ho, ⟨?_, rfl, rfl⟩, rfl, rfl, rfl⟩
  have hel : ownR k w' dd xs F := hel
  have hv := ownV_sl.2 ⟨og, dd, F, hrow, hel, rfl⟩
  exact hv.rd.mono (fun b hb _ => ⟨.inr (hG2 b (by simpa using hb)), by simp⟩)
theorem a_forestOf (f : List (List Int)) (hl : f.length ≤ 19) (hs : sumLen f ≤ 1000000000) : AFn Tryz.prog 135 [eLL f] (· = [.own 1 ((forest f).map eL) true]) :=
  afn_LLL_oo (enters_of Tryz.func135 rfl rfl) (fun u w h => c_impl_forestOf u f w h hl (fun b hb => Nat.le_trans (sumLen_mem hb) hs))
theorem a_canonical13 (t : List Int) (h : LevP t) (hl : t.length ≤ 13) : AFn Tryz.prog 71 [eL t] (· = [.own 1 ((canon t).map eI) true]) :=
  afn_L_o (enters_of Tryz.func71 rfl rfl) (fun u w h' => c_impl_canonical 13 u t w h' h hl (by omega))
theorem a_rootOn (f : List (List Int)) (hs : Small f) (hsz : sumLen f ≤ 1000000000) : AFn Tryz.prog 119 [eLL f] (· = [.own 1 ((rootOn f).map eI) true]) :=
  afn_LLL_o (enters_of Tryz.func119 rfl rfl) (fun u w h => c_impl_rootOn u f w h hs hsz)
end Go.Proofs.YtfhmonacgmakbaaGreat
namespace Go.Proofs.YtfhmonacgmakbaaGreat
open Go.RowKit
theorem lexC_step {α : Type} {c : α → α → Int} {f g : List α} {k : Nat} (h1 : k < f.length) (h2 : k < g.length) : lexC c (f.drop k) (g.drop k) = if c f[k] g[k] = 0 then lexC c (f.drop (k + 1)) (g.drop (k + 1)) else c f[k] g[k] := by
  rw [List.drop_eq_getElem_cons h1, List.drop_eq_getElem_cons h2]; rfl
theorem lexC_endL {α : Type} {c : α → α → Int} {f g : List α} {k : Nat} (h1 : ¬ k < f.length) (h2 : k < g.length) : lexC c (f.drop k) (g.drop k) = -1 := by
  rw [List.drop_eq_nil_of_le (Nat.not_lt.1 h1), List.drop_eq_getElem_cons h2]; rfl
theorem lexC_endR {α : Type} {c : α → α → Int} {f g : List α} {k : Nat} (h1 : k < f.length) (h2 : ¬ k < g.length) : lexC c (f.drop k) (g.drop k) = 1 := by
  rw [List.drop_eq_getElem_cons h1, List.drop_eq_nil_of_le (Nat.not_lt.1 h2)]; rfl
theorem lexC_end0 {α : Type} {c : α → α → Int} {f g : List α} {k : Nat} (h1 : ¬ k < f.length) (h2 : ¬ k < g.length) : lexC c (f.drop k) (g.drop k) = 0 := by
  rw [List.drop_eq_nil_of_le (Nat.not_lt.1 h1), List.drop_eq_nil_of_le (Nat.not_lt.1 h2)]; rfl
set_option maxRecDepth 100000 in
set_option maxHeartbeats 2000000 in
theorem c_CompareFunc (v1 v2 : Value) (f g : List (List Int)) (w : World) (h1 : Rd (RS (RS RI)) w [v1] f) (h2 : Rd (RS (RS RI)) w [v2] g) :
    Calls Tryz.prog 177 #[v1, v2, .func (.func 107) #[] #[]] w (RetS w (.int .i64 (lexC cmpT f g))) := by
  obtain ⟨oa, ca, L1⟩ := h1.lists
  obtain ⟨ob, cb, L2⟩ := h2.lists
  obtain rfl := L1.val
  obtain rfl := L2.val
  have m1 := L1.le; have m2 := L1.capLe; have m3 := L2.le; have m4 := L2.capLe
  unfold maxLen at m2 m4
  have HL1 := Lib.hid L1
  have HL2 := Lib.hid L2
  clear L1 L2 h1 h2
  go_enter Tryz.func177, Tryz.ntmps177
  go_wp2_with fail
  go_loop [13] (fun i => ∃ k : Nat, k ≤ f.length ∧ k ≤ g.length ∧ i = .int .i64 k ∧ lexC cmpT f g = lexC cmpT (f.drop k) (g.drop k)) (fun i => f.length - (intOf i).toNat)
  case atStart => exact ⟨0, Nat.zero_le _, Nat.zero_le _, rfl, by simp⟩
  case round =>
    obtain ⟨k, hk, hk2, rfl, he⟩ := hrel
    have He := Lib.hid he
    clear he
    by_cases hlt : k < f.length
    · obtain ⟨b1, o1, rfl, hb1, hc1⟩ := HL1.out.get hlt
      obtain ⟨oi, ci, g1, hrd1, q1, q2⟩ := hc1 k hlt
      clear hc1
      by_cases hlt2 : k < g.length
      · obtain ⟨b2, o2, rfl, hb2, hc2⟩ := HL2.out.get hlt2
        obtain ⟨oj, cj, g2, hrd2, q3, q4⟩ := hc2 k hlt2
        clear hc2
        have hs := lexC_step (c := cmpT) hlt hlt2
        by_cases h0 : cmpT f[k] g[k] = 0
        · rw [if_pos h0] at hs
          have hcall := c_impl_compareTrees _ _ _ _ w hrd1 hrd2
          rw [h0] at hcall
          have HC := Lib.hid hcall
          have Hs := Lib.hid hs
          obtain ⟨x1, hx1⟩ : ∃ x, x = f[k].length := ⟨_, rfl⟩
          obtain ⟨x2, hx2⟩ : ∃ x, x = g[k].length := ⟨_, rfl⟩
          rw [← hx1] at g1 q1 HC
          rw [← hx2] at g2 q3 HC
          clear hs h0 hcall hrd1 hrd2 hx1 hx2
          go_wp2_with (go_at_call 107; refine HC.out.mono ?_; rintro e w' ⟨rfl, rfl⟩)
          go_round
          case rel => exact ⟨k + 1, by omega, by omega, by go_num, by rw [He.out, Hs.out]⟩
          case measure => simp [intOf]; omega
        · rw [if_neg h0] at hs
          have hcall := c_impl_compareTrees _ _ _ _ w hrd1 hrd2
          have hb : (cmpT f[k] g[k] != 0) = true := by simp [h0]
          obtain ⟨z, hz⟩ : ∃ z, z = cmpT f[k] g[k] := ⟨_, rfl⟩
          rw [← hz] at hcall hb hs
          have HC := Lib.hid hcall
          have Hs := Lib.hid hs
          obtain ⟨x1, hx1⟩ : ∃ x, x = f[k].length := ⟨_, rfl⟩
          obtain ⟨x2, hx2⟩ : ∃ x, x = g[k].length := ⟨_, rfl⟩
          rw [← hx1] at g1 q1 HC
          rw [← hx2] at g2 q3 HC
          clear hs h0 hcall hrd1 hrd2 hx1 hx2 hz
          go_wp2_with (go_at_call 107; refine HC.out.mono ?_; rintro e w' ⟨rfl, rfl⟩)
          go_ret
          exact ⟨by (rw [He.out, Hs.out] <;> rfl), rfl⟩
      · have HE := Lib.hid (lexC_endR (c := cmpT) hlt hlt2)
        go_wp2_with fail
        go_ret
        exact ⟨by (rw [He.out, HE.out] <;> rfl), rfl⟩
    · by_cases hlt2 : k < g.length
      · have HE := Lib.hid (lexC_endL (c := cmpT) hlt hlt2)
        go_wp2_with fail
        go_ret
        exact ⟨by (rw [He.out, HE.out] <;> rfl), rfl⟩
      · have HE := Lib.hid (lexC_end0 (c := cmpT) hlt hlt2)
        go_wp2_with fail
        go_ret
        exact ⟨by (rw [He.out, HE.out] <;> rfl), rfl⟩
set_option maxRecDepth 100000 in
set_option maxHeartbeats 400000 in
theorem c_compareTrunks (v1 v2 : Value) (f g : List (List Int)) (w : World) (h1 : Rd (RS (RS RI)) w [v1] f) (h2 : Rd (RS (RS RI)) w [v2] g) :
    Calls Tryz.prog 137 #[v1, v2] w (RetS w (.int .i64 (cmpN f g))) := by
  obtain ⟨oa, c1, e1, m1, m2⟩ := h1.val
  obtain ⟨ob, c2, e2, m3, m4⟩ := h2.val
  subst e1; subst e2
  unfold maxLen at m2 m4
  rw [cmpN_eq]
  by_cases hl : f.length = g.length
  · have hlb : ((f.length : Int) != (g.length : Int)) = false := by simp [hl]
    have hcall := c_CompareFunc _ _ _ _ w h1 h2
    rw [if_pos (by rw [hl])]
    have HC := Lib.hid hcall
    clear hl hcall h1 h2
    go_enter Tryz.func137, Tryz.ntmps137
    go_wp2_with (go_at_call 177; refine HC.out.mono ?_; rintro e w' ⟨rfl, rfl⟩)
    go_ret
    exact ⟨rfl, rfl⟩
  · have hlb : ((f.length : Int) != (g.length : Int)) = true := by simp; omega
    have hw : IntKind.i64.wrap ((f.length : Int) - (g.length : Int)) = (f.length : Int) - (g.length : Int) := IntWalk.i64_in _ (by omega)
    rw [if_neg (by omega)]
    clear h1 h2
    go_enter Tryz.func137, Tryz.ntmps137
    go_wp2_with fail
    go_ret
    exact ⟨rfl, rfl⟩
set_option maxRecDepth 100000 in
set_option maxHeartbeats 400000 in
theorem c_compareForests (v1 v2 : Value) (f g : List (List Int)) (w : World) (h1 : Rd (RS (RS RI)) w [v1] f) (h2 : Rd (RS (RS RI)) w [v2] g) (hf : sumLen f ≤ 1000000000000000000) (hg : sumLen g ≤ 1000000000000000000) :
    Calls Tryz.prog 87 #[v1, v2] w (RetS w (.int .i64 (cmpF f g))) := by
  have hn1 := c_impl_nodesIn _ _ w h1
  have hn2 := c_impl_nodesIn _ _ w h2
  rw [nodesB_eq f hf] at hn1
  rw [nodesB_eq g hg] at hn2
  have ht := c_compareTrunks _ _ _ _ w h1 h2
  rw [cmpF_N]
  obtain ⟨p, hp⟩ : ∃ p, p = sumLen f := ⟨_, rfl⟩
  obtain ⟨q, hq⟩ : ∃ q, q = sumLen g := ⟨_, rfl⟩
  rw [← hp] at hf hn1 ⊢
  rw [← hq] at hg hn2 ⊢
  have hw : IntKind.i64.wrap ((p : Int) - (q : Int)) = (p : Int) - (q : Int) := IntWalk.i64_in _ (by omega)
  obtain ⟨Rl, hR⟩ : ∃ R : Value → Int → Prop, ∀ v n, R v n ↔ Calls Tryz.prog 105 #[v] w (RetS w (.int .i64 n)) := ⟨_, fun _ _ => Iff.rfl⟩
  have r1 : Rl v1 p := (hR _ _).2 hn1
  have r2 : Rl v2 q := (hR _ _).2 hn2
  have HN : Hid (∀ v n, Rl v n → Calls Tryz.prog 105 #[v] w (RetS w (.int .i64 n))) := Lib.hid (fun v n => (hR v n).1)
  have H3 := Lib.hid ht
  clear hp hq h1 h2 hn1 hn2 ht hR
  by_cases hl : (p : Int) = q
  · have hlb : (((p : Int) - (q : Int)) != 0) = false := by rw [hl]; simp
    rw [if_pos hl]
    clear hl
    go_enter Tryz.func87, Tryz.ntmps87
    go_wp2_with (first | (go_at_call 105; refine (HN.out _ _ (by assumption)).mono ?_; rintro e w' ⟨rfl, rfl⟩) | (go_at_call 137; refine H3.out.mono ?_; rintro e w' ⟨rfl, rfl⟩))
    go_ret
    exact ⟨rfl, rfl⟩
  · have hlb : (((p : Int) - (q : Int)) != 0) = true := by simp; omega
    rw [if_neg hl]
    clear hl
    go_enter Tryz.func87, Tryz.ntmps87
    go_wp2_with (go_at_call 105; refine (HN.out _ _ (by assumption)).mono ?_; rintro e w' ⟨rfl, rfl⟩)
    go_ret
    exact ⟨rfl, rfl⟩
theorem lexC_in64 : ∀ (f g : List (List Int)), (∀ t ∈ f, t.length ≤ maxLen) → (∀ t ∈ g, t.length ≤ maxLen) → In64 (lexC cmpT f g) := by
  intro f
  induction f with
  | nil => intro g _ _; cases g <;> (unfold lexC In64; omega)
  | cons x xs ih => intro g h3 h4; cases g with
    | nil => unfold lexC In64; omega
    | cons y bs =>
      unfold lexC
      split
      · exact ih bs (fun t ht => h3 t (by simp [ht])) (fun t ht => h4 t (by simp [ht]))
      · exact cmpT_in64 (h3 x (by simp)) (h4 y (by simp))
theorem cmpF_in64 {f g : List (List Int)} (hf : sumLen f ≤ 1000000000000000000) (hg : sumLen g ≤ 1000000000000000000) (h1 : f.length ≤ maxLen) (h2 : g.length ≤ maxLen) (h3 : ∀ t ∈ f, t.length ≤ maxLen) (h4 : ∀ t ∈ g, t.length ≤ maxLen) : In64 (cmpF f g) := by
  rw [cmpF_N, cmpN_eq]
  unfold maxLen at h1 h2
  split
  · split
    · exact lexC_in64 f g h3 h4
    · unfold In64; omega
  · unfold In64; omega
end Go.Proofs.YtfhmonacgmakbaaGreat
namespace Go.Proofs.YtfhmonacgmakbaaGreat
open Go.RowKit
theorem a_impl_IsTree (t : List Int) : AFn Tryz.prog 106 [eL t] (· = [.val (.bool (canT t))]) := by
  have h1 := a_impl_IsLevels t
  unfold canT
  cases h8 : lev8 t
  · rw [h8] at h1
    rw [Bool.false_and]
    refine AFn.of_runs (cfg_ok 11) Tryz.func106 rfl rfl rfl (by simp only [List.length_cons, List.length_nil]; decide) ?_
    have hres : Tryz.f106.results.toList = [.tmp 2] := rfl
    have hrts : Tryz.f106.resultTypes.toList = [4] := rfl
    simp only [argRegs, argAV1, eL, eI, eLL, eB, Nat.zero_add, Nat.reduceAdd]
    intro M
    refine RunK.of ?_
    repeat' (first | with_reducible (first | refine Q1 ?_ | refine Q2 ?_ | refine Q3 ?_ | refine Q4 ?_ | refine Q5 ?_ | refine Q6 ?_ | refine Q7 ?_ | refine Q8 ?_ | refine Q9 ?_ | refine Qa ?_ | refine Qb ?_ | refine Qc ?_ | refine Qd ?_ | refine Qe ?_ | refine Qf ?_) | ((with_reducible refine Qo ?_ ?_); focus rfl) | ((with_reducible first | refine QT 3 (l := ?_) ?_ ?_ | refine QF 3 (l := ?_) ?_ ?_); rotate_left 1; focus (simp only [Zu, Nat.reduceSub, Nat.reduceBEq]; with_reducible rfl)) | ((with_reducible first | refine QS (cfg_ok 11) (Tab.none.at' 70 h1) (s' := ?_) ?_ ?_ | refine QC (b := ?_) ?_ ?_); rotate_left 1; focus ((with_reducible refine QW ?_); simp only [Zg, seval, if_true, if_false, reduceCtorEq, Nat.reduceEqDiff, eL]; with_reducible rfl)))
    (refine Ends.mk (by simp) (rs := ?_) (ks := ?_) hres hrts ?_ ?_ ?_; rotate_left 2; (focus (simp only [Ze, Zg, seval, if_true, if_false, reduceCtorEq, Nat.reduceEqDiff]; with_reducible rfl)); (focus simp); focus (first | with_reducible rfl | (simp only [Zv]; done)))
  · rw [h8] at h1
    rw [Bool.true_and]
    have h2 := a_canonical t (lev8_lev h8) (lev8_len h8)
    have h3 := a_slicesEqual (canon t) t
    refine AFn.of_runs (cfg_ok 11) Tryz.func106 rfl rfl rfl (by simp only [List.length_cons, List.length_nil]; decide) ?_
    have hres : Tryz.f106.results.toList = [.tmp 2] := rfl
    have hrts : Tryz.f106.resultTypes.toList = [4] := rfl
    simp only [argRegs, argAV1, eL, eI, eLL, eB, Nat.zero_add, Nat.reduceAdd]
    intro M
    refine RunK.of ?_
    repeat' (first | with_reducible (first | refine Q1 ?_ | refine Q2 ?_ | refine Q3 ?_ | refine Q4 ?_ | refine Q5 ?_ | refine Q6 ?_ | refine Q7 ?_ | refine Q8 ?_ | refine Q9 ?_ | refine Qa ?_ | refine Qb ?_ | refine Qc ?_ | refine Qd ?_ | refine Qe ?_ | refine Qf ?_) | ((with_reducible refine Qo ?_ ?_); focus rfl) | ((with_reducible first | refine QT 3 (l := ?_) ?_ ?_ | refine QF 3 (l := ?_) ?_ ?_); rotate_left 1; focus (simp only [Zu, Nat.reduceSub, Nat.reduceBEq]; with_reducible rfl)) | ((with_reducible first | refine QS (cfg_ok 11) (((Tab.none.at' 70 h1).at' 71 h2).at' 153 h3) (s' := ?_) ?_ ?_ | refine QC (b := ?_) ?_ ?_); rotate_left 1; focus ((with_reducible refine QW ?_); simp only [Zg, seval, if_true, if_false, reduceCtorEq, Nat.reduceEqDiff, eL]; with_reducible rfl)))
    (refine Ends.mk (by simp) (rs := ?_) (ks := ?_) hres hrts ?_ ?_ ?_; rotate_left 2; (focus (simp only [Ze, Zg, seval, if_true, if_false, reduceCtorEq, Nat.reduceEqDiff]; with_reducible rfl)); (focus simp); focus (first | with_reducible rfl | (simp only [Zv]; done)))
theorem a_spec_IsTree (t : List Int) (hsz : t.length ≤ 1048576) : AFn Tryz.prog 99 [eL t] (· = [.val (.bool (canT t))]) := by
  have h1 := a_spec_l03Is t hsz
  unfold canT
  cases h8 : lev8 t
  · rw [h8] at h1
    rw [Bool.false_and]
    refine AFn.of_runs (cfg_ok 11) Tryz.func99 rfl rfl rfl (by simp only [List.length_cons, List.length_nil]; decide) ?_
    have hres : Tryz.f99.results.toList = [.tmp 2] := rfl
    have hrts : Tryz.f99.resultTypes.toList = [4] := rfl
    simp only [argRegs, argAV1, eL, eI, eLL, eB, Nat.zero_add, Nat.reduceAdd]
    intro M
    refine RunK.of ?_
    repeat' (first | with_reducible (first | refine Q1 ?_ | refine Q2 ?_ | refine Q3 ?_ | refine Q4 ?_ | refine Q5 ?_ | refine Q6 ?_ | refine Q7 ?_ | refine Q8 ?_ | refine Q9 ?_ | refine Qa ?_ | refine Qb ?_ | refine Qc ?_ | refine Qd ?_ | refine Qe ?_ | refine Qf ?_) | ((with_reducible refine Qo ?_ ?_); focus rfl) | ((with_reducible first | refine QT 3 (l := ?_) ?_ ?_ | refine QF 3 (l := ?_) ?_ ?_); rotate_left 1; focus (simp only [Zu, Nat.reduceSub, Nat.reduceBEq]; with_reducible rfl)) | ((with_reducible first | refine QS (cfg_ok 11) (Tab.none.at' 150 h1) (s' := ?_) ?_ ?_ | refine QC (b := ?_) ?_ ?_); rotate_left 1; focus ((with_reducible refine QW ?_); simp only [Zg, seval, if_true, if_false, reduceCtorEq, Nat.reduceEqDiff, eL]; with_reducible rfl)))
    (refine Ends.mk (by simp) (rs := ?_) (ks := ?_) hres hrts ?_ ?_ ?_; rotate_left 2; (focus (simp only [Ze, Zg, seval, if_true, if_false, reduceCtorEq, Nat.reduceEqDiff]; with_reducible rfl)); (focus simp); focus (first | with_reducible rfl | (simp only [Zv]; done)))
  · rw [h8] at h1
    rw [Bool.true_and]
    have h2 := a_l03Canon t (lev8_lev h8) (lev8_len h8)
    have h3 := a_l01Same (canon t) t
    refine AFn.of_runs (cfg_ok 11) Tryz.func99 rfl rfl rfl (by simp only [List.length_cons, List.length_nil]; decide) ?_
    have hres : Tryz.f99.results.toList = [.tmp 2] := rfl
    have hrts : Tryz.f99.resultTypes.toList = [4] := rfl
    simp only [argRegs, argAV1, eL, eI, eLL, eB, Nat.zero_add, Nat.reduceAdd]
    intro M
    refine RunK.of ?_
    repeat' (first | with_reducible (first | refine Q1 ?_ | refine Q2 ?_ | refine Q3 ?_ | refine Q4 ?_ | refine Q5 ?_ | refine Q6 ?_ | refine Q7 ?_ | refine Q8 ?_ | refine Q9 ?_ | refine Qa ?_ | refine Qb ?_ | refine Qc ?_ | refine Qd ?_ | refine Qe ?_ | refine Qf ?_) | ((with_reducible refine Qo ?_ ?_); focus rfl) | ((with_reducible first | refine QT 3 (l := ?_) ?_ ?_ | refine QF 3 (l := ?_) ?_ ?_); rotate_left 1; focus (simp only [Zu, Nat.reduceSub, Nat.reduceBEq]; with_reducible rfl)) | ((with_reducible first | refine QS (cfg_ok 11) (((Tab.none.at' 150 h1).at' 149 h2).at' 103 h3) (s' := ?_) ?_ ?_ | refine QC (b := ?_) ?_ ?_); rotate_left 1; focus ((with_reducible refine QW ?_); simp only [Zg, seval, if_true, if_false, reduceCtorEq, Nat.reduceEqDiff, eL]; with_reducible rfl)))
    (refine Ends.mk (by simp) (rs := ?_) (ks := ?_) hres hrts ?_ ?_ ?_; rotate_left 2; (focus (simp only [Ze, Zg, seval, if_true, if_false, reduceCtorEq, Nat.reduceEqDiff]; with_reducible rfl)); (focus simp); focus (first | with_reducible rfl | (simp only [Zv]; done)))
noncomputable def TFor : Tab Tryz.prog :=
  ((Tab.none.add 106 (tab1 codL fun t => some [.val (.bool (canT t))]) (tab1_ok fun t rs h => by cases h; exact a_impl_IsTree t)).add
    107 (tab2 codL codL fun xs ys => some [.val (.int (cmpT xs ys))]) (tab2_ok fun xs ys rs h => by cases h; exact a_compareTrees xs ys)).add
    105 (tab1 codLL fun f => some [.val (.int (nodesB f))]) (tab1_ok fun f rs h => by cases h; exact a_nodesIn f)
noncomputable def TForS : Tab Tryz.prog :=
  ((Tab.none.add 99 (tab1 codL fun t => if t.length ≤ 1048576 then some [.val (.bool (canT t))] else none) (tab1_ok fun t rs h => by split at h; cases h; exact a_spec_IsTree t ‹_›; cases h)).add
    100 (tab2 codL codL fun xs ys => some [.val (.bool (decide (cmpT xs ys < 0)))]) (tab2_ok fun xs ys rs h => by cases h; exact a_l03Before xs ys)).add
    101 (tab1 codLL fun f => some [.val (.int (nodesB f))]) (tab1_ok fun f rs h => by cases h; exact a_l03Nodes f)
theorem all_range_succ {n : Nat} {p : Nat → Bool} (h : (List.range n).all p = true) (h2 : p n = true) : (List.range (n + 1)).all p = true :=
  all_range.2 (fun i hi => by
    by_cases e : i = n
    · rw [e]; exact h2
    · exact all_range.1 h i (by omega))
set_option maxHeartbeats 4000000 in
theorem a_impl_IsForest (f : List (List Int)) (hsz : sumLen f ≤ 1000000000) (hln : f.length ≤ 1000000000) : AFn Tryz.prog 52 [eLL f] (· = [.val (.bool (forB f))]) := by
  have hn : nodesB f = sumLen f := nodesB_eq f (by omega)
  refine AFn.of_runs (cfg_ok 33) Tryz.func52 rfl rfl rfl (by simp only [List.length_cons, List.length_nil]; decide) ?_
  have hres : Tryz.f52.results.toList = [.tmp 2] := rfl
  have hrts : Tryz.f52.resultTypes.toList = [4] := rfl
  simp only [argRegs, argAV1, eL, eI, eLL, eB, Nat.zero_add, Nat.reduceAdd]
  intro M
  refine RunK.of ?_
  by_cases h8 : sumLen f ≤ 8
  · have i8 : ((sumLen f : Int) > 8) = False := eq_false (by omega)
    repeat' (first | with_reducible (first | refine Q1 ?_ | refine Q2 ?_ | refine Q3 ?_ | refine Q4 ?_ | refine Q5 ?_ | refine Q6 ?_ | refine Q7 ?_ | refine Q8 ?_ | refine Q9 ?_ | refine Qa ?_ | refine Qb ?_ | refine Qc ?_ | refine Qd ?_ | refine Qe ?_ | refine Qf ?_) | ((with_reducible refine Qo ?_ ?_); focus rfl) | ((with_reducible first | refine QT 11 (l := ?_) ?_ ?_ | refine QF 11 (l := ?_) ?_ ?_); rotate_left 1; focus (simp only [Zu, Nat.reduceSub, Nat.reduceBEq]; with_reducible rfl)) | ((with_reducible first | refine QS (cfg_ok 33) TFor (s' := ?_) ?_ ?_ | refine QC (b := ?_) ?_ ?_); rotate_left 1; focus ((with_reducible refine QW ?_); simp only [Zg, seval, if_true, if_false, reduceCtorEq, Nat.reduceEqDiff, TFor, hn, i8, eL]; with_reducible rfl)))
    refine RunK.loop (β := Nat) (γ := Unit) (fun i => ⟨[(0, .c (.val (.sl 1 (f.map eL)))), (8, .c (.val (.sl 1 (f.map eL)))), (9, .c (.val (.int f.length))), (10, .c (.val (.int i)))], []⟩) (fun i => i ≤ f.length ∧ (List.range i).all (okT f) = true) (fun i => f.length - i)
      (fun _ => ⟨[], []⟩) (fun _ => (List.range f.length).all (okT f) = true) 0 ⟨Nat.zero_le _, rfl⟩ ?_ ?_ ?_
    · (repeat' (first | with_reducible refine Qn | ((with_reducible refine Qr ?_ ?_); focus (first | with_reducible rfl | (simp only [Zz, Nat.reduceBEq]; done) | rfl)) | ((with_reducible refine Qj (o' := ?_) ?_ ?_ ?_); rotate_left 1; focus rfl) | ((with_reducible refine Qw ?_ ?_); (focus (first | with_reducible rfl | (simp only [Zv]; done))); focus (first | exact id | exact (fun h => nomatch h) | exact (fun _ => rfl)))))
    · rintro i ⟨hi, hall⟩
      have hw := w64_succ (n := i) (by omega)
      by_cases h : i < f.length
      · have i1 : ((i : Int) < (f.length : Int)) = True := eq_true (by omega)
        have i2 : ((0 : Int) ≤ (i : Int)) = True := eq_true (by omega)
        obtain ⟨t, ht⟩ : ∃ t, t = f[i] := ⟨_, rfl⟩
        have hg : (f.map eL)[i]? = some [.sl 1 (t.map eI)] := by rw [map_get h, ht]; rfl
        have hgd : f.getD i [] = t := by rw [getD_at h, ht]
        by_cases hc : canT t = true
        · by_cases h0 : i = 0
          · have j1 : ((i : Int) > 0) = False := eq_false (by omega)
            have hok : okT f i = true := by unfold okT; rw [hgd, hc, h0]; rfl
            repeat' (first | with_reducible (first | refine Q1 ?_ | refine Q2 ?_ | refine Q3 ?_ | refine Q4 ?_ | refine Q5 ?_ | refine Q6 ?_ | refine Q7 ?_ | refine Q8 ?_ | refine Q9 ?_ | refine Qa ?_ | refine Qb ?_ | refine Qc ?_ | refine Qd ?_ | refine Qe ?_ | refine Qf ?_) | ((with_reducible refine Qo ?_ ?_); focus rfl) | ((with_reducible first | refine QT 11 (l := ?_) ?_ ?_ | refine QF 11 (l := ?_) ?_ ?_); rotate_left 1; focus (simp only [Zu, Nat.reduceSub, Nat.reduceBEq]; with_reducible rfl)) | ((with_reducible first | refine QS (cfg_ok 33) TFor (s' := ?_) ?_ ?_ | refine QC (b := ?_) ?_ ?_); rotate_left 1; focus ((with_reducible refine QW ?_); simp only [Zg, seval, if_true, if_false, reduceCtorEq, Nat.reduceEqDiff, TFor, i1, i2, hg, hw, hc, j1, Int.toNat_natCast, List.length_map]; with_reducible rfl)))
            refine roundK.on (i + 1) ⟨⟨h, all_range_succ hall hok⟩, by omega⟩ ?_
            (repeat' (first | with_reducible refine Qn | ((with_reducible refine Qr ?_ ?_); focus (first | with_reducible rfl | (simp only [Zz, Nat.reduceBEq]; done) | rfl)) | ((with_reducible refine Qj (o' := ?_) ?_ ?_ ?_); rotate_left 1; focus rfl) | ((with_reducible refine Qw ?_ ?_); (focus (first | with_reducible rfl | (simp only [Zv]; done))); focus (first | exact id | exact (fun h => nomatch h) | exact (fun _ => rfl)))))
          · have j1 : ((i : Int) > 0) = True := eq_true (by omega)
            have hw1 : w64 ((i : Int) - 1) = ((i - 1 : Nat) : Int) := by rw [w64_eq (by omega)]; omega
            have i3 : ((0 : Int) ≤ ((i - 1 : Nat) : Int)) = True := eq_true (by omega)
            have i4 : (((i - 1 : Nat) : Int) < (f.length : Int)) = True := eq_true (by omega)
            obtain ⟨s, hs⟩ : ∃ s, s = f[i - 1] := ⟨_, rfl⟩
            have hgs : (f.map eL)[i - 1]? = some [.sl 1 (s.map eI)] := by rw [map_get (by omega), hs]; rfl
            have hgds : f.getD (i - 1) [] = s := by rw [getD_at (by omega), hs]
            by_cases hk : cmpT s t > 0
            · have hok : okT f i = false := by unfold okT; rw [hgd, hgds, hc, decide_eq_false h0, decide_eq_false (by omega)]; rfl
              have hB : forB f = false := by unfold forB; rw [all_range_no h hok, Bool.and_false]
              have k1 : (cmpT s t > 0) = True := eq_true hk
              rw [hB]
              repeat' (first | with_reducible (first | refine Q1 ?_ | refine Q2 ?_ | refine Q3 ?_ | refine Q4 ?_ | refine Q5 ?_ | refine Q6 ?_ | refine Q7 ?_ | refine Q8 ?_ | refine Q9 ?_ | refine Qa ?_ | refine Qb ?_ | refine Qc ?_ | refine Qd ?_ | refine Qe ?_ | refine Qf ?_) | ((with_reducible refine Qo ?_ ?_); focus rfl) | ((with_reducible first | refine QT 11 (l := ?_) ?_ ?_ | refine QF 11 (l := ?_) ?_ ?_); rotate_left 1; focus (simp only [Zu, Nat.reduceSub, Nat.reduceBEq]; with_reducible rfl)) | ((with_reducible first | refine QS (cfg_ok 33) TFor (s' := ?_) ?_ ?_ | refine QC (b := ?_) ?_ ?_); rotate_left 1; focus ((with_reducible refine QW ?_); simp only [Zg, seval, if_true, if_false, reduceCtorEq, Nat.reduceEqDiff, TFor, i1, i2, i3, i4, hg, hgs, hw, hw1, hc, j1, k1, Int.toNat_natCast, List.length_map]; with_reducible rfl)))
              refine roundK.ret ?_
              repeat' (first | with_reducible (first | refine Q1 ?_ | refine Q2 ?_ | refine Q3 ?_ | refine Q4 ?_ | refine Q5 ?_ | refine Q6 ?_ | refine Q7 ?_ | refine Q8 ?_ | refine Q9 ?_ | refine Qa ?_ | refine Qb ?_ | refine Qc ?_ | refine Qd ?_ | refine Qe ?_ | refine Qf ?_) | ((with_reducible refine Qo ?_ ?_); focus rfl) | ((with_reducible first | refine QT 11 (l := ?_) ?_ ?_ | refine QF 11 (l := ?_) ?_ ?_); rotate_left 1; focus (simp only [Zu, Nat.reduceSub, Nat.reduceBEq]; with_reducible rfl)) | ((with_reducible first | refine QS (cfg_ok 33) TFor (s' := ?_) ?_ ?_ | refine QC (b := ?_) ?_ ?_); rotate_left 1; focus ((with_reducible refine QW ?_); simp only [Zg, seval, if_true, if_false, reduceCtorEq, Nat.reduceEqDiff, TFor]; with_reducible rfl)))
              (refine Ends.mk (by simp) (rs := ?_) (ks := ?_) hres hrts ?_ ?_ ?_; rotate_left 2; (focus (simp only [Ze, Zg, seval, if_true, if_false, reduceCtorEq, Nat.reduceEqDiff]; with_reducible rfl)); (focus simp); focus (first | with_reducible rfl | (simp only [Zv]; done)))
            · have hok : okT f i = true := by unfold okT; rw [hgd, hgds, hc, decide_eq_true (show cmpT s t ≤ 0 by omega), Bool.or_true]; rfl
              have k1 : (cmpT s t > 0) = False := eq_false hk
              repeat' (first | with_reducible (first | refine Q1 ?_ | refine Q2 ?_ | refine Q3 ?_ | refine Q4 ?_ | refine Q5 ?_ | refine Q6 ?_ | refine Q7 ?_ | refine Q8 ?_ | refine Q9 ?_ | refine Qa ?_ | refine Qb ?_ | refine Qc ?_ | refine Qd ?_ | refine Qe ?_ | refine Qf ?_) | ((with_reducible refine Qo ?_ ?_); focus rfl) | ((with_reducible first | refine QT 11 (l := ?_) ?_ ?_ | refine QF 11 (l := ?_) ?_ ?_); rotate_left 1; focus (simp only [Zu, Nat.reduceSub, Nat.reduceBEq]; with_reducible rfl)) | ((with_reducible first | refine QS (cfg_ok 33) TFor (s' := ?_) ?_ ?_ | refine QC (b := ?_) ?_ ?_); rotate_left 1; focus ((with_reducible refine QW ?_); simp only [Zg, seval, if_true, if_false, reduceCtorEq, Nat.reduceEqDiff, TFor, i1, i2, i3, i4, hg, hgs, hw, hw1, hc, j1, k1, Int.toNat_natCast, List.length_map]; with_reducible rfl)))
              refine roundK.on (i + 1) ⟨⟨h, all_range_succ hall hok⟩, by omega⟩ ?_
              (repeat' (first | with_reducible refine Qn | ((with_reducible refine Qr ?_ ?_); focus (first | with_reducible rfl | (simp only [Zz, Nat.reduceBEq]; done) | rfl)) | ((with_reducible refine Qj (o' := ?_) ?_ ?_ ?_); rotate_left 1; focus rfl) | ((with_reducible refine Qw ?_ ?_); (focus (first | with_reducible rfl | (simp only [Zv]; done))); focus (first | exact id | exact (fun h => nomatch h) | exact (fun _ => rfl)))))
        · have hc : canT t = false := by simpa using hc
          have hok : okT f i = false := by unfold okT; rw [hgd, hc, Bool.false_and]
          have hB : forB f = false := by unfold forB; rw [all_range_no h hok, Bool.and_false]
          rw [hB]
          repeat' (first | with_reducible (first | refine Q1 ?_ | refine Q2 ?_ | refine Q3 ?_ | refine Q4 ?_ | refine Q5 ?_ | refine Q6 ?_ | refine Q7 ?_ | refine Q8 ?_ | refine Q9 ?_ | refine Qa ?_ | refine Qb ?_ | refine Qc ?_ | refine Qd ?_ | refine Qe ?_ | refine Qf ?_) | ((with_reducible refine Qo ?_ ?_); focus rfl) | ((with_reducible first | refine QT 11 (l := ?_) ?_ ?_ | refine QF 11 (l := ?_) ?_ ?_); rotate_left 1; focus (simp only [Zu, Nat.reduceSub, Nat.reduceBEq]; with_reducible rfl)) | ((with_reducible first | refine QS (cfg_ok 33) TFor (s' := ?_) ?_ ?_ | refine QC (b := ?_) ?_ ?_); rotate_left 1; focus ((with_reducible refine QW ?_); simp only [Zg, seval, if_true, if_false, reduceCtorEq, Nat.reduceEqDiff, TFor, i1, i2, hg, hw, hc, Int.toNat_natCast, List.length_map]; with_reducible rfl)))
          refine roundK.ret ?_
          repeat' (first | with_reducible (first | refine Q1 ?_ | refine Q2 ?_ | refine Q3 ?_ | refine Q4 ?_ | refine Q5 ?_ | refine Q6 ?_ | refine Q7 ?_ | refine Q8 ?_ | refine Q9 ?_ | refine Qa ?_ | refine Qb ?_ | refine Qc ?_ | refine Qd ?_ | refine Qe ?_ | refine Qf ?_) | ((with_reducible refine Qo ?_ ?_); focus rfl) | ((with_reducible first | refine QT 11 (l := ?_) ?_ ?_ | refine QF 11 (l := ?_) ?_ ?_); rotate_left 1; focus (simp only [Zu, Nat.reduceSub, Nat.reduceBEq]; with_reducible rfl)) | ((with_reducible first | refine QS (cfg_ok 33) TFor (s' := ?_) ?_ ?_ | refine QC (b := ?_) ?_ ?_); rotate_left 1; focus ((with_reducible refine QW ?_); simp only [Zg, seval, if_true, if_false, reduceCtorEq, Nat.reduceEqDiff, TFor]; with_reducible rfl)))
          (refine Ends.mk (by simp) (rs := ?_) (ks := ?_) hres hrts ?_ ?_ ?_; rotate_left 2; (focus (simp only [Ze, Zg, seval, if_true, if_false, reduceCtorEq, Nat.reduceEqDiff]; with_reducible rfl)); (focus simp); focus (first | with_reducible rfl | (simp only [Zv]; done)))
      · have i1 : ((i : Int) < (f.length : Int)) = False := eq_false (by omega)
        obtain rfl : i = f.length := by omega
        repeat' (first | with_reducible (first | refine Q1 ?_ | refine Q2 ?_ | refine Q3 ?_ | refine Q4 ?_ | refine Q5 ?_ | refine Q6 ?_ | refine Q7 ?_ | refine Q8 ?_ | refine Q9 ?_ | refine Qa ?_ | refine Qb ?_ | refine Qc ?_ | refine Qd ?_ | refine Qe ?_ | refine Qf ?_) | ((with_reducible refine Qo ?_ ?_); focus rfl) | ((with_reducible first | refine QT 11 (l := ?_) ?_ ?_ | refine QF 11 (l := ?_) ?_ ?_); rotate_left 1; focus (simp only [Zu, Nat.reduceSub, Nat.reduceBEq]; with_reducible rfl)) | ((with_reducible first | refine QS (cfg_ok 33) TFor (s' := ?_) ?_ ?_ | refine QC (b := ?_) ?_ ?_); rotate_left 1; focus ((with_reducible refine QW ?_); simp only [Zg, seval, if_true, if_false, reduceCtorEq, Nat.reduceEqDiff, TFor, i1]; with_reducible rfl)))
        refine roundK.out () hall ?_
        (repeat' (first | with_reducible refine Qn | ((with_reducible refine Qr ?_ ?_); focus (first | with_reducible rfl | (simp only [Zz, Nat.reduceBEq]; done) | rfl)) | ((with_reducible refine Qj (o' := ?_) ?_ ?_ ?_); rotate_left 1; focus rfl) | ((with_reducible refine Qw ?_ ?_); (focus (first | with_reducible rfl | (simp only [Zv]; done))); focus (first | exact id | exact (fun h => nomatch h) | exact (fun _ => rfl)))))
    · rintro _ hall
      have hB : forB f = true := by unfold forB; rw [hall, decide_eq_true h8]; rfl
      rw [hB]
      repeat' (first | with_reducible (first | refine Q1 ?_ | refine Q2 ?_ | refine Q3 ?_ | refine Q4 ?_ | refine Q5 ?_ | refine Q6 ?_ | refine Q7 ?_ | refine Q8 ?_ | refine Q9 ?_ | refine Qa ?_ | refine Qb ?_ | refine Qc ?_ | refine Qd ?_ | refine Qe ?_ | refine Qf ?_) | ((with_reducible refine Qo ?_ ?_); focus rfl) | ((with_reducible first | refine QT 11 (l := ?_) ?_ ?_ | refine QF 11 (l := ?_) ?_ ?_); rotate_left 1; focus (simp only [Zu, Nat.reduceSub, Nat.reduceBEq]; with_reducible rfl)) | ((with_reducible first | refine QS (cfg_ok 33) TFor (s' := ?_) ?_ ?_ | refine QC (b := ?_) ?_ ?_); rotate_left 1; focus ((with_reducible refine QW ?_); simp only [Zg, seval, if_true, if_false, reduceCtorEq, Nat.reduceEqDiff, TFor]; with_reducible rfl)))
      (refine Ends.mk (by simp) (rs := ?_) (ks := ?_) hres hrts ?_ ?_ ?_; rotate_left 2; (focus (simp only [Ze, Zg, seval, if_true, if_false, reduceCtorEq, Nat.reduceEqDiff]; with_reducible rfl)); (focus simp); focus (first | with_reducible rfl | (simp only [Zv]; done)))
  · have i8 : ((sumLen f : Int) > 8) = True := eq_true (by omega)
    have hB : forB f = false := by unfold forB; rw [decide_eq_false h8, Bool.false_and]
    rw [hB]
    repeat' (first | with_reducible (first | refine Q1 ?_ | refine Q2 ?_ | refine Q3 ?_ | refine Q4 ?_ | refine Q5 ?_ | refine Q6 ?_ | refine Q7 ?_ | refine Q8 ?_ | refine Q9 ?_ | refine Qa ?_ | refine Qb ?_ | refine Qc ?_ | refine Qd ?_ | refine Qe ?_ | refine Qf ?_) | ((with_reducible refine Qo ?_ ?_); focus rfl) | ((with_reducible first | refine QT 11 (l := ?_) ?_ ?_ | refine QF 11 (l := ?_) ?_ ?_); rotate_left 1; focus (simp only [Zu, Nat.reduceSub, Nat.reduceBEq]; with_reducible rfl)) | ((with_reducible first | refine QS (cfg_ok 33) TFor (s' := ?_) ?_ ?_ | refine QC (b := ?_) ?_ ?_); rotate_left 1; focus ((with_reducible refine QW ?_); simp only [Zg, seval, if_true, if_false, reduceCtorEq, Nat.reduceEqDiff, TFor, hn, i8, eL]; with_reducible rfl)))
    (refine Ends.mk (by simp) (rs := ?_) (ks := ?_) hres hrts ?_ ?_ ?_; rotate_left 2; (focus (simp only [Ze, Zg, seval, if_true, if_false, reduceCtorEq, Nat.reduceEqDiff]; with_reducible rfl)); (focus simp); focus (first | with_reducible rfl | (simp only [Zv]; done)))
end Go.Proofs.YtfhmonacgmakbaaGreat
namespace Go.Proofs.YtfhmonacgmakbaaGreat
open Go.RowKit
set_option maxHeartbeats 4000000 in
theorem a_l03Forest (f : List (List Int)) (hsz : sumLen f ≤ 1048576) (hln : f.length ≤ 1048576) : AFn Tryz.prog 48 [eLL f] (· = [.val (.bool (forB f))]) := by
  have hn : nodesB f = sumLen f := nodesB_eq f (by omega)
  refine AFn.of_runs (cfg_ok 35) Tryz.func48 rfl rfl rfl (by simp only [List.length_cons, List.length_nil]; decide) ?_
  have hres : Tryz.f48.results.toList = [.tmp 2] := rfl
  have hrts : Tryz.f48.resultTypes.toList = [4] := rfl
  simp only [argRegs, argAV1, eL, eI, eLL, eB, Nat.zero_add, Nat.reduceAdd]
  intro M
  refine RunK.of ?_
  repeat' (first | with_reducible (first | refine Q1 ?_ | refine Q2 ?_ | refine Q3 ?_ | refine Q4 ?_ | refine Q5 ?_ | refine Q6 ?_ | refine Q7 ?_ | refine Q8 ?_ | refine Q9 ?_ | refine Qa ?_ | refine Qb ?_ | refine Qc ?_ | refine Qd ?_ | refine Qe ?_ | refine Qf ?_) | ((with_reducible refine Qo ?_ ?_); focus rfl) | ((with_reducible first | refine QT 4 (l := ?_) ?_ ?_ | refine QF 4 (l := ?_) ?_ ?_); rotate_left 1; focus (simp only [Zu, Nat.reduceSub, Nat.reduceBEq]; with_reducible rfl)) | ((with_reducible first | refine QS (cfg_ok 35) TForS (s' := ?_) ?_ ?_ | refine QC (b := ?_) ?_ ?_); rotate_left 1; focus ((with_reducible refine QW ?_); simp only [Zg, seval, if_true, if_false, reduceCtorEq, Nat.reduceEqDiff, TForS, eL]; with_reducible rfl)) | ((with_reducible refine QD (cfg_ok 35) TForS mixed_ok (tr := ?_) (s' := ?_) ?_ ?_ ?_); rotate_left 2; (focus ((with_reducible refine QW ?_); simp only [Zg, Zd, seval, if_true, if_false, reduceCtorEq, Nat.reduceEqDiff, TForS, eL]; with_reducible rfl)); focus ((with_reducible refine QK ?_); simp only [Zk]; kernel_rfl)))
  refine RunK.loop (β := Nat) (γ := Unit) (fun i => ⟨[(0, .c (.val (.sl 1 (f.map eL)))), (3, .c (.val (.int i)))], []⟩) (fun i => i ≤ f.length ∧ (List.range i).all (okT f) = true) (fun i => f.length - i)
    (fun _ => ⟨[(0, .c (.val (.sl 1 (f.map eL))))], []⟩) (fun _ => (List.range f.length).all (okT f) = true) 0 ⟨Nat.zero_le _, rfl⟩ ?_ ?_ ?_
  · (repeat' (first | with_reducible refine Qn | ((with_reducible refine Qr ?_ ?_); focus (first | with_reducible rfl | (simp only [Zz, Nat.reduceBEq]; done) | rfl)) | ((with_reducible refine Qj (o' := ?_) ?_ ?_ ?_); rotate_left 1; focus rfl) | ((with_reducible refine Qw ?_ ?_); (focus (first | with_reducible rfl | (simp only [Zv]; done))); focus (first | exact id | exact (fun h => nomatch h) | exact (fun _ => rfl)))))
  · rintro i ⟨hi, hall⟩
    have hw := w64_succ (n := i) (by omega)
    by_cases h : i < f.length
    · have i1 : ((i : Int) < (f.length : Int)) = True := eq_true (by omega)
      have i2 : ((0 : Int) ≤ (i : Int)) = True := eq_true (by omega)
      obtain ⟨t, ht⟩ : ∃ t, t = f[i] := ⟨_, rfl⟩
      have hg : (f.map eL)[i]? = some [.sl 1 (t.map eI)] := by rw [map_get h, ht]; rfl
      have hgd : f.getD i [] = t := by rw [getD_at h, ht]
      have htl : (t.length ≤ 1048576) = True := eq_true (Nat.le_trans (by rw [ht]; exact sumLen_mem (List.getElem_mem h)) hsz)
      by_cases hc : canT t = true
      · by_cases h0 : i = 0
        · have j1 : ((i : Int) > 0) = False := eq_false (by omega)
          have hok : okT f i = true := by unfold okT; rw [hgd, hc, h0]; rfl
          repeat' (first | with_reducible (first | refine Q1 ?_ | refine Q2 ?_ | refine Q3 ?_ | refine Q4 ?_ | refine Q5 ?_ | refine Q6 ?_ | refine Q7 ?_ | refine Q8 ?_ | refine Q9 ?_ | refine Qa ?_ | refine Qb ?_ | refine Qc ?_ | refine Qd ?_ | refine Qe ?_ | refine Qf ?_) | ((with_reducible refine Qo ?_ ?_); focus rfl) | ((with_reducible first | refine QT 4 (l := ?_) ?_ ?_ | refine QF 4 (l := ?_) ?_ ?_); rotate_left 1; focus (simp only [Zu, Nat.reduceSub, Nat.reduceBEq]; with_reducible rfl)) | ((with_reducible first | refine QS (cfg_ok 35) TForS (s' := ?_) ?_ ?_ | refine QC (b := ?_) ?_ ?_); rotate_left 1; focus ((with_reducible refine QW ?_); simp only [Zg, seval, if_true, if_false, reduceCtorEq, Nat.reduceEqDiff, TForS, i1, i2, hg, hw, hc, j1, htl, Int.toNat_natCast, List.length_map]; with_reducible rfl)) | ((with_reducible refine QD (cfg_ok 35) TForS mixed_ok (tr := ?_) (s' := ?_) ?_ ?_ ?_); rotate_left 2; (focus ((with_reducible refine QW ?_); simp only [Zg, Zd, seval, if_true, if_false, reduceCtorEq, Nat.reduceEqDiff, TForS, i1, i2, hg, hw, hc, j1, htl, Int.toNat_natCast, List.length_map]; with_reducible rfl)); focus ((with_reducible refine QK ?_); simp only [Zk]; kernel_rfl)))
          refine roundK.on (i + 1) ⟨⟨h, all_range_succ hall hok⟩, by omega⟩ ?_
          (repeat' (first | with_reducible refine Qn | ((with_reducible refine Qr ?_ ?_); focus (first | with_reducible rfl | (simp only [Zz, Nat.reduceBEq]; done) | rfl)) | ((with_reducible refine Qj (o' := ?_) ?_ ?_ ?_); rotate_left 1; focus rfl) | ((with_reducible refine Qw ?_ ?_); (focus (first | with_reducible rfl | (simp only [Zv]; done))); focus (first | exact id | exact (fun h => nomatch h) | exact (fun _ => rfl)))))
        · have j1 : ((i : Int) > 0) = True := eq_true (by omega)
          have hw1 : w64 ((i : Int) - 1) = ((i - 1 : Nat) : Int) := by rw [w64_eq (by omega)]; omega
          have i3 : ((0 : Int) ≤ ((i - 1 : Nat) : Int)) = True := eq_true (by omega)
          have i4 : (((i - 1 : Nat) : Int) < (f.length : Int)) = True := eq_true (by omega)
          obtain ⟨s, hs⟩ : ∃ s, s = f[i - 1] := ⟨_, rfl⟩
          have hgs : (f.map eL)[i - 1]? = some [.sl 1 (s.map eI)] := by rw [map_get (by omega), hs]; rfl
          have hgds : f.getD (i - 1) [] = s := by rw [getD_at (by omega), hs]
          have han := cmpT_cmp.anti t s
          by_cases hk : cmpT t s < 0
          · have hok : okT f i = false := by unfold okT; rw [hgd, hgds, hc, decide_eq_false h0, decide_eq_false (by omega)]; rfl
            have hB : forB f = false := by unfold forB; rw [all_range_no h hok, Bool.and_false]
            have k1 : decide (cmpT t s < 0) = true := decide_eq_true hk
            rw [hB]
            repeat' (first | with_reducible (first | refine Q1 ?_ | refine Q2 ?_ | refine Q3 ?_ | refine Q4 ?_ | refine Q5 ?_ | refine Q6 ?_ | refine Q7 ?_ | refine Q8 ?_ | refine Q9 ?_ | refine Qa ?_ | refine Qb ?_ | refine Qc ?_ | refine Qd ?_ | refine Qe ?_ | refine Qf ?_) | ((with_reducible refine Qo ?_ ?_); focus rfl) | ((with_reducible first | refine QT 4 (l := ?_) ?_ ?_ | refine QF 4 (l := ?_) ?_ ?_); rotate_left 1; focus (simp only [Zu, Nat.reduceSub, Nat.reduceBEq]; with_reducible rfl)) | ((with_reducible first | refine QS (cfg_ok 35) TForS (s' := ?_) ?_ ?_ | refine QC (b := ?_) ?_ ?_); rotate_left 1; focus ((with_reducible refine QW ?_); simp only [Zg, seval, if_true, if_false, reduceCtorEq, Nat.reduceEqDiff, TForS, i1, i2, i3, i4, hg, hgs, hw, hw1, hc, j1, k1, htl, Int.toNat_natCast, List.length_map]; with_reducible rfl)) | ((with_reducible refine QD (cfg_ok 35) TForS mixed_ok (tr := ?_) (s' := ?_) ?_ ?_ ?_); rotate_left 2; (focus ((with_reducible refine QW ?_); simp only [Zg, Zd, seval, if_true, if_false, reduceCtorEq, Nat.reduceEqDiff, TForS, i1, i2, i3, i4, hg, hgs, hw, hw1, hc, j1, k1, htl, Int.toNat_natCast, List.length_map]; with_reducible rfl)); focus ((with_reducible refine QK ?_); simp only [Zk]; kernel_rfl)))
            refine roundK.ret ?_
            repeat' (first | with_reducible (first | refine Q1 ?_ | refine Q2 ?_ | refine Q3 ?_ | refine Q4 ?_ | refine Q5 ?_ | refine Q6 ?_ | refine Q7 ?_ | refine Q8 ?_ | refine Q9 ?_ | refine Qa ?_ | refine Qb ?_ | refine Qc ?_ | refine Qd ?_ | refine Qe ?_ | refine Qf ?_) | ((with_reducible refine Qo ?_ ?_); focus rfl) | ((with_reducible first | refine QT 4 (l := ?_) ?_ ?_ | refine QF 4 (l := ?_) ?_ ?_); rotate_left 1; focus (simp only [Zu, Nat.reduceSub, Nat.reduceBEq]; with_reducible rfl)) | ((with_reducible first | refine QS (cfg_ok 35) TForS (s' := ?_) ?_ ?_ | refine QC (b := ?_) ?_ ?_); rotate_left 1; focus ((with_reducible refine QW ?_); simp only [Zg, seval, if_true, if_false, reduceCtorEq, Nat.reduceEqDiff, TForS]; with_reducible rfl)) | ((with_reducible refine QD (cfg_ok 35) TForS mixed_ok (tr := ?_) (s' := ?_) ?_ ?_ ?_); rotate_left 2; (focus ((with_reducible refine QW ?_); simp only [Zg, Zd, seval, if_true, if_false, reduceCtorEq, Nat.reduceEqDiff, TForS]; with_reducible rfl)); focus ((with_reducible refine QK ?_); simp only [Zk]; kernel_rfl)))
            (refine Ends.mk (by simp) (rs := ?_) (ks := ?_) hres hrts ?_ ?_ ?_; rotate_left 2; (focus (simp only [Ze, Zg, seval, if_true, if_false, reduceCtorEq, Nat.reduceEqDiff]; with_reducible rfl)); (focus simp); focus (first | with_reducible rfl | (simp only [Zv]; done)))
          · have hok : okT f i = true := by unfold okT; rw [hgd, hgds, hc, decide_eq_true (show cmpT s t ≤ 0 by omega), Bool.or_true]; rfl
            have k1 : decide (cmpT t s < 0) = false := decide_eq_false hk
            repeat' (first | with_reducible (first | refine Q1 ?_ | refine Q2 ?_ | refine Q3 ?_ | refine Q4 ?_ | refine Q5 ?_ | refine Q6 ?_ | refine Q7 ?_ | refine Q8 ?_ | refine Q9 ?_ | refine Qa ?_ | refine Qb ?_ | refine Qc ?_ | refine Qd ?_ | refine Qe ?_ | refine Qf ?_) | ((with_reducible refine Qo ?_ ?_); focus rfl) | ((with_reducible first | refine QT 4 (l := ?_) ?_ ?_ | refine QF 4 (l := ?_) ?_ ?_); rotate_left 1; focus (simp only [Zu, Nat.reduceSub, Nat.reduceBEq]; with_reducible rfl)) | ((with_reducible first | refine QS (cfg_ok 35) TForS (s' := ?_) ?_ ?_ | refine QC (b := ?_) ?_ ?_); rotate_left 1; focus ((with_reducible refine QW ?_); simp only [Zg, seval, if_true, if_false, reduceCtorEq, Nat.reduceEqDiff, TForS, i1, i2, i3, i4, hg, hgs, hw, hw1, hc, j1, k1, htl, Int.toNat_natCast, List.length_map]; with_reducible rfl)) | ((with_reducible refine QD (cfg_ok 35) TForS mixed_ok (tr := ?_) (s' := ?_) ?_ ?_ ?_); rotate_left 2; (focus ((with_reducible refine QW ?_); simp only [Zg, Zd, seval, if_true, if_false, reduceCtorEq, Nat.reduceEqDiff, TForS, i1, i2, i3, i4, hg, hgs, hw, hw1, hc, j1, k1, htl, Int.toNat_natCast, List.length_map]; with_reducible rfl)); focus ((with_reducible refine QK ?_); simp only [Zk]; kernel_rfl)))
            refine roundK.on (i + 1) ⟨⟨h, all_range_succ hall hok⟩, by omega⟩ ?_
            (repeat' (first | with_reducible refine Qn | ((with_reducible refine Qr ?_ ?_); focus (first | with_reducible rfl | (simp only [Zz, Nat.reduceBEq]; done) | rfl)) | ((with_reducible refine Qj (o' := ?_) ?_ ?_ ?_); rotate_left 1; focus rfl) | ((with_reducible refine Qw ?_ ?_); (focus (first | with_reducible rfl | (simp only [Zv]; done))); focus (first | exact id | exact (fun h => nomatch h) | exact (fun _ => rfl)))))
      · have hc : canT t = false := by simpa using hc
        have hok : okT f i = false := by unfold okT; rw [hgd, hc, Bool.false_and]
        have hB : forB f = false := by unfold forB; rw [all_range_no h hok, Bool.and_false]
        rw [hB]
        repeat' (first | with_reducible (first | refine Q1 ?_ | refine Q2 ?_ | refine Q3 ?_ | refine Q4 ?_ | refine Q5 ?_ | refine Q6 ?_ | refine Q7 ?_ | refine Q8 ?_ | refine Q9 ?_ | refine Qa ?_ | refine Qb ?_ | refine Qc ?_ | refine Qd ?_ | refine Qe ?_ | refine Qf ?_) | ((with_reducible refine Qo ?_ ?_); focus rfl) | ((with_reducible first | refine QT 4 (l := ?_) ?_ ?_ | refine QF 4 (l := ?_) ?_ ?_); rotate_left 1; focus (simp only [Zu, Nat.reduceSub, Nat.reduceBEq]; with_reducible rfl)) | ((with_reducible first | refine QS (cfg_ok 35) TForS (s' := ?_) ?_ ?_ | refine QC (b := ?_) ?_ ?_); rotate_left 1; focus ((with_reducible refine QW ?_); simp only [Zg, seval, if_true, if_false, reduceCtorEq, Nat.reduceEqDiff, TForS, i1, i2, hg, hw, hc, htl, Int.toNat_natCast, List.length_map]; with_reducible rfl)) | ((with_reducible refine QD (cfg_ok 35) TForS mixed_ok (tr := ?_) (s' := ?_) ?_ ?_ ?_); rotate_left 2; (focus ((with_reducible refine QW ?_); simp only [Zg, Zd, seval, if_true, if_false, reduceCtorEq, Nat.reduceEqDiff, TForS, i1, i2, hg, hw, hc, htl, Int.toNat_natCast, List.length_map]; with_reducible rfl)); focus ((with_reducible refine QK ?_); simp only [Zk]; kernel_rfl)))
        refine roundK.ret ?_
        repeat' (first | with_reducible (first | refine Q1 ?_ | refine Q2 ?_ | refine Q3 ?_ | refine Q4 ?_ | refine Q5 ?_ | refine Q6 ?_ | refine Q7 ?_ | refine Q8 ?_ | refine Q9 ?_ | refine Qa ?_ | refine Qb ?_ | refine Qc ?_ | refine Qd ?_ | refine Qe ?_ | refine Qf ?_) | ((with_reducible refine Qo ?_ ?_); focus rfl) | ((with_reducible first | refine QT 4 (l := ?_) ?_ ?_ | refine QF 4 (l := ?_) ?_ ?_); rotate_left 1; focus (simp only [Zu, Nat.reduceSub, Nat.reduceBEq]; with_reducible rfl)) | ((with_reducible first | refine QS (cfg_ok 35) TForS (s' := ?_) ?_ ?_ | refine QC (b := ?_) ?_ ?_); rotate_left 1; focus ((with_reducible refine QW ?_); simp only [Zg, seval, if_true, if_false, reduceCtorEq, Nat.reduceEqDiff, TForS]; with_reducible rfl)) | ((with_reducible refine QD (cfg_ok 35) TForS mixed_ok (tr := ?_) (s' := ?_) ?_ ?_ ?_); rotate_left 2; (focus ((with_reducible refine QW ?_); simp only [Zg, Zd, seval, if_true, if_false, reduceCtorEq, Nat.reduceEqDiff, TForS]; with_reducible rfl)); focus ((with_reducible refine QK ?_); simp only [Zk]; kernel_rfl)))
        (refine Ends.mk (by simp) (rs := ?_) (ks := ?_) hres hrts ?_ ?_ ?_; rotate_left 2; (focus (simp only [Ze, Zg, seval, if_true, if_false, reduceCtorEq, Nat.reduceEqDiff]; with_reducible rfl)); (focus simp); focus (first | with_reducible rfl | (simp only [Zv]; done)))
    · have i1 : ((i : Int) < (f.length : Int)) = False := eq_false (by omega)
      obtain rfl : i = f.length := by omega
      repeat' (first | with_reducible (first | refine Q1 ?_ | refine Q2 ?_ | refine Q3 ?_ | refine Q4 ?_ | refine Q5 ?_ | refine Q6 ?_ | refine Q7 ?_ | refine Q8 ?_ | refine Q9 ?_ | refine Qa ?_ | refine Qb ?_ | refine Qc ?_ | refine Qd ?_ | refine Qe ?_ | refine Qf ?_) | ((with_reducible refine Qo ?_ ?_); focus rfl) | ((with_reducible first | refine QT 4 (l := ?_) ?_ ?_ | refine QF 4 (l := ?_) ?_ ?_); rotate_left 1; focus (simp only [Zu, Nat.reduceSub, Nat.reduceBEq]; with_reducible rfl)) | ((with_reducible first | refine QS (cfg_ok 35) TForS (s' := ?_) ?_ ?_ | refine QC (b := ?_) ?_ ?_); rotate_left 1; focus ((with_reducible refine QW ?_); simp only [Zg, seval, if_true, if_false, reduceCtorEq, Nat.reduceEqDiff, TForS, i1, List.length_map]; with_reducible rfl)) | ((with_reducible refine QD (cfg_ok 35) TForS mixed_ok (tr := ?_) (s' := ?_) ?_ ?_ ?_); rotate_left 2; (focus ((with_reducible refine QW ?_); simp only [Zg, Zd, seval, if_true, if_false, reduceCtorEq, Nat.reduceEqDiff, TForS, i1, List.length_map]; with_reducible rfl)); focus ((with_reducible refine QK ?_); simp only [Zk]; kernel_rfl)))
      refine roundK.out () hall ?_
      (repeat' (first | with_reducible refine Qn | ((with_reducible refine Qr ?_ ?_); focus (first | with_reducible rfl | (simp only [Zz, Nat.reduceBEq]; done) | rfl)) | ((with_reducible refine Qj (o' := ?_) ?_ ?_ ?_); rotate_left 1; focus rfl) | ((with_reducible refine Qw ?_ ?_); (focus (first | with_reducible rfl | (simp only [Zv]; done))); focus (first | exact id | exact (fun h => nomatch h) | exact (fun _ => rfl)))))
  · rintro _ hall
    have hB : forB f = decide ((sumLen f : Int) ≤ 8) := by
      unfold forB; rw [hall, Bool.and_true]
      exact decide_eq_decide.2 (by omega)
    rw [hB]
    repeat' (first | with_reducible (first | refine Q1 ?_ | refine Q2 ?_ | refine Q3 ?_ | refine Q4 ?_ | refine Q5 ?_ | refine Q6 ?_ | refine Q7 ?_ | refine Q8 ?_ | refine Q9 ?_ | refine Qa ?_ | refine Qb ?_ | refine Qc ?_ | refine Qd ?_ | refine Qe ?_ | refine Qf ?_) | ((with_reducible refine Qo ?_ ?_); focus rfl) | ((with_reducible first | refine QT 4 (l := ?_) ?_ ?_ | refine QF 4 (l := ?_) ?_ ?_); rotate_left 1; focus (simp only [Zu, Nat.reduceSub, Nat.reduceBEq]; with_reducible rfl)) | ((with_reducible first | refine QS (cfg_ok 35) TForS (s' := ?_) ?_ ?_ | refine QC (b := ?_) ?_ ?_); rotate_left 1; focus ((with_reducible refine QW ?_); simp only [Zg, seval, if_true, if_false, reduceCtorEq, Nat.reduceEqDiff, TForS, hn, eL]; with_reducible rfl)) | ((with_reducible refine QD (cfg_ok 35) TForS mixed_ok (tr := ?_) (s' := ?_) ?_ ?_ ?_); rotate_left 2; (focus ((with_reducible refine QW ?_); simp only [Zg, Zd, seval, if_true, if_false, reduceCtorEq, Nat.reduceEqDiff, TForS, hn, eL]; with_reducible rfl)); focus ((with_reducible refine QK ?_); simp only [Zk]; kernel_rfl)))
    (refine Ends.mk (by simp) (rs := ?_) (ks := ?_) hres hrts ?_ ?_ ?_; rotate_left 2; (focus (simp only [Ze, Zg, seval, if_true, if_false, reduceCtorEq, Nat.reduceEqDiff]; with_reducible rfl)); (focus simp); focus (first | with_reducible rfl | (simp only [Zv]; done)))
theorem a_compareForests (f g : List (List Int)) (hf : sumLen f ≤ 1000000000) (hg : sumLen g ≤ 1000000000) : AFn Tryz.prog 87 [eLL f, eLL g] (· = [.val (.int (cmpF f g))]) := by
  refine ⟨enters_of Tryz.func87 rfl rfl, fun A w vs hA ⟨v1, _, e1, h1, v2, _, e2, h2, e3⟩ => ?_⟩
  subst e3; subst e2; subst e1
  have r1 := Rd.of (rdLL h1)
  have r2 := Rd.of (rdLL h2)
  obtain ⟨oa, c1, k1, m1, m2⟩ := r1.val
  obtain ⟨ob, c2, k2, m3, m4⟩ := r2.val
  refine (c_compareForests v1 v2 f g w r1 r2 (by omega) (by omega)).mono ?_
  rintro e w' ⟨rfl, rfl⟩
  have hle : ∀ {f : List (List Int)}, sumLen f ≤ 1000000000 → ∀ t ∈ f, t.length ≤ maxLen := fun h t ht => Nat.le_trans (sumLen_mem ht) (Nat.le_trans h (by decide))
  exact ⟨_, _, rfl, rfl, Below.refl _ _, [_], [], [], rfl, List.nodup_nil, by simp, _, [], [], [], [], [], rfl, rfl, rfl, rfl, ⟨rdV_int.2 ⟨rfl, cmpF_in64 (by omega) (by omega) (by omega) (by omega) (hle hf) (hle hg)⟩, rfl, rfl⟩, rfl, rfl, rfl⟩
end Go.Proofs.YtfhmonacgmakbaaGreat
namespace Go.Proofs.YtfhmonacgmakbaaGreat
open Go.RowKit
def eSp (z : Spl × Int) : List D := [.sl 1 (z.1.1.map eL), .sl 1 (z.1.2.map eL), .int z.2]
def codF2 : Cod Spl := codP 1 codLL codLL (fun _ => rfl)
def codSp : Cod (Spl × Int) := codP 2 codF2 codI (fun _ => rfl)
theorem codSp_d (f g : List (List Int)) (n : Int) : codSp.d [.sl 1 (f.map eL), .sl 1 (g.map eL), .int n] = some ((f, g), n) := codSp.de ((f, g), n)
def SmS (s : Spl) : Prop := SmF s.1 ∧ SmF s.2
instance (s : Spl) : Decidable (SmS s) := inferInstanceAs (Decidable (_ ∧ _))
def HaF (f : List (List Int)) : Prop := f.length ≤ 9 ∧ sumLen f ≤ 50
instance (f : List (List Int)) : Decidable (HaF f) := inferInstanceAs (Decidable (_ ∧ _))
def HaS (s : Spl) : Prop := HaF s.1 ∧ HaF s.2
theorem HaF.mul {f g : List (List Int)} (hf : HaF f) (hg : HaF g) : SmF (mulF f g) := by
  obtain ⟨h1, h2⟩ := hf
  obtain ⟨h3, h4⟩ := hg
  exact ⟨by rw [mulF_len]; omega, by rw [mulF_sum]; omega⟩
theorem HaS.mul {s c : Spl} (hs : HaS s) (hc : HaS c) : SmS (mulS s c) := ⟨hs.1.mul hc.1, hs.2.mul hc.2⟩
theorem HaF.sm {f : List (List Int)} (hf : HaF f) : SmF f := ⟨by have := hf.1; omega, by have := hf.2; omega⟩
theorem HaS.sm {s : Spl} (hs : HaS s) : SmS s := ⟨hs.1.sm, hs.2.sm⟩
structure PutNI (L : List (Spl × Int)) (k : Int) (x : Spl) (y : Nat × Bool × List (Spl × Int)) : Prop where
  le : y.1 ≤ L.length
  no : y.2.1 = false → y.2.2 = L.take y.1 ∧ ∀ q ∈ L.take y.1, 0 < cmpS x q.1
  yes : y.2.1 = true → y.2.2 ++ L.drop y.1 = putN cmpS L k x
  len : y.2.2.length ≤ y.1 + 1
end Go.Proofs.YtfhmonacgmakbaaGreat
namespace Go.Proofs.YtfhmonacgmakbaaGreat
open Go.RowKit
theorem Row.take {w : World} {k n m cap : Nat} {ds : List Value} {og : Option Nat} (h : Row w (slv og n cap) k n ds og) (hm : m ≤ n) : Row w (slv og m cap) k m (ds.take (m * k)) og := by
  refine ⟨by rw [List.length_take, h.1]; exact Nat.min_eq_left (Nat.mul_le_mul_right k hm), ?_⟩
  rcases h.2 with ⟨h1, h2, h3⟩ | ⟨g, c, cur, e, h1, h2, h3, h4, h5, h6, h7⟩
  · subst h3
    exact .inl ⟨rfl, by omega, rfl⟩
  · subst h2
    have hc : cap = c := by
      unfold slv at h1
      simp only [Value.slice.injEq] at h1
      exact h1.2.2
    subst hc
    refine .inr ⟨g, cap, cur, e, rfl, rfl, h3, by omega, h5, h6, ?_⟩
    rw [← h7, List.take_take, Nat.min_eq_left (Nat.mul_le_mul_right k hm)]
section
variable {P : Program} {cfg : Cfg} {M : Nat → Prop} {w0 : W0} {w w' : World} {Ok : Nat → Prop} {N : Nat} {σ : Asg} {s : St} {a : Act} {ops : Array Oper}
theorem RunK.regCut (C : CfgOK P cfg) (T : Tab P) {fs : List Fr} {Q : Exit → St → Prop} {id : Nat} (n : Nat) {s1 : St} (ha : Work (aopsT cfg T ops (ops.toList.take n) s) (some s1))
    (h : ROps P cfg M ops (ops.toList.drop n) (outK P cfg M fs Q .normal) s1) : RunK P cfg M (.region id ops false) fs Q s := by
  refine Runs.region ?_
  have e : ops.toList = ops.toList.take n ++ ops.toList.drop n := (List.take_append_drop n _).symm
  have cut : ∀ (l m : List Oper) (s : St), aopsT cfg T ops l s = some s1 → ROps P cfg M ops m (outK P cfg M fs Q .normal) s1 → ROps P cfg M ops (l ++ m) (outK P cfg M fs Q .normal) s := by
    intro l
    induction l with
    | nil => intro m s h1 h2; simp only [aopsT, Option.some.injEq] at h1; subst h1; exact h2
    | cons o l ih =>
      intro m s h1 h2
      simp only [aopsT] at h1
      obtain ⟨s2, h3, h4⟩ := bind_some h1
      exact ROps.stepT C h3 (ih m s2 h4 h2)
  rw [e]
  exact cut _ _ s ha h
end
end Go.Proofs.YtfhmonacgmakbaaGreat
namespace Go.Proofs.YtfhmonacgmakbaaGreat
open Go.RowKit
section
variable {P : Program} {cfg : Cfg} {w0 : W0} {w w' : World} {Ok : Nat → Prop} {N : Nat} {σ σ' : Asg} {s s' : St} {a : Act} {M : Nat → Prop}
theorem relArgs.split {A : Nat → Prop} : ∀ {pre : List (List D)} {ds : List (List D)} {vs : List Value}, relArgs A w (pre ++ ds) vs → ∃ vs1 vs2, vs = vs1 ++ vs2 ∧ relArgs A w pre vs1 ∧ relArgs A w ds vs2
  | [], ds, vs, h => ⟨[], vs, rfl, rfl, h⟩
  | d :: pre, ds, vs, ⟨v, us, e, h1, h2⟩ => by
    obtain ⟨us1, us2, e2, h3, h4⟩ := relArgs.split h2
    subst e2; subst e
    exact ⟨v :: us1, us2, rfl, ⟨v, us1, rfl, h1, h3⟩, h4⟩
theorem relArgs.join {A : Nat → Prop} : ∀ {pre : List (List D)} {ds : List (List D)} {vs1 vs2 : List Value}, relArgs A w pre vs1 → relArgs A w ds vs2 → relArgs A w (pre ++ ds) (vs1 ++ vs2)
  | [], ds, vs1, vs2, h, k => by rw [show vs1 = [] from h]; exact k
  | d :: pre, ds, vs1, vs2, ⟨v, us, e, h1, h2⟩, k => by
    subst e
    exact ⟨v, us ++ vs2, rfl, h1, relArgs.join h2 k⟩
theorem Bel.nil (h : Bel ⟨w, fun b => (none : Option Nat) = some b⟩ w') : Below w.heap.size w w' :=
  ⟨h.os, h.tape, h.output, h.size, fun i hi => h.block i hi (fun e => nomatch e)⟩
theorem AOw.nil {g : FuncId} {pre post : List (List D)} {k : Nat} {Q : List Res → Prop} (h : AOw P g pre k [] post Q) (hk : 0 < k) : AFn P g (pre ++ [.raw (.slice none 0 0)] :: post) Q := by
  refine ⟨h.call, fun A w vs hA hr => ?_⟩
  obtain ⟨vs1, vs2, e, h1, v, us, e2, h2, h3⟩ := relArgs.split hr
  subst e2; subst e
  obtain ⟨rfl, _⟩ := rdV_raw.1 (show rdV A w v (.raw (.slice none 0 0)) from h2)
  refine (h.fn A w vs1 us none 0 [] hA h1 h3 ⟨(Nat.zero_mul k).symm, .inl ⟨rfl, rfl, rfl⟩⟩ hk (by first | exact ⟨0, hk, rfl⟩ | exact ⟨0, hk, trivial⟩ | exact ⟨0, hk, by simp [rdL]⟩) (fun b e => nomatch e)).mono ?_
  rintro e w' ⟨v, rs, rfl, hQ, hb, ho⟩
  have e : (W0.mine ⟨w, fun b => (none : Option Nat) = some b⟩) = fun b => w.heap.size ≤ b := by funext b; simp [W0.mine]
  rw [e] at ho
  exact ⟨v, rs, rfl, hQ, hb.nil, ho⟩
theorem n_callR (C : CfgOK P cfg) (h : Sim w0 Ok N σ s a w) {o : Oper} {f : Operand} {args : Array Operand} {ts : Array TypeId} {g : FuncId} (ho : o.op = .call ⟨.value f, args, ts⟩) (hf : ((opv s.regs f).bind avD).bind fnId = some g)
    {ds : List (List D)} (hd : relArgs (Zn σ s.heap w) w ds (args.toList.map a.eval)) {Q0 : List Res → Prop} (hfn : AFn P g ds Q0)
    {K : Act → World → Prop} {Q : Exit → Act → World → Prop} {key : Nat} (hfr : ∀ rs, Q0 rs → ∀ q ob, look q (resACs key rs).2 = some ob → Free s q)
    (hK : ∀ rs, Q0 rs → ∀ v w' σ', relAV σ' ((resACs key rs).2 ++ s.heap) w' (outAV (resACs key rs).1) v → Sim w0 Ok N σ' ⟨s.regs, (resACs key rs).2 ++ s.heap⟩ a w' → K (a.put o.dst v) w') : o.wp P a w K Q := by
  have hfv : a.eval f = .func (.func g) #[] #[] := fnId_rel h hf
  have hrun : (execOp a.eval o).run P w = .ok (.enter g (args.map a.eval)) w := by
    unfold execOp
    rw [ho]
    simp [resolve, Deferred.ofValue, hfv, invoke, hfn.call]
  obtain ⟨A, hA, hAa, hAz⟩ : ∃ A : Nat → Prop, (∀ b, A b → b < w.heap.size) ∧ relArgs A w ds (args.toList.map a.eval) ∧ ((∃ rs, Q0 rs ∧ rs.all Res.scalar = false) → ∀ b, A b → Zn σ s.heap w b) := by
    exact ⟨Zn σ s.heap w, fun _ h => h.1, hd, fun _ b hb => hb⟩
  have hcall := hfn.fn A w (args.toList.map a.eval) hA hAa
  unfold Oper.wp
  rw [hrun, Oper.upon_enter]
  have e : (args.toList.map a.eval).toArray = args.map a.eval := by rw [← Array.toList_map, Array.toArray_toList]
  rw [← e]
  refine hcall.mono ?_
  rintro e w' ⟨v, rs, rfl, hQ, hw, us, G, X, rfl, hG1, hG2, hrel⟩
  obtain ⟨σ', k0, k1, k2, k3, k4⟩ := outs_asg key σ hrel hG1
  have hgn : ∀ q u, look q (resACs key rs).2 = some u → ∀ b, σ'.g q = some b → w.heap.size ≤ b := fun q u hq b hb => hG2 b ((k2 q u hq).2.2.1 b (fp_out hb))
  have hZ1 : (∀ b, A b → Zn σ s.heap w b) → ∀ b, ((A b ∨ w.heap.size ≤ b) ∧ b ∉ X) → b < w'.heap.size → Zn σ' ((resACs key rs).2 ++ s.heap) w' b := by
    intro hAz b hb hlt
    have hz := Kept.grown hw h hAz b hb.1 hlt
    refine ⟨hlt, by rw [k0]; exact hz.2.1, fun q u hq e => ?_⟩
    rw [look_append] at hq
    cases hn : look q (resACs key rs).2 with
    | some o' => exact hb.2 ((k2 q o' hn).2.2.2 b e)
    | none =>
      rw [hn] at hq
      rw [(k1 q hn).1] at e
      exact hz.2.2 q u hq e
  refine hK rs hQ _ w' σ' (out_rel ?_) ?_
  · by_cases hsc : rs.all Res.scalar = true
    · exact k4.relS hsc
    · exact k4.rel (hZ1 (hAz ⟨rs, hQ, by simpa using hsc⟩))
  · refine h.news k0 hw (hfr rs hQ) k1 (fun q o' hq => ?_) (fun q o' hq => ?_) k3
    · obtain ⟨⟨dd, k, xs, d, b1, b2, b3, b4⟩, _⟩ := k2 q o' hq
      subst b1
      refine ⟨dd, b2, b3, ?_⟩
      show if d = true then ownR k w' dd xs (σ'.F q) else rdR k (Zn σ' ((resACs key rs).2 ++ s.heap) w') w' dd xs
      cases d with
      | true => rw [if_pos rfl]; exact b4
      | false =>
        rw [if_neg (by decide)]
        have b4' : rdR k (fun b => (A b ∨ w.heap.size ≤ b) ∧ b ∉ X) w' dd xs := b4
        have hsc : rs.all Res.scalar = false := by
          have key : ∀ {rs : List Res} {key : Nat} {q : Nat}, look q (resACs key rs).2 = some (.row k xs false) → rs.all Res.scalar = false := by
            intro rs
            induction rs with
            | nil => intro key q hq; cases hq
            | cons r rs ih =>
              intro key q hq
              cases r with
              | val d => rw [List.all_cons, ih (by simpa [resACs, resAC] using hq), Bool.and_false]
              | own kk ys d =>
                simp only [resACs, resAC, List.singleton_append, look] at hq
                split at hq
                · cases hq; rfl
                · rw [List.all_cons, ih hq, Bool.and_false]
          exact key hq
        exact b4'.mono (fun b hb hlt => hZ1 (hAz ⟨rs, hQ, hsc⟩) b hb hlt)
    · obtain ⟨_, b5, b6, _⟩ := k2 q o' hq
      exact ⟨fun b hb => hG2 b (b6 b hb), b5⟩
theorem ROps.callNil (C : CfgOK P cfg) {ops : Array Oper} {o : Oper} {l : List Oper} {Q : St → Prop} {d : Nat} {f : Operand} {args : Array Operand} {ts : Array TypeId} {g : FuncId} (hb : awanted ops s.regs o = some true) (hdN : d < cfg.N)
    (ho : o.op = .call ⟨.value f, args, ts⟩) (hod : o.dst = some d) (hf : ((opv s.regs f).bind avD).bind fnId = some g)
    {xs : List Operand} {tx : List TypeId} {pre : List (List D)} (ha : args.toList = xs ++ [.const (.slice none 0 0)]) (hpre : aargs cfg (fun k => look k s.heap) s.regs xs tx = some pre) (hr : opRefs s.regs xs = [])
    {rs : List Res} (hfn : AFn P g (pre ++ [[.raw (.slice none 0 0)]]) (· = rs)) (hfr : (resACs d rs).2.all (fun p => fresh s p.1) = true)
    (h : ROps P cfg M ops l Q (s.got d rs)) : ROps P cfg M ops (o :: l) Q s := by
  intro w0 Ok σ a w Q' hM hS hQ
  refine wpList_step (fun K hK => ?_)
  rw [awanted_spec hS hb]
  simp only [if_true]
  have hrel : relArgs (Zn σ s.heap w) w (pre ++ [[.raw (.slice none 0 0)]]) (args.toList.map a.eval) := by
    rw [ha, List.map_append]
    exact relArgs.join ((aargs_rel C hS hpre).2 hr) ⟨_, [], rfl, rdV_raw.2 ⟨rfl, rfl⟩, rfl⟩
  refine n_callR C hS (key := d) ho hf hrel hfn (fun rs' e => e ▸ fun q ob hq => fresh_free (List.all_eq_true.1 hfr _ (look_all hq))) (fun rs' e v w' σ' hv hS' => ?_)
  subst e
  rw [hod]
  have hsub : ∀ k o', look k (insAll (resACs d rs').2 s.heap) = some o' → look k ((resACs d rs').2 ++ s.heap) = some o' := fun k o' ho' => by rw [look_insAll] at ho'; exact ho'
  exact hK _ _ (h w0 Ok σ' _ _ Q' hM (Sim.ins (hS'.forget (fun _ _ h => h) hsub) hdN (hv.sub hsub)) hQ)
theorem ROps.callNilP (C : CfgOK P cfg) {ops : Array Oper} {o : Oper} {l : List Oper} {Q : St → Prop} {d : Nat} {f : Operand} {args : Array Operand} {ts : Array TypeId} {g : FuncId} (hb : awanted ops s.regs o = some true) (hdN : d < cfg.N)
    (ho : o.op = .call ⟨.value f, args, ts⟩) (hod : o.dst = some d) (hf : ((opv s.regs f).bind avD).bind fnId = some g)
    {xs : List Operand} {tx : List TypeId} {pre : List (List D)} {ys : List Operand} {ty : List TypeId} {post : List (List D)} (ha : args.toList = xs ++ .const (.slice none 0 0) :: ys) (hpre : aargs cfg (fun k => look k s.heap) s.regs xs tx = some pre) (hr : opRefs s.regs xs = []) (hpost : aargs cfg (fun k => look k s.heap) s.regs ys ty = some post) (hr2 : opRefs s.regs ys = [])
    {rs : List Res} (hfn : AFn P g (pre ++ [.raw (.slice none 0 0)] :: post) (· = rs)) (hfr : (resACs d rs).2.all (fun p => fresh s p.1) = true)
    (h : ROps P cfg M ops l Q (s.got d rs)) : ROps P cfg M ops (o :: l) Q s := by
  intro w0 Ok σ a w Q' hM hS hQ
  refine wpList_step (fun K hK => ?_)
  rw [awanted_spec hS hb]
  simp only [if_true]
  have hrel : relArgs (Zn σ s.heap w) w (pre ++ [.raw (.slice none 0 0)] :: post) (args.toList.map a.eval) := by
    rw [ha, List.map_append]
    exact relArgs.join ((aargs_rel C hS hpre).2 hr) ⟨_, _, rfl, rdV_raw.2 ⟨rfl, rfl⟩, (aargs_rel C hS hpost).2 hr2⟩
  refine n_callR C hS (key := d) ho hf hrel hfn (fun rs' e => e ▸ fun q ob hq => fresh_free (List.all_eq_true.1 hfr _ (look_all hq))) (fun rs' e v w' σ' hv hS' => ?_)
  subst e
  rw [hod]
  have hsub : ∀ k o', look k (insAll (resACs d rs').2 s.heap) = some o' → look k ((resACs d rs').2 ++ s.heap) = some o' := fun k o' ho' => by rw [look_insAll] at ho'; exact ho'
  exact hK _ _ (h w0 Ok σ' _ _ Q' hM (Sim.ins (hS'.forget (fun _ _ h => h) hsub) hdN (hv.sub hsub)) hQ)
end
noncomputable def atOwn (A : List (List D)) (k : Nat) (X : List (List D)) (B : List (List D)) (R : List Res) (a : List (List D)) (k' : Nat) (x : List (List D)) (b : List (List D)) : Option (List Res × Option (List (List D))) := by
  classical
  exact if a = A ∧ k' = k ∧ x = X ∧ b = B then some (R, Option.none) else Option.none
theorem atOwn_eq (A : List (List D)) (k : Nat) (X : List (List D)) (B : List (List D)) (R : List Res) : atOwn A k X B R A k X B = some (R, Option.none) := by
  unfold atOwn; rw [if_pos ⟨rfl, rfl, rfl, rfl⟩]
theorem atOwn_some {A : List (List D)} {k : Nat} {X : List (List D)} {B : List (List D)} {R : List Res} {a : List (List D)} {k' : Nat} {x b : List (List D)} {r : List Res × Option (List (List D))} (h : atOwn A k X B R a k' x b = some r) : a = A ∧ k' = k ∧ x = X ∧ b = B ∧ r = (R, Option.none) := by
  unfold atOwn at h
  split at h
  · rename_i h1
    exact ⟨h1.1, h1.2.1, h1.2.2.1, h1.2.2.2, (Option.some.inj h).symm⟩
  · exact nomatch h
noncomputable def Tab.own' {P : Program} (T : Tab P) (g : FuncId) (n : Nat) {A : List (List D)} {k : Nat} {X B : List (List D)} {R : List Res} (h : AOw P g A k X B (· = R)) : Tab P :=
  T.own g ⟨false, n, atOwn A k X B R⟩ (fun pre k' xs post r _ e => by
    obtain ⟨rfl, rfl, rfl, rfl, rfl⟩ := atOwn_some e
    exact h.toEf)
end Go.Proofs.YtfhmonacgmakbaaGreat
namespace Go.Proofs.YtfhmonacgmakbaaGreat
open Go.RowKit
theorem foldS_len {α : Type} (f : α → List Spl) (m : α → Nat) : ∀ (bs : List α) (A : List Spl), (∀ b ∈ bs, (f b).length ≤ 2 ^ m b) → (foldS A (bs.map f)).length ≤ A.length * 2 ^ (bs.map m).sum
  | [], A, _ => by simp [foldS]
  | b :: bs, A, h => by
    have h1 := foldS_len f m bs (A.flatMap fun s => (f b).map (catS s)) (fun x hx => h x (by simp [hx]))
    have h2 : (A.flatMap fun s => (f b).map (catS s)).length = A.length * (f b).length := by
      clear h1
      induction A with
      | nil => simp
      | cons a A ih => rw [List.flatMap_cons, List.length_append, ih, List.length_map, List.length_cons, Nat.succ_mul, Nat.add_comm]
    rw [h2] at h1
    have e : ((b :: bs).map m).sum = m b + (bs.map m).sum := by simp
    rw [e, Nat.pow_add]
    refine Nat.le_trans h1 ?_
    rw [← Nat.mul_assoc]
    exact Nat.mul_le_mul_right _ (Nat.mul_le_mul_left _ (h b (by simp)))
theorem split_len : ∀ (n : Nat) {t : List Int}, t.length ≤ n → LevP t → (split t).length ≤ 2 ^ t.length
  | 0, t, hn, h => by have := h.pos; omega
  | n + 1, t, hn, h => by
    rw [split_eq h, List.length_append, List.length_map, List.length_singleton]
    have h1 := foldS_len split List.length (brs t) [([], [])] (fun b hb => split_len n (by have := brs_short h b hb; omega) (brs_lev h b hb))
    have hb := sumLen_brs h
    have h2 : (prodS ((brs t).map split)).length ≤ 2 ^ sumLen (brs t) := by
      have : (foldS [([], [])] ((brs t).map split)).length ≤ 1 * 2 ^ sumLen (brs t) := h1
      rw [Nat.one_mul] at this; exact this
    rw [← hb, Nat.pow_succ]
    have : 0 < 2 ^ sumLen (brs t) := Nat.pow_pos (by decide)
    omega
theorem prod_len {bs : List (List Int)} (h : ∀ b ∈ bs, LevP b) (h8 : sumLen bs ≤ 8) : (prodS (bs.map split)).length ≤ 256 := by
  have h1 := foldS_len split List.length bs [([], [])] (fun b hb => split_len _ (Nat.le_refl _) (h b hb))
  have h2 : (prodS (bs.map split)).length ≤ 2 ^ sumLen bs := by
    have : (foldS [([], [])] (bs.map split)).length ≤ 1 * 2 ^ sumLen bs := h1
    rw [Nat.one_mul] at this; exact this
  exact Nat.le_trans h2 (Nat.pow_le_pow_right (by decide) h8)
theorem prod_good {bs : List (List Int)} (h : ∀ b ∈ bs, LevP b) : ∀ s ∈ prodS (bs.map split), GoodS (sumLen bs) s := fun s hs => by
  have := foldS_good split List.length bs [([], [])] 0 (fun b hb => split_good _ (Nat.le_refl _) (h b hb)) (fun s hs => by
    obtain rfl := List.mem_singleton.1 hs
    exact ⟨by simp, rfl⟩) s hs
  rw [Nat.zero_add] at this
  exact this
theorem GoodS.nrm {n : Nat} {s : Spl} (h : GoodS n s) : GoodS n (nrmS s) := by
  refine ⟨fun t ht => h.1 t ?_, ?_⟩
  · unfold nrmS at ht
    simp only [List.mem_append, sortC_mem] at ht ⊢
    exact ht
  · unfold nrmS
    simp only
    rw [sumLen_perm (sortC_perm _), sumLen_perm (sortC_perm _)]
    exact h.2
theorem len_sum : ∀ {f : List (List Int)}, (∀ t ∈ f, LevP t) → f.length ≤ sumLen f
  | [], _ => Nat.le_refl _
  | t :: f, h => by
    have h1 := (h t (by simp)).pos
    have h2 := len_sum (f := f) (fun x hx => h x (by simp [hx]))
    have : sumLen (t :: f) = t.length + sumLen f := rfl
    rw [this, List.length_cons]; omega
theorem GoodS.ha {n : Nat} {s : Spl} (h : GoodS n s) (hn : n ≤ 9) : HaS s := by
  have h1 := len_sum (f := s.1) (fun t ht => (h.1 t (by simp [ht])).1)
  have h2 := len_sum (f := s.2) (fun t ht => (h.1 t (by simp [ht])).1)
  have h3 := h.2
  exact ⟨⟨by omega, by omega⟩, ⟨by omega, by omega⟩⟩
theorem gath_good {L : List Spl} {n : Nat} (hL : ∀ s ∈ L, GoodS n s) : ∀ p ∈ gathS L, 1 ≤ p.2 ∧ p.2 ≤ L.length ∧ GoodS n p.1 := fun p hp => by
  have h := gathS_is L
  have hc := h.cnt p hp
  rw [List.length_map] at hc
  refine ⟨hc.1, hc.2, ?_⟩
  obtain ⟨s, hs, e⟩ := List.mem_map.1 (h.key p hp)
  rw [← e]
  exact (hL s hs).nrm
theorem mem_take {α : Type} {l : List α} {i : Nat} {P : α → Prop} (h : ∀ b ∈ l, P b) : ∀ b ∈ l.take i, P b := fun b hb => h b (List.mem_of_mem_take hb)
theorem sumLen_take' (l : List (List Int)) (i : Nat) : sumLen (l.take i) ≤ sumLen l := by
  conv => rhs; rw [← List.take_append_drop i l, sumLen_append]
  omega
end Go.Proofs.YtfhmonacgmakbaaGreat
namespace Go.Proofs.YtfhmonacgmakbaaGreat
open Go.RowKit Go.Shelf
theorem flatMap_getG {α β : Type} (enc : α → List β) (k : Nat) (hk : ∀ x, (enc x).length = k) (hp : 0 < k) : ∀ (l : List α) (t : Nat), (l.flatMap enc)[t]? = (l[t / k]?).bind fun x => (enc x)[t % k]?
  | [], t => by simp
  | x :: l, t => by
    rw [List.flatMap_cons]
    by_cases h : t < k
    · rw [List.getElem?_append_left (by rw [hk]; exact h), Nat.div_eq_of_lt h, Nat.mod_eq_of_lt h]; rfl
    · rw [List.getElem?_append_right (by rw [hk]; omega), hk, flatMap_getG enc k hk hp l (t - k)]
      have e1 : t / k = (t - k) / k + 1 := by rw [Nat.div_eq_sub_div hp (by omega)]
      have e2 : t % k = (t - k) % k := Nat.mod_eq_sub_mod (by omega)
      rw [e1, e2, List.getElem?_cons_succ]
theorem flatK_listG {α : Type} [Inhabited α] (enc : α → List Value) (k : Nat) (hk : ∀ x, (enc x).length = k) (hp : 0 < k) (d : Array α) : (Go.Sort.flatK enc k d).toList = d.toList.flatMap enc := by
  have hl : ∀ (l : List α), (l.flatMap enc).length = l.length * k := by
    intro l
    induction l with
    | nil => simp
    | cons x l ih => rw [List.flatMap_cons, List.length_append, hk, ih, List.length_cons, Nat.succ_mul]; omega
  refine List.ext_getElem? fun t => ?_
  by_cases h : t < d.size * k
  · have hs : t < (Go.Sort.flatK enc k d).toList.length := by simpa using h
    have hq : t / k < d.size := Nat.div_lt_of_lt_mul (by rw [Nat.mul_comm]; exact h)
    rw [flatMap_getG enc k hk hp, List.getElem?_eq_getElem hs]
    have e1 := Go.Sort.get_flatK enc k d t h
    rw [getElem!_pos (Go.Sort.flatK enc k d) t (by simpa using h), getElem!_pos d (t / k) hq] at e1
    have hm : t % k < (enc d[t / k]).length := by rw [hk]; exact Nat.mod_lt _ hp
    rw [getElem!_pos (enc d[t / k]) (t % k) hm] at e1
    rw [List.getElem?_eq_getElem (by simpa using hq), Option.bind_some]
    simp only [Array.getElem_toList]
    rw [List.getElem?_eq_getElem hm, e1]
  · rw [List.getElem?_eq_none (by simpa using h), List.getElem?_eq_none (by rw [hl]; simpa using h)]
section
variable {α : Type} [Inhabited α] (enc : α → List Value) (k : Nat) (w : World) (blk m : Nat) (dk : Array α) (os : Array Go.Obj)
theorem sg_block {b : Nat} (hne : b ≠ blk) (hb : b < w.heap.size) : (sortWorldK enc k w blk 0 m dk os).heap[b]? = w.heap[b]? := by
  show ((w.heap.modify blk _) ++ os)[b]? = _
  rw [Array.getElem?_append_left (by simpa using hb), Array.getElem?_modify, if_neg (fun e => hne e.symm)]
theorem sg_size : w.heap.size ≤ (sortWorldK enc k w blk 0 m dk os).heap.size := by
  show _ ≤ ((w.heap.modify blk _) ++ os).size
  simp
theorem sg_row {n cap : Nat} {ds : List Value} (h : Row w (slv (some blk) n cap) k n ds (some blk)) (hs : dk.size = n) (hlt : blk < w.heap.size) :
    Row (sortWorldK enc k w blk 0 m dk os) (slv (some blk) n cap) k n (Go.Sort.flatK enc k dk).toList (some blk) := by
  obtain ⟨h0, h⟩ := h
  rcases h with ⟨_, _, h⟩ | ⟨g, cap', cur, e, hv, hg, hh, hc1, hc2, hc3, hc4⟩
  · cases h
  · cases hg
    refine ⟨by simp [hs], .inr ⟨blk, cap', Sort.putCells id 0 (Go.Sort.flatK enc k dk) cur, e, hv, rfl, ?_, hc1, hc2, by simpa [Sort.putCells] using hc3, ?_⟩⟩
    · show ((w.heap.modify blk _) ++ os)[blk]? = _
      rw [Array.getElem?_append_left (by simpa using hlt), Array.getElem?_modify, if_pos rfl, hh]
      rfl
    · have hle : n * k ≤ cap' * k := Nat.mul_le_mul_right k hc1
      refine List.ext_getElem? fun t => ?_
      by_cases ht : t < n * k
      · rw [List.getElem?_take_of_lt ht, List.getElem?_eq_getElem (by simp [Sort.putCells]; omega), List.getElem?_eq_getElem (by simp [hs]; omega)]
        simp only [Array.getElem_toList, Sort.putCells, Array.getElem_mapIdx, id]
        rw [if_pos ⟨Nat.zero_le _, by simp [hs]; omega⟩, Nat.sub_zero, getElem!_pos _ t (by simp [hs]; omega)]
      · rw [List.getElem?_eq_none (by simp; omega), List.getElem?_eq_none (by simp [hs]; omega)]
end
abbrev ElC {β : Type} (e : β → List D) (ok : β → Prop) (A : Nat → Prop) (w : World) : Type := { x : List Value × β // rdCs A w x.1 (e x.2) ∧ ok x.2 }
theorem elc_of {β : Type} {e : β → List D} {ok : β → Prop} {A : Nat → Prop} {w : World} {k : Nat} : ∀ {zs : List β} {ds : List Value}, rdR k A w ds (zs.map e) → (∀ z ∈ zs, ok z) → ∃ xs : List (ElC e ok A w), ds = xs.flatMap (·.1.1) ∧ zs = xs.map (·.1.2)
  | [], ds, h, _ => ⟨[], by have := h.len; simpa using this, rfl⟩
  | z :: zs, ds, h, hz => by
    obtain ⟨c, e', rfl, hy, hc, k1, k2⟩ := h.cons_inv
    obtain ⟨xs, e1, e2⟩ := elc_of k2 (fun z hz' => hz z (by simp [hz']))
    exact ⟨⟨(c, z), k1, hz z (by simp)⟩ :: xs, by rw [e1]; rfl, congrArg (z :: ·) e2⟩
theorem elc_to {β : Type} {e : β → List D} {ok : β → Prop} {A : Nat → Prop} {w w' : World} {k : Nat} (hkp : 0 < k) (hk : ∀ z, (e z).length = k) (hf : ∀ b, A b → b < w.heap.size → w'.heap[b]? = w.heap[b]?) : ∀ (xs : List (ElC e ok A w)), rdR k A w' (xs.flatMap (·.1.1)) ((xs.map (·.1.2)).map e)
  | [] => rdR.nil hkp
  | x :: xs => by
    have h1 := x.2.1.frame hf
    have h2 := elc_to hkp hk hf xs
    rw [List.flatMap_cons]
    exact (rdR.single hkp (hk x.1.2) h1).append h2
section
variable {P : Program} {ρ : Ren} (L : SlLaysF0.n6 P ρ) {β κ : Type} (e : β → List D) {k : Nat} (hkp : 0 < k) (hk : ∀ z, (e z).length = k) (aE : ∀ w, (isAgg (ρ.t 24)).run P w = .ok true w) (zE : ∀ w, (Go.sizeOf (ρ.t 24)).run P w = .ok k w)
  {c : κ → κ → Int} (hc : Cmp c) (key : β → κ) (ok : β → Prop) (z0 : β) (u0 : List Value) (h0 : ∀ A w, rdCs A w u0 (e z0)) (hz0 : ok z0) (g : Nat) (eg : ∀ args w, (callFunc g args).run P w = .ok (.enter g args) w)
  (hcmp : ∀ (W : World) (A : Nat → Prop) (x y : β) (us vs : List Value), (∀ b, A b → b < W.heap.size) → ok x → ok y → rdCs A W us (e x) → rdCs A W vs (e y) →
      Calls P g #[.agg us.toArray, .agg vs.toArray] W fun e w' => e = .returned (.int .i64 (c (key x) (key y))) ∧ ∃ q os', w' = Sort.grow (W.drewN q) os')
include L hkp hk aE zE hc h0 hz0 eg hcmp
set_option maxHeartbeats 1000000 in
theorem a_SortG (call : ∀ args w, (callFunc (ρ.f 6) args).run P w = .ok (.enter (ρ.f 6) args) w) (zs : List β) (hok : ∀ z ∈ zs, ok z) (hn : zs.length ≤ 1000000000) :
    AEf P (ρ.f 6) false [] k (zs.map e) [[.raw (.func (.func g) #[] #[])]] (fun rs oc => rs = [] ∧ ∃ zs' : List β, oc = some (zs'.map e) ∧ zs'.Perm zs ∧ zs'.Pairwise (fun a b => c (key a) (key b) ≤ 0)) := by
  refine ⟨call, fun A w vs us og cap ds hA hv hu hrow _ hel hog => ?_⟩
  have hv : vs = [] := hv
  subst hv
  obtain ⟨u, us', rfl, hu1, hu2⟩ := hu
  have hu2 : us' = [] := hu2
  subst hu2
  have hu1 : u = .func (.func g) #[] #[] := (rdV_raw.1 hu1).1
  subst hu1
  have fin : ∀ w' (zs' : List β) ds', zs'.Perm zs → zs'.Pairwise (fun a b => c (key a) (key b) ≤ 0) → Row w' (slv og zs.length cap) k zs.length ds' og → rdR k A w' ds' (zs'.map e) → Bel ⟨w, fun b => og = some b⟩ w' →
      ∃ v rs oc, (Ending.returned (.tuple #[]) : Ending) = .returned v ∧ (rs = [] ∧ ∃ zs' : List β, oc = some (zs'.map e) ∧ zs'.Perm zs ∧ zs'.Pairwise (fun a b => c (key a) (key b) ≤ 0)) ∧ Bel ⟨w, fun b => og = some b⟩ w' ∧
        relOut A (fun b => w.heap.size ≤ b ∨ (oc = none ∧ og = some b)) w' rs v ∧ Left A w' og cap k oc ∧ ∀ ys, oc = some ys → ys.length = zs.length := by
    intro w' zs' ds' hp hso hrow' hrd' hb
    have hl : (zs'.map e).length = (zs.map e).length := by rw [List.length_map, List.length_map, hp.length_eq]
    refine ⟨.tuple #[], [], some (zs'.map e), rfl, ⟨rfl, zs', rfl, hp, hso⟩, hb, ⟨[], [], [], rfl, List.nodup_nil, by simp, rfl, rfl, rfl⟩, ⟨ds', ?_, hrd'⟩, fun ys e => by cases e; rw [hl, List.length_map]⟩
    rw [hl, List.length_map]
    exact hrow'
  rw [List.length_map] at hrow ⊢
  cases og with
  | none =>
    have hz : zs = [] := List.eq_nil_of_length_eq_zero hrow.len0
    subst hz
    refine (AnyF.slices_SortFunc_none L none 0 _ w).mono ?_
    rintro e' w' ⟨rfl, rfl⟩
    exact fin w' [] ds (List.Perm.refl _) List.Pairwise.nil hrow hel ⟨rfl, rfl, rfl, Nat.le_refl _, fun _ _ _ => rfl⟩
  | some blk =>
    haveI : Inhabited (ElC e ok A w) := ⟨⟨(u0, z0), h0 A w, hz0⟩⟩
    obtain ⟨xs, e1, e2⟩ := elc_of hel hok
    have hlen : xs.toArray.size = zs.length := by rw [e2]; simp
    have hlt := hrow.lt blk rfl
    have hek : ∀ x : ElC e ok A w, x.1.1.length = k := fun x => by rw [x.2.1.len, hk]
    have hH : Go.Sort.HoldsK (fun x : ElC e ok A w => x.1.1) k w blk 0 xs.toArray := fun j hj => by
      rw [Nat.zero_add]
      refine ⟨?_, hrow.frozen j⟩
      have hf := flatK_listG (fun x : ElC e ok A w => x.1.1) k hek hkp xs.toArray
      rw [List.toList_toArray] at hf
      rw [getElem!_pos _ j hj]
      refine hrow.cells j _ ?_
      rw [e1, ← hf, List.getElem?_eq_getElem (by simpa using hj)]
      simp
    have hswo : Go.Sort.SWO (ltOf fun x y : ElC e ok A w => c (key x.1.2) (key y.1.2)) :=
      { irrefl := fun x => decide_eq_false (by show ¬ c _ _ < 0; rw [hc.refl]; omega)
        trans := fun x y z h1 h2 => decide_eq_true (by
          have h1 : c (key x.1.2) (key y.1.2) < 0 := of_decide_eq_true h1
          have h2 : c (key y.1.2) (key z.1.2) < 0 := of_decide_eq_true h2
          have a1 := hc.anti (key x.1.2) (key y.1.2)
          have a2 := hc.anti (key y.1.2) (key z.1.2)
          have a3 := hc.anti (key z.1.2) (key x.1.2)
          have a4 := hc.anti (key x.1.2) (key z.1.2)
          have t1 := hc.trans (key x.1.2) (key y.1.2) (key z.1.2) (by omega) (by omega)
          rcases Int.lt_or_eq_of_le t1 with t | t
          · exact t
          · have e3 := hc.zero _ _ t
            rw [e3] at h1
            omega)
        ntrans := fun x y z h1 h2 => decide_eq_false (by
          have h1 : ¬ c (key x.1.2) (key y.1.2) < 0 := of_decide_eq_false h1
          have h2 : ¬ c (key y.1.2) (key z.1.2) < 0 := of_decide_eq_false h2
          show ¬ c (key x.1.2) (key z.1.2) < 0
          intro h
          have a1 := hc.anti (key x.1.2) (key y.1.2)
          have a2 := hc.anti (key y.1.2) (key z.1.2)
          have := hc.trans (key z.1.2) (key y.1.2) (key x.1.2) (by have := hc.anti (key y.1.2) (key z.1.2); omega) (by have := hc.anti (key x.1.2) (key y.1.2); omega)
          have a3 := hc.anti (key x.1.2) (key z.1.2)
          omega) }
    have hC : CmpLays P g #[] (fun x : ElC e ok A w => x.1.1) k (fun x y : ElC e ok A w => c (key x.1.2) (key y.1.2)) blk 0 xs.toArray.size w := fun m os dk _ x y => by
      have hfr : ∀ b, A b → b < w.heap.size → (sortWorldK (fun x : ElC e ok A w => x.1.1) k w blk 0 m dk os).heap[b]? = w.heap[b]? := fun b hb hl => sg_block _ k w blk m dk os (fun e => hog b (by rw [e]) hb) hl
      exact hcmp _ A x.1.2 y.1.2 _ _ (fun b hb => Nat.lt_of_lt_of_le (hA b hb) (sg_size _ k w blk m dk os)) x.2.2 y.2.2 (x.2.1.frame hfr) (y.2.1.frame hfr)
    have hs := AnyQ.slices_SortFunc L k aE zE (fun x : ElC e ok A w => x.1.1) hek (fun x v hv => x.2.1.one v hv) (fun x y : ElC e ok A w => c (key x.1.2) (key y.1.2)) hswo g #[] blk 0 cap xs.toArray w eg hC hH hlt (by rw [hlen]; omega)
    rw [hlen] at hs
    have hm := Calls.mono hs (R' := fun e' w' => ∃ v rs oc, e' = .returned v ∧ (rs = [] ∧ ∃ zs' : List β, oc = some (zs'.map e) ∧ zs'.Perm zs ∧ zs'.Pairwise (fun a b => c (key a) (key b) ≤ 0)) ∧ Bel ⟨w, fun b => some blk = some b⟩ w' ∧
        relOut A (fun b => w.heap.size ≤ b ∨ (oc = none ∧ some blk = some b)) w' rs v ∧ Left A w' (some blk) cap k oc ∧ ∀ ys, oc = some ys → ys.length = zs.length) ?_
    · exact hm
    rintro e' w' ⟨rfl, d', n, os, ⟨hp1, _, hp3⟩, hsd, rfl⟩
    have hd : d'.size = zs.length := by rw [hp1, hlen]
    refine fin _ (d'.toList.map (·.1.2)) _ ?_ ?_ (sg_row _ k w blk n d' os hrow hd hlt) ?_ ⟨rfl, rfl, rfl, sg_size _ k w blk n d' os, fun b hb hne => sg_block _ k w blk n d' os (fun e => hne (by rw [e])) hb⟩
    · rw [e2]
      refine List.Perm.map _ ?_
      rw [← hlen] at hp3
      rw [show d'.extract 0 xs.toArray.size = d' by rw [← hp1]; simp, show xs.toArray.extract 0 xs.toArray.size = xs.toArray by simp, List.toList_toArray] at hp3
      exact hp3
    · rw [List.pairwise_iff_getElem]
      intro i j hi hj hij
      have hi' : i < d'.size := by simpa using hi
      have hj' : j < d'.size := by simpa using hj
      have h1 := hsd i j (Nat.zero_le _) hij (by omega)
      rw [getElem!_pos d' i hi', getElem!_pos d' j hj'] at h1
      have h1 : ¬ c (key d'[j].1.2) (key d'[i].1.2) < 0 := of_decide_eq_false h1
      have h2 := hc.anti (key d'[j].1.2) (key d'[i].1.2)
      simp only [List.getElem_map, Array.getElem_toList]
      omega
    · rw [flatK_listG _ k hek hkp]
      exact elc_to hkp hk (fun b hb hl => sg_block _ k w blk n d' os (fun e => hog b (by rw [e]) hb) hl) d'.toList
end
end Go.Proofs.YtfhmonacgmakbaaGreat
