/- Contracts taken over to states of values: comparisons, level lists, canonical lists. -/
import Derived.Test.YtacbkjmkjpjhoaaGreatTabs
import Derived.Test.YtacbkjmkjpjhoaaGreatCmp
import Derived.Test.YtacbkjmkjpjhoaaGreatLev
import Derived.Test.YtacbkjmkjpjhoaaGreatCanonS
import Derived.Test.YtacbkjmkjpjhoaaGreatNum2
import Derived.Test.YtacbkjmkjpjhoaaGreatCanonW
import Derived.Test.YtacbkjmkjpjhoaaGreatForest
set_option linter.unusedSimpArgs false
set_option linter.unusedVariables false
namespace Go.Proofs.YtacbkjmkjpjhoaaGreat
open Go.RowKit

theorem a_l03Before (xs ys : List Int) : AFn Tryz.prog 147 [eL xs, eL ys] (· = [.val (.bool (decide (cmpT xs ys < 0)))]) :=
  AFn.of_q (v := .bool _) (enters_of Tryz.func147 rfl rfl) (fun _ _ => rdV_bool.2 rfl) (fun w A vs ⟨v1, _, e1, h1, v2, _, e2, h2, e3⟩ => by subst e3; subst e2; subst e1; exact c_spec_l03Before v1 v2 xs ys w (Rd.of (rd1 h1)) (Rd.of (rd1 h2)))
theorem a_l01Same (xs ys : List Int) : AFn Tryz.prog 187 [eL xs, eL ys] (· = [.val (.bool (decide (xs = ys)))]) :=
  AFn.of_q (v := .bool _) (enters_of Tryz.func187 rfl rfl) (fun _ _ => rdV_bool.2 rfl) (fun w A vs ⟨v1, _, e1, h1, v2, _, e2, h2, e3⟩ => by subst e3; subst e2; subst e1; exact c_spec_l01Same v1 v2 xs ys w (Rd.of (rd1 h1)) (Rd.of (rd1 h2)))
theorem a_l01Own (xs : List Int) (hsz : xs.length ≤ 1000000000) : AFn Tryz.prog 122 [eL xs] (· = [.own 1 (xs.map eI) true]) :=
  AFn.of_o encI (enters_of Tryz.func122 rfl rfl) (fun w A vs ⟨v1, _, e1, h1, e2⟩ => by subst e2; subst e1; exact c_spec_l01Own v1 xs w (Rd.of (rd1 h1)) hsz)
theorem getD_in {t : List Int} {i : Nat} (h : i < t.length) : t.getD i 0 = t[i] := by simp [h]
theorem cmpT_in64 {xs ys : List Int} (h1 : xs.length ≤ maxLen) (h2 : ys.length ≤ maxLen) : In64 (cmpT xs ys) := by
  unfold maxLen at h1 h2
  unfold cmpT In64
  have := cmpL_range ys xs
  split <;> omega
theorem a_compareTrees (xs ys : List Int) : AFn Tryz.prog 136 [eL xs, eL ys] (· = [.val (.int (cmpT xs ys))]) := by
  refine ⟨enters_of Tryz.func136 rfl rfl, fun A w vs hA ⟨v1, _, e1, h1, v2, _, e2, h2, e3⟩ => ?_⟩
  subst e3; subst e2; subst e1
  obtain ⟨oa, c1, k1, m1, m2⟩ := (Rd.of (rd1 h1)).val
  obtain ⟨ob, c2, k2, m3, m4⟩ := (Rd.of (rd1 h2)).val
  refine (c_impl_compareTrees v1 v2 xs ys w (Rd.of (rd1 h1)) (Rd.of (rd1 h2))).mono ?_
  rintro e w' ⟨rfl, rfl⟩
  exact ⟨_, _, rfl, rfl, Below.refl _ _, [_], [], [], rfl, List.nodup_nil, by simp, _, [], [], [], [], [], rfl, rfl, rfl, rfl, ⟨rdV_int.2 ⟨rfl, cmpT_in64 (by omega) (by omega)⟩, rfl, rfl⟩, rfl, rfl, rfl⟩
theorem a_impl_IsLevels (t : List Int) : AFn Tryz.prog 89 [eL t] (· = [.val (.bool (lev8 t))]) := afn_L_s (v := .bool _) (enters_of Tryz.func89 rfl rfl) (fun _ _ => rdV_bool.2 rfl) (fun u w h => c_impl_IsLevels u t w h)
theorem a_spec_l03Is (t : List Int) (hsz : t.length ≤ 1048576) : AFn Tryz.prog 186 [eL t] (· = [.val (.bool (lev8 t))]) := afn_L_q (v := .bool _) (enters_of Tryz.func186 rfl rfl) (fun _ _ => rdV_bool.2 rfl) (fun u w h => c_spec_l03Is u t w h (by omega))
theorem a_slicesEqual (xs ys : List Int) : AFn Tryz.prog 180 [eL xs, eL ys] (· = [.val (.bool (decide (xs = ys)))]) := afn_LL_q (v := .bool _) (enters_of Tryz.func180 rfl rfl) (fun _ _ => rdV_bool.2 rfl) (fun u1 u2 w h1 h2 => c_slicesEqual u1 u2 xs ys w h1 h2)
theorem a_impl_inRange (x y z : Int) : AFn Tryz.prog 100 [eI x, eI y, eI z] (· = [.val (.bool (inR x y z))]) := afn_III_s (v := .bool _) (enters_of Tryz.func100 rfl rfl) (fun _ _ => rdV_bool.2 rfl) (fun w => c_impl_inRange x y z w)
theorem a_spec_l01In (x y z : Int) : AFn Tryz.prog 49 [eI x, eI y, eI z] (· = [.val (.bool (inR x y z))]) := afn_III_s (v := .bool _) (enters_of Tryz.func49 rfl rfl) (fun _ _ => rdV_bool.2 rfl) (fun w => c_spec_l01In x y z w)
theorem a_l03Canon (t : List Int) (h : LevP t) (hl : t.length ≤ 8) : AFn Tryz.prog 111 [eL t] (· = [.own 1 ((canon t).map eI) true]) :=
  afn_L_o (enters_of Tryz.func111 rfl rfl) (fun u w h' => c_spec_l03Canon 8 u t w h' h hl (by omega))
theorem a_canonical (t : List Int) (h : LevP t) (hl : t.length ≤ 8) : AFn Tryz.prog 61 [eL t] (· = [.own 1 ((canon t).map eI) true]) :=
  afn_L_o (enters_of Tryz.func61 rfl rfl) (fun u w h' => c_impl_canonical 8 u t w h' h hl (by omega))
theorem nodesB_in64 (f : List (List Int)) : In64 (nodesB f) := by
  have : ∀ (bs : List (List Int)) (a : Int), In64 a → In64 (bs.foldl (fun a b => wrap64 (a + (b.length : Int))) a) := by
    intro bs
    induction bs with
    | nil => intro a h; exact h
    | cons b bs ih => intro a _; exact ih _ (by show In64 (wrap64 (a + (b.length : Int))); unfold In64 wrap64; omega)
  exact this f 0 (by unfold In64; omega)
theorem a_nodesIn (f : List (List Int)) : AFn Tryz.prog 88 [eLL f] (· = [.val (.int (nodesB f))]) :=
  afn_LLL_s (enters_of Tryz.func88 rfl rfl) (fun _ _ => rdV_int.2 ⟨rfl, nodesB_in64 f⟩) (fun u w h => c_impl_nodesIn u f w h)
theorem a_l03Nodes (f : List (List Int)) : AFn Tryz.prog 98 [eLL f] (· = [.val (.int (nodesB f))]) :=
  afn_LLL_s (enters_of Tryz.func98 rfl rfl) (fun _ _ => rdV_int.2 ⟨rfl, nodesB_in64 f⟩) (fun u w h => c_spec_l03Nodes u f w h)
end Go.Proofs.YtacbkjmkjpjhoaaGreat
