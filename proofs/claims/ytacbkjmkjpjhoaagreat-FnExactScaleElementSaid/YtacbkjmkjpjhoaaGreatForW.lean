/- The comparisons of forests: compareTrunks and compareForests (the walks). -/
import Derived.Test.YtacbkjmkjpjhoaaGreatAd
import Derived.Test.YtacbkjmkjpjhoaaGreatSumD
set_option linter.unusedSimpArgs false
set_option linter.unusedVariables false
namespace Go.Proofs.YtacbkjmkjpjhoaaGreat
open Go.RowKit

theorem lexC_step {α : Type} {c : α → α → Int} {f g : List α} {k : Nat} (h1 : k < f.length) (h2 : k < g.length) : lexC c (f.drop k) (g.drop k) = if c f[k] g[k] = 0 then lexC c (f.drop (k + 1)) (g.drop (k + 1)) else c f[k] g[k] := by
  rw [List.drop_eq_getElem_cons h1, List.drop_eq_getElem_cons h2]; rfl
theorem lexC_endL {α : Type} {c : α → α → Int} {f g : List α} {k : Nat} (h1 : ¬ k < f.length) (h2 : k < g.length) : lexC c (f.drop k) (g.drop k) = -1 := by
  rw [List.drop_eq_nil_of_le (Nat.not_lt.1 h1), List.drop_eq_getElem_cons h2]; rfl
theorem lexC_endR {α : Type} {c : α → α → Int} {f g : List α} {k : Nat} (h1 : k < f.length) (h2 : ¬ k < g.length) : lexC c (f.drop k) (g.drop k) = 1 := by
  rw [List.drop_eq_getElem_cons h1, List.drop_eq_nil_of_le (Nat.not_lt.1 h2)]; rfl
theorem lexC_end0 {α : Type} {c : α → α → Int} {f g : List α} {k : Nat} (h1 : ¬ k < f.length) (h2 : ¬ k < g.length) : lexC c (f.drop k) (g.drop k) = 0 := by
  rw [List.drop_eq_nil_of_le (Nat.not_lt.1 h1), List.drop_eq_nil_of_le (Nat.not_lt.1 h2)]; rfl

set_option maxRecDepth 100000 in
set_option maxHeartbeats 2000000 in
theorem c_CompareFunc (v1 v2 : Value) (f g : List (List Int)) (w : World) (h1 : Rd (RS (RS RI)) w [v1] f) (h2 : Rd (RS (RS RI)) w [v2] g) :
    Calls Tryz.prog 162 #[v1, v2, .func (.func 136) #[] #[]] w (RetS w (.int .i64 (lexC cmpT f g))) := by
  obtain ⟨oa, ca, L1⟩ := h1.lists
  obtain ⟨ob, cb, L2⟩ := h2.lists
  obtain rfl := L1.val
  obtain rfl := L2.val
  have m1 := L1.le; have m2 := L1.capLe; have m3 := L2.le; have m4 := L2.capLe
  unfold maxLen at m2 m4
  have HL1 := Lib.hid L1
  have HL2 := Lib.hid L2
  clear L1 L2 h1 h2
  go_enter Tryz.func162, Tryz.ntmps162
  go_wp2_with fail
  go_loop [13] (fun i => ∃ k : Nat, k ≤ f.length ∧ k ≤ g.length ∧ i = .int .i64 k ∧ lexC cmpT f g = lexC cmpT (f.drop k) (g.drop k)) (fun i => f.length - (intOf i).toNat)
  case atStart => exact ⟨0, Nat.zero_le _, Nat.zero_le _, rfl, by simp⟩
  case round =>
    obtain ⟨k, hk, hk2, rfl, he⟩ := hrel
    have He := Lib.hid he
    clear he
    by_cases hlt : k < f.length
    · obtain ⟨b1, o1, rfl, hb1, hc1⟩ := HL1.out.get hlt
      obtain ⟨oi, ci, g1, hrd1, q1, q2⟩ := hc1 k hlt
      clear hc1
      by_cases hlt2 : k < g.length
      · obtain ⟨b2, o2, rfl, hb2, hc2⟩ := HL2.out.get hlt2
        obtain ⟨oj, cj, g2, hrd2, q3, q4⟩ := hc2 k hlt2
        clear hc2
        have hs := lexC_step (c := cmpT) hlt hlt2
        by_cases h0 : cmpT f[k] g[k] = 0
        · rw [if_pos h0] at hs
          have hcall := c_impl_compareTrees _ _ _ _ w hrd1 hrd2
          rw [h0] at hcall
          have HC := Lib.hid hcall
          have Hs := Lib.hid hs
          obtain ⟨x1, hx1⟩ : ∃ x, x = f[k].length := ⟨_, rfl⟩
          obtain ⟨x2, hx2⟩ : ∃ x, x = g[k].length := ⟨_, rfl⟩
          rw [← hx1] at g1 q1 HC
          rw [← hx2] at g2 q3 HC
          clear hs h0 hcall hrd1 hrd2 hx1 hx2
          go_wp2_with (go_at_call 136; refine HC.out.mono ?_; rintro e w' ⟨rfl, rfl⟩)
          go_round
          case rel => exact ⟨k + 1, by omega, by omega, by go_num, by rw [He.out, Hs.out]⟩
          case measure => simp [intOf]; omega
        · rw [if_neg h0] at hs
          have hcall := c_impl_compareTrees _ _ _ _ w hrd1 hrd2
          have hb : (cmpT f[k] g[k] != 0) = true := by simp [h0]
          obtain ⟨z, hz⟩ : ∃ z, z = cmpT f[k] g[k] := ⟨_, rfl⟩
          rw [← hz] at hcall hb hs
          have HC := Lib.hid hcall
          have Hs := Lib.hid hs
          obtain ⟨x1, hx1⟩ : ∃ x, x = f[k].length := ⟨_, rfl⟩
          obtain ⟨x2, hx2⟩ : ∃ x, x = g[k].length := ⟨_, rfl⟩
          rw [← hx1] at g1 q1 HC
          rw [← hx2] at g2 q3 HC
          clear hs h0 hcall hrd1 hrd2 hx1 hx2 hz
          go_wp2_with (go_at_call 136; refine HC.out.mono ?_; rintro e w' ⟨rfl, rfl⟩)
          go_ret
          exact ⟨by (rw [He.out, Hs.out] <;> rfl), rfl⟩
      · have HE := Lib.hid (lexC_endR (c := cmpT) hlt hlt2)
        go_wp2_with fail
        go_ret
        exact ⟨by (rw [He.out, HE.out] <;> rfl), rfl⟩
    · by_cases hlt2 : k < g.length
      · have HE := Lib.hid (lexC_endL (c := cmpT) hlt hlt2)
        go_wp2_with fail
        go_ret
        exact ⟨by (rw [He.out, HE.out] <;> rfl), rfl⟩
      · have HE := Lib.hid (lexC_end0 (c := cmpT) hlt hlt2)
        go_wp2_with fail
        go_ret
        exact ⟨by (rw [He.out, HE.out] <;> rfl), rfl⟩

/-- compareTrunks. -/
def cmpN : List (List Int) → List (List Int) → Int := thenC (fun f => (f.length : Int)) (lexC cmpT)
theorem cmpN_eq (f g : List (List Int)) : cmpN f g = if (f.length : Int) = g.length then lexC cmpT f g else (f.length : Int) - g.length := rfl
theorem cmpF_N (f g : List (List Int)) : cmpF f g = if (sumLen f : Int) = sumLen g then cmpN f g else (sumLen f : Int) - sumLen g := rfl

set_option maxRecDepth 100000 in
set_option maxHeartbeats 400000 in
theorem c_compareTrunks (v1 v2 : Value) (f g : List (List Int)) (w : World) (h1 : Rd (RS (RS RI)) w [v1] f) (h2 : Rd (RS (RS RI)) w [v2] g) :
    Calls Tryz.prog 124 #[v1, v2] w (RetS w (.int .i64 (cmpN f g))) := by
  obtain ⟨oa, c1, e1, m1, m2⟩ := h1.val
  obtain ⟨ob, c2, e2, m3, m4⟩ := h2.val
  subst e1; subst e2
  unfold maxLen at m2 m4
  rw [cmpN_eq]
  by_cases hl : f.length = g.length
  · have hlb : ((f.length : Int) != (g.length : Int)) = false := by simp [hl]
    have hcall := c_CompareFunc _ _ _ _ w h1 h2
    rw [if_pos (by rw [hl])]
    have HC := Lib.hid hcall
    clear hl hcall h1 h2
    go_enter Tryz.func124, Tryz.ntmps124
    go_wp2_with (go_at_call 162; refine HC.out.mono ?_; rintro e w' ⟨rfl, rfl⟩)
    go_ret
    exact ⟨rfl, rfl⟩
  · have hlb : ((f.length : Int) != (g.length : Int)) = true := by simp; omega
    have hw : IntKind.i64.wrap ((f.length : Int) - (g.length : Int)) = (f.length : Int) - (g.length : Int) := IntWalk.i64_in _ (by omega)
    rw [if_neg (by omega)]
    clear h1 h2
    go_enter Tryz.func124, Tryz.ntmps124
    go_wp2_with fail
    go_ret
    exact ⟨rfl, rfl⟩

set_option maxRecDepth 100000 in
set_option maxHeartbeats 400000 in
theorem c_compareForests (v1 v2 : Value) (f g : List (List Int)) (w : World) (h1 : Rd (RS (RS RI)) w [v1] f) (h2 : Rd (RS (RS RI)) w [v2] g) (hf : sumLen f ≤ 1000000000000000000) (hg : sumLen g ≤ 1000000000000000000) :
    Calls Tryz.prog 77 #[v1, v2] w (RetS w (.int .i64 (cmpF f g))) := by
  have hn1 := c_impl_nodesIn _ _ w h1
  have hn2 := c_impl_nodesIn _ _ w h2
  rw [nodesB_eq f hf] at hn1
  rw [nodesB_eq g hg] at hn2
  have ht := c_compareTrunks _ _ _ _ w h1 h2
  rw [cmpF_N]
  obtain ⟨p, hp⟩ : ∃ p, p = sumLen f := ⟨_, rfl⟩
  obtain ⟨q, hq⟩ : ∃ q, q = sumLen g := ⟨_, rfl⟩
  rw [← hp] at hf hn1 ⊢
  rw [← hq] at hg hn2 ⊢
  have hw : IntKind.i64.wrap ((p : Int) - (q : Int)) = (p : Int) - (q : Int) := IntWalk.i64_in _ (by omega)
  obtain ⟨Rl, hR⟩ : ∃ R : Value → Int → Prop, ∀ v n, R v n ↔ Calls Tryz.prog 88 #[v] w (RetS w (.int .i64 n)) := ⟨_, fun _ _ => Iff.rfl⟩
  have r1 : Rl v1 p := (hR _ _).2 hn1
  have r2 : Rl v2 q := (hR _ _).2 hn2
  have HN : Hid (∀ v n, Rl v n → Calls Tryz.prog 88 #[v] w (RetS w (.int .i64 n))) := Lib.hid (fun v n => (hR v n).1)
  have H3 := Lib.hid ht
  clear hp hq h1 h2 hn1 hn2 ht hR
  by_cases hl : (p : Int) = q
  · have hlb : (((p : Int) - (q : Int)) != 0) = false := by rw [hl]; simp
    rw [if_pos hl]
    clear hl
    go_enter Tryz.func77, Tryz.ntmps77
    go_wp2_with (first | (go_at_call 88; refine (HN.out _ _ (by assumption)).mono ?_; rintro e w' ⟨rfl, rfl⟩) | (go_at_call 124; refine H3.out.mono ?_; rintro e w' ⟨rfl, rfl⟩))
    go_ret
    exact ⟨rfl, rfl⟩
  · have hlb : (((p : Int) - (q : Int)) != 0) = true := by simp; omega
    rw [if_neg hl]
    clear hl
    go_enter Tryz.func77, Tryz.ntmps77
    go_wp2_with (go_at_call 88; refine (HN.out _ _ (by assumption)).mono ?_; rintro e w' ⟨rfl, rfl⟩)
    go_ret
    exact ⟨rfl, rfl⟩

theorem cmpF_in64 {f g : List (List Int)} (hf : sumLen f ≤ 1000000000000000000) (hg : sumLen g ≤ 1000000000000000000) (h1 : f.length ≤ maxLen) (h2 : g.length ≤ maxLen) (h3 : ∀ t ∈ f, t.length ≤ maxLen) (h4 : ∀ t ∈ g, t.length ≤ maxLen) : In64 (cmpF f g) := by
  have hl : ∀ (f g : List (List Int)), (∀ t ∈ f, t.length ≤ maxLen) → (∀ t ∈ g, t.length ≤ maxLen) → In64 (lexC cmpT f g) := by
    intro f
    induction f with
    | nil => intro g _ _; cases g <;> (unfold lexC In64; omega)
    | cons x xs ih => intro g h3 h4; cases g with
      | nil => unfold lexC In64; omega
      | cons y bs =>
        unfold lexC
        split
        · exact ih bs (fun t ht => h3 t (by simp [ht])) (fun t ht => h4 t (by simp [ht]))
        · exact cmpT_in64 (h3 x (by simp)) (h4 y (by simp))
  rw [cmpF_N, cmpN_eq]
  unfold maxLen at h1 h2
  split
  · split
    · exact hl f g h3 h4
    · unfold In64; omega
  · unfold In64; omega
end Go.Proofs.YtacbkjmkjpjhoaaGreat
