/- ButcherProduct: both programs. -/
import Derived.Test.YtmeijcgclllldaaGraftAt
import Derived.Test.YtmeijcgclllldaaButcherP
namespace Go.Proofs.Ytmeijcgclllldaa
open Go.RowKit

/-- The code of lists that are put together. -/
def ckOf (xs : List (List Int)) : Int := if xs.all lev8 = true then (if sumLen xs ≤ 8 then 0 else 3) else 1

theorem sumLen_le8 : ∀ xs : List (List Int), xs.all lev8 = true → sumLen xs ≤ 8 * xs.length
  | [], _ => by simp [sumLen]
  | x :: xs, h => by
    rw [List.all_cons, Bool.and_eq_true] at h
    have := sumLen_le8 xs h.2
    have := lev8_len h.1
    simp only [sumLen, List.map_cons, List.sum_cons, List.length_cons] at *
    omega

set_option maxRecDepth 100000 in
set_option maxHeartbeats 400000 in
theorem c_impl_checkGraft (v : Value) (xs : List (List Int)) (w : World) (h : Rd (RS (RS RI)) w [v] xs) (hl : xs.length ≤ 1000000) : Calls Try.prog 70 #[v] w (RetS w (.int .i64 (ckOf xs))) := by
  have hal := c_impl_areLevels v xs w h
  have hnd := c_impl_nodesIn v xs w h
  unfold ckOf
  cases hall : xs.all lev8
  · rw [hall] at hal
    clear hall
    go_enter Try.func70, Try.ntmps70
    go_wp2_with fail
    refine hal.mono ?_
    rintro e w' ⟨rfl, rfl⟩
    go_wp2_with fail
    go_ret
    exact ⟨rfl, rfl⟩
  · rw [hall] at hal
    have h8 := sumLen_le8 xs hall
    rw [nodesB_eq xs (by omega)] at hnd
    by_cases hs : sumLen xs ≤ 8
    · have h1 : ¬ ((sumLen xs : Nat) : Int) > 8 := by omega
      have h2 : ¬ (8 : Int) < ((sumLen xs : Nat) : Int) := by omega
      clear hall
      go_enter Try.func70, Try.ntmps70
      go_wp2_with fail
      refine hal.mono ?_
      rintro e w' ⟨rfl, rfl⟩
      go_wp2_with fail
      refine hnd.mono ?_
      rintro e w' ⟨rfl, rfl⟩
      go_wp2_with fail
      go_ret
      exact ⟨by simp, rfl⟩
    · have h1 : ((sumLen xs : Nat) : Int) > 8 := by omega
      have h2 : (8 : Int) < ((sumLen xs : Nat) : Int) := by omega
      clear hall
      go_enter Try.func70, Try.ntmps70
      go_wp2_with fail
      refine hal.mono ?_
      rintro e w' ⟨rfl, rfl⟩
      go_wp2_with fail
      refine hnd.mono ?_
      rintro e w' ⟨rfl, rfl⟩
      go_wp2_with fail
      go_ret
      exact ⟨by simp, rfl⟩

/-- What ButcherProduct returns. -/
def bpOf (u v : List Int) : List Int × Int := if ckOf [u, v] = 0 then (canon (graftL (canon u) 0 v), 0) else ([], ckOf [u, v])

theorem ck_two (u v : List Int) : ckOf [u, v] = 0 ↔ (lev8 u = true ∧ lev8 v = true) ∧ u.length + v.length ≤ 8 := by
  unfold ckOf
  have e : sumLen [u, v] = u.length + v.length := by simp [sumLen]
  rw [e]
  cases h1 : lev8 u <;> cases h2 : lev8 v <;> simp [h1, h2] <;> split <;> simp <;> omega

theorem bpOf_cnt (u v : List Int) : cnt_I (bpOf u v).1 ≤ 1048576 := by
  unfold bpOf
  by_cases h : ckOf [u, v] = 0
  · rw [if_pos h]
    obtain ⟨⟨h1, h2⟩, h3⟩ := (ck_two u v).1 h
    have := (graft_ok h1 (n := 0) (lev8_lev h1).pos (lev8_lev h2) h3).2.1
    unfold cnt_I
    show (canon (graftL (canon u) 0 v)).length ≤ 1048576
    rw [canon_len (lev8_lev this)]
    have := lev8_len this
    omega
  · rw [if_neg h]; simp [cnt_I]

set_option maxRecDepth 100000 in
set_option maxHeartbeats 500000 in
theorem k_impl_ButcherProduct (v0 v2 : Value) (u v : List Int) (w : World) (h0 : Rd (RS RI) w [v0] u) (h2 : Rd (RS RI) w [v2] v) :
    Calls Try.prog 35 #[v0, v2] w (RetOC (RS RI) w (bpOf u v).1 (bpOf u v).2) := by
  have hb0 : Below w.heap.size w (w.alloc (.cells #[v0, v2] 22)) := (Below.refl _ _).alloc (Nat.le_refl _) _
  have hck := c_impl_checkGraft (.slice (some ⟨w.heap.size, 0, none⟩) 2 2) [u, v] (w.alloc (.cells #[v0, v2] 22)) (Rd.two h0 h2 rfl) (by show 2 ≤ 1000000; omega)
  obtain ⟨oa0, c0, rfl, m1, m2⟩ := h0.val
  obtain ⟨oa2, c2, rfl, m3, m4⟩ := h2.val
  unfold maxLen at m2 m4
  have HB0 := hb0
  by_cases h : ckOf [u, v] = 0
  · obtain ⟨⟨p1, p2⟩, h8⟩ := (ck_two u v).1 h
    have hr : Hid (bpOf u v = (canon (graftL (canon u) 0 v), 0)) := Lib.hid (by unfold bpOf; rw [if_pos h])
    rw [h] at hck
    have hg := graft_ok p1 (n := 0) (lev8_lev p1).pos (lev8_lev p2) h8
    have hcl := canon_len (lev8_lev p1)
    have hc8 := lev8_canon p1
    have hpos := (lev8_lev p1).pos
    have l1 := lev8_len p1
    have HCN : Hid (∀ W, Below w.heap.size w W → Calls Try.prog 59 #[.slice oa0 u.length c0] W (RetO (RS RI) W (canon u))) := Lib.hid (fun W hb => c_impl_canonical 13 _ u W (h0.below hb (Nat.le_refl _)) (lev8_lev p1) (by omega) (by omega))
    obtain ⟨cu, hcu⟩ : ∃ cu, cu = canon u := ⟨_, rfl⟩
    rw [← hcu] at hg hcl hc8 HCN hr
    obtain ⟨gr, hgr⟩ : ∃ gr, gr = canon (graftL cu 0 v) := ⟨_, rfl⟩
    rw [← hgr] at hg hr
    have HGR : Hid (∀ (W : World) (a b c : Value), Rd (RS RI) W [a] cu → Rd (RS RI) W [b] [(0 : Int)] → Rd (RS (RS RI)) W [c] [v] → Calls Try.prog 67 #[a, b, c] W (RetO (RS RI) W gr)) := Lib.hid (fun W a b c ra rb rc => by
      have := c_impl_grafted a b c cu [(0 : Int)] [v] W ra rb rc hc8 (by simpa using p2) rfl (by intro x hx; rw [List.mem_singleton] at hx; subst hx; omega) (by simp [sumLen]; omega) hg.1
      have e := hg.2.2
      rw [show (((0 : Nat) : Int)) = (0 : Int) from rfl] at e
      rw [e] at this
      exact this)
    have HV := Lib.hid h2
    clear hcu hgr hg hcl hc8 p1 p2 h0 h2 h
    go_enter Try.func35, Try.ntmps35
    go_wp2_with fail
    refine hck.mono ?_
    rintro e w' ⟨rfl, rfl⟩
    go_wp2_with fail
    refine (HCN.out _ HB0).mono ?_
    rintro e w1 ⟨u1, rfl, o1, b1⟩
    have hb1 := hb0.trans (b1.mono hb0.size)
    go_wp2_with fail
    have hr1 : Below w1.heap.size w1 (w1.alloc (.cells #[.int .i64 0] 3)) := (Below.refl _ _).alloc (Nat.le_refl _) _
    have hr2 : Below w1.heap.size w1 ((w1.alloc (.cells #[.int .i64 0] 3)).alloc (.cells #[.slice oa2 v.length c2] 22)) := hr1.alloc (by simp) _
    have hr3 : Below (w1.alloc (.cells #[.int .i64 0] 3)).heap.size (w1.alloc (.cells #[.int .i64 0] 3)) ((w1.alloc (.cells #[.int .i64 0] 3)).alloc (.cells #[.slice oa2 v.length c2] 22)) := (Below.refl _ _).alloc (Nat.le_refl _) _
    have q1 : Rd (RS RI) ((w1.alloc (.cells #[.int .i64 0] 3)).alloc (.cells #[.slice oa2 v.length c2] 22)) [u1] cu := o1.rd.below hr2 (Nat.le_refl _)
    have q2 : Rd (RS RI) ((w1.alloc (.cells #[.int .i64 0] 3)).alloc (.cells #[.slice oa2 v.length c2] 22)) [.slice (some ⟨w1.heap.size, 0, none⟩) 1 1] [(0 : Int)] :=
      (Rd.lit (ds := [.int .i64 0]) (xs := [(0 : Int)]) (w := w1) (rdL.single (R := RI) ⟨rfl, by omega, by omega⟩) rfl (by show 1 ≤ maxLen; decide)).below hr3 (Nat.le_refl _)
    have q3 : Rd (RS (RS RI)) ((w1.alloc (.cells #[.int .i64 0] 3)).alloc (.cells #[.slice oa2 v.length c2] 22)) [.slice (some ⟨w1.heap.size + 1, 0, none⟩) 1 1] [v] := by
      rw [show w1.heap.size + 1 = (w1.alloc (.cells #[.int .i64 0] 3)).heap.size from by simp]
      exact
      Rd.lit (ds := [.slice oa2 v.length c2]) (xs := [v]) (w := w1.alloc (.cells #[.int .i64 0] 3)) (rdL.single (R := RS RI) ((HV.out.below hb1 (Nat.le_refl _)).below hr1 (Nat.le_refl _))) rfl (by show 1 ≤ maxLen; decide)
    refine (HGR.out _ _ _ _ q1 q2 q3).mono ?_
    rintro e w5 ⟨u5, rfl, o5, b5⟩
    go_wp2_with fail
    go_ret2
    have t1 := hb1.size
    have t2 := hr2.size
    exact ⟨_, by rw [hr.out]; rfl, by rw [hr.out]; exact o5.mono (by omega) (Nat.le_refl _), hb1.trans ((hr2.trans (b5.mono t2)).mono t1)⟩
  · have hr : Hid (bpOf u v = ([], ckOf [u, v])) := Lib.hid (by unfold bpOf; rw [if_neg h])
    obtain ⟨c, hc⟩ : ∃ c, c = ckOf [u, v] := ⟨_, rfl⟩
    rw [← hc] at hck hr h
    have hcb : (c != 0) = true := by simp [h]
    clear hc h
    go_enter Try.func35, Try.ntmps35
    go_wp2_with fail
    refine hck.mono ?_
    rintro e w' ⟨rfl, rfl⟩
    go_wp2_with fail
    go_ret2
    exact ⟨_, by rw [hr.out]; rfl, by rw [hr.out]; exact Own.nil _ _, hb0⟩

set_option maxRecDepth 100000 in
set_option maxHeartbeats 2000000 in
theorem k_spec_ButcherProduct (v0 v2 : Value) (u v : List Int) (w : World) (h0 : Rd (RS RI) w [v0] u) (h2 : Rd (RS RI) w [v2] v) (z0 : u.length ≤ 1048576) (z2 : v.length ≤ 1048576) :
    Calls Try.prog 34 #[v0, v2] w (RetOC (RS RI) w (bpOf u v).1 (bpOf u v).2) := by
  have L0 := c_spec_l03Is _ u w h0 (by omega)
  have L2 := fun nd => c_spec_l03Is _ v (w.drewN nd) (h2.of_heap rfl) (by omega)
  obtain ⟨oa0, c0, rfl, m1, m2⟩ := h0.val
  obtain ⟨oa2, c2, rfl, m3, m4⟩ := h2.val
  unfold maxLen at m2 m4
  have hw2 : IntKind.i64.wrap ((u.length : Int) + v.length) = (u.length : Int) + v.length := IntWalk.i64_in _ (by omega)
  have hcs : sumLen [u, v] = u.length + v.length := by simp [sumLen]
  cases e0 : lev8 u
  · have hc : ckOf [u, v] = 1 := by unfold ckOf; simp [e0]
    have hr : Hid (bpOf u v = ([], 1)) := Lib.hid (by unfold bpOf; rw [hc]; rfl)
    rw [e0] at L0
    clear L2 hc
    go_enter Try.func34, Try.ntmps34
    go_wp2_with fail
    refine L0.mono ?_
    rintro e w1 ⟨rfl, n1, rfl⟩
    go_wp2_with fail
    go_ret2
    exact ⟨_, by rw [hr.out]; rfl, by rw [hr.out]; exact Own.nil _ _, Below.drewN _ _ _⟩
  rw [e0] at L0
  cases e2 : lev8 v
  · have hc : ckOf [u, v] = 1 := by unfold ckOf; simp [e2]
    have hr : Hid (bpOf u v = ([], 1)) := Lib.hid (by unfold bpOf; rw [hc]; rfl)
    rw [e2] at L2
    have HL2 := Lib.hid L2
    clear L2 hc
    go_enter Try.func34, Try.ntmps34
    go_wp2_with fail
    refine L0.mono ?_
    rintro e w1 ⟨rfl, n1, rfl⟩
    go_wp2_with fail
    refine (HL2.out _).mono ?_
    rintro e w1 ⟨rfl, n2, rfl⟩
    go_wp2_with fail
    go_ret2
    exact ⟨_, by rw [hr.out]; rfl, by rw [hr.out]; exact Own.nil _ _, by first | exact Below.drewN _ _ _ | exact drewN_below _ _ _⟩
  rw [e2] at L2
  have HL2 := Lib.hid L2
  have l1 := lev8_len e0
  have l2 := lev8_len e2
  by_cases h8 : u.length + v.length ≤ 8
  · have hc : ckOf [u, v] = 0 := (ck_two u v).2 ⟨⟨e0, e2⟩, h8⟩
    have hr : Hid (bpOf u v = (canon (graftL u 0 v), 0)) := Lib.hid (by unfold bpOf; rw [if_pos hc, graft_canon (lev8_lev e0) (lev8_lev e2)])
    have HGR : Hid (∀ W, Below w.heap.size w W → Calls Try.prog 66 #[.slice oa0 u.length c0, .int .i64 0, .slice oa2 v.length c2] W (RetO (RS RI) W (canon (graftL u 0 v)))) := Lib.hid (fun W hb => c_spec_l04Graft _ 0 _ u v W (h0.below hb (Nat.le_refl _)) (h2.below hb (Nat.le_refl _)) e0 (lev8_lev e0).pos e2 (by rw [graftL_root (lev8_lev e0)]; exact append_lev (lev8_lev e0) (lev8_lev e2)))
    have h8' : ¬ ((u.length : Int) + (v.length : Int) > 8) := by omega
    have h8'' : ¬ ((8 : Int) < (u.length : Int) + (v.length : Int)) := by omega
    clear e0 e2 h0 h2 L2 hc hcs
    go_enter Try.func34, Try.ntmps34
    go_wp2_with fail
    refine L0.mono ?_
    rintro e w1 ⟨rfl, n1, rfl⟩
    go_wp2_with fail
    refine (HL2.out _).mono ?_
    rintro e w1 ⟨rfl, n2, rfl⟩
    go_wp2_with fail
    refine (HGR.out _ (by first | exact Below.drewN _ _ _ | exact drewN_below _ _ _)).mono ?_
    rintro e w4 ⟨u4, rfl, o4, b4⟩
    go_wp2_with fail
    go_ret2
    have b4' : Below w.heap.size w w4 := (by first | exact (Below.drewN _ _ _).trans b4 | exact (drewN_below _ _ _).trans b4)
    exact ⟨_, by rw [hr.out]; rfl, by rw [hr.out]; exact o4, b4'⟩
  · have hc : ckOf [u, v] = 3 := by unfold ckOf; simp [e0, e2, hcs, h8]
    have hr : Hid (bpOf u v = ([], 3)) := Lib.hid (by unfold bpOf; rw [hc]; rfl)
    have h8' : ((u.length : Int) + (v.length : Int) > 8) := by omega
    have h8'' : ((8 : Int) < (u.length : Int) + (v.length : Int)) := by omega
    clear L2 hc hcs
    go_enter Try.func34, Try.ntmps34
    go_wp2_with fail
    refine L0.mono ?_
    rintro e w1 ⟨rfl, n1, rfl⟩
    go_wp2_with fail
    refine (HL2.out _).mono ?_
    rintro e w1 ⟨rfl, n2, rfl⟩
    go_wp2_with fail
    go_ret2
    exact ⟨_, by rw [hr.out]; rfl, by rw [hr.out]; exact Own.nil _ _, by first | exact Below.drewN _ _ _ | exact drewN_below _ _ _⟩
end Go.Proofs.Ytmeijcgclllldaa
