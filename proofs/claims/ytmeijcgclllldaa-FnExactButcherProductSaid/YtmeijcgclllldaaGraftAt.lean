/- GraftAt, ButcherProduct: both programs. -/
import Derived.Test.YtmeijcgclllldaaGrafted
import Derived.Test.YtmeijcgclllldaaGraftCk
namespace Go.Proofs.Ytmeijcgclllldaa
open Go.RowKit

/-- What GraftAt returns. -/
def gaOf (u : List Int) (node : Int) (v : List Int) : List Int × Int :=
  if (lev8 u && lev8 v) = true then (if inR node 0 ((u.length : Int) - 1) = true then (if u.length + v.length ≤ 8 then (canon (graftL (canon u) node.toNat v), 0) else ([], 3)) else ([], 2)) else ([], 1)

theorem gaOf_bad {u v : List Int} {node : Int} (h : (lev8 u && lev8 v) = false) : gaOf u node v = ([], 1) := by unfold gaOf; rw [if_neg (by simp [h])]
theorem gaOf_range {u v : List Int} {node : Int} (h : (lev8 u && lev8 v) = true) (h2 : inR node 0 ((u.length : Int) - 1) = false) : gaOf u node v = ([], 2) := by unfold gaOf; rw [if_pos h, if_neg (by simp [h2])]
theorem gaOf_many {u v : List Int} {node : Int} (h : (lev8 u && lev8 v) = true) (h2 : inR node 0 ((u.length : Int) - 1) = true) (h3 : ¬ u.length + v.length ≤ 8) : gaOf u node v = ([], 3) := by unfold gaOf; rw [if_pos h, if_pos h2, if_neg h3]
theorem gaOf_ok {u v : List Int} {m : Nat} (h : (lev8 u && lev8 v) = true) (h2 : inR (m : Int) 0 ((u.length : Int) - 1) = true) (h3 : u.length + v.length ≤ 8) : gaOf u m v = (canon (graftL (canon u) m v), 0) := by unfold gaOf; rw [if_pos h, if_pos h2, if_pos h3]; rfl

theorem gaOf_cnt (u : List Int) (node : Int) (v : List Int) : cnt_I (gaOf u node v).1 ≤ 1048576 := by
  cases h : (lev8 u && lev8 v)
  · rw [gaOf_bad h]; simp [cnt_I]
  · cases h2 : inR node 0 ((u.length : Int) - 1)
    · rw [gaOf_range h h2]; simp [cnt_I]
    · by_cases h3 : u.length + v.length ≤ 8
      · have hh := h2
        unfold inR at hh
        simp only [Bool.and_eq_true, decide_eq_true_eq] at hh h
        obtain ⟨m, rfl⟩ : ∃ m : Nat, node = m := ⟨node.toNat, by omega⟩
        rw [gaOf_ok (by simp [h]) h2 h3]
        have := (graft_ok h.1 (n := m) (by omega) (lev8_lev h.2) h3).2.1
        unfold cnt_I
        rw [canon_len (lev8_lev this)]
        have := lev8_len this
        omega
      · rw [gaOf_many h h2 h3]; simp [cnt_I]

set_option maxRecDepth 100000 in
set_option maxHeartbeats 500000 in
theorem k_impl_GraftAt (v0 : Value) (node : Int) (v2 : Value) (u v : List Int) (w : World) (h0 : Rd (RS RI) w [v0] u) (hnode : In64 node) (h2 : Rd (RS RI) w [v2] v) :
    Calls Try.prog 31 #[v0, .int .i64 node, v2] w (RetOC (RS RI) w (gaOf u node v).1 (gaOf u node v).2) := by
  have hb0 : Below w.heap.size w (w.alloc (.cells #[v0, v2] 22)) := (Below.refl _ _).alloc (Nat.le_refl _) _
  have hal := c_impl_areLevels (.slice (some ⟨w.heap.size, 0, none⟩) 2 2) [u, v] (w.alloc (.cells #[v0, v2] 22)) (Rd.two h0 h2 rfl)
  simp only [List.all_cons, List.all_nil, Bool.and_true] at hal
  have hln := fun (W : World) (hb : Below w.heap.size w W) => c_impl_length v0 u W (h0.below hb (Nat.le_refl _))
  have HIR : Hid (∀ W : World, Calls Try.prog 56 #[.int .i64 node, .int .i64 0, .int .i64 ((u.length : Int) - 1)] W (RetS W (.bool (inR node 0 ((u.length : Int) - 1))))) := Lib.hid (fun W => c_impl_inRange node 0 ((u.length : Int) - 1) W)
  obtain ⟨oa0, c0, rfl, m1, m2⟩ := h0.val
  obtain ⟨oa2, c2, rfl, m3, m4⟩ := h2.val
  unfold maxLen at m2 m4
  have HLN := Lib.hid hln
  have HB0 := hb0
  have hw1 : IntKind.i64.wrap ((u.length : Int) - 1) = (u.length : Int) - 1 := IntWalk.i64_in _ (by omega)
  cases hall : lev8 u && lev8 v
  · have hr := Lib.hid (gaOf_bad (node := node) hall)
    rw [hall] at hal
    go_enter Try.func31, Try.ntmps31
    go_wp2_with fail
    refine hal.mono ?_
    rintro e w' ⟨rfl, rfl⟩
    go_wp2_with fail
    go_ret2
    exact ⟨_, by rw [hr.out]; rfl, by rw [hr.out]; exact Own.nil _ _, hb0⟩
  · rw [hall] at hal
    have hall2 := hall
    rw [Bool.and_eq_true] at hall2
    obtain ⟨p1, p2⟩ := hall2
    have l1 := lev8_len p1
    have l2 := lev8_len p2
    cases hin : inR node 0 ((u.length : Int) - 1)
    · have hr := Lib.hid (gaOf_range hall hin)
      rw [hin] at HIR
      go_enter Try.func31, Try.ntmps31
      go_wp2_with fail
      refine hal.mono ?_
      rintro e w' ⟨rfl, rfl⟩
      go_wp2_with fail
      refine (HLN.out _ HB0).mono ?_
      rintro e w' ⟨rfl, rfl⟩
      go_wp2_with fail
      refine (HIR.out _).mono ?_
      rintro e w' ⟨rfl, rfl⟩
      go_wp2_with fail
      go_ret2
      exact ⟨_, by rw [hr.out]; rfl, by rw [hr.out]; exact Own.nil _ _, hb0⟩
    · rw [hin] at HIR
      have hw2 : IntKind.i64.wrap ((u.length : Int) + v.length) = (u.length : Int) + v.length := IntWalk.i64_in _ (by omega)
      by_cases h8 : u.length + v.length ≤ 8
      · have hin2 := hin
        unfold inR at hin2
        simp only [Bool.and_eq_true, decide_eq_true_eq] at hin2
        obtain ⟨m, rfl⟩ : ∃ m : Nat, node = m := ⟨node.toNat, by omega⟩
        have hr := Lib.hid (gaOf_ok hall hin h8)
        have hg := graft_ok p1 (n := m) (by omega) (lev8_lev p2) h8
        have hcl := canon_len (lev8_lev p1)
        have hc8 := lev8_canon p1
        have HCN : Hid (∀ W, Below w.heap.size w W → Calls Try.prog 59 #[.slice oa0 u.length c0] W (RetO (RS RI) W (canon u))) := Lib.hid (fun W hb => c_impl_canonical 13 _ u W (h0.below hb (Nat.le_refl _)) (lev8_lev p1) (by omega) (by omega))
        obtain ⟨cu, hcu⟩ : ∃ cu, cu = canon u := ⟨_, rfl⟩
        rw [← hcu] at hg hcl hc8 HCN hr
        obtain ⟨gr, hgr⟩ : ∃ gr, gr = canon (graftL cu m v) := ⟨_, rfl⟩
        rw [← hgr] at hg hr
        have hcul : cu.length = u.length := hcl
        have HGR : Hid (∀ (W : World) (a b c : Value), Rd (RS RI) W [a] cu → Rd (RS RI) W [b] [(m : Int)] → Rd (RS (RS RI)) W [c] [v] → Calls Try.prog 67 #[a, b, c] W (RetO (RS RI) W gr)) := Lib.hid (fun W a b c ra rb rc => by
          have := c_impl_grafted a b c cu [(m : Int)] [v] W ra rb rc hc8 (by simpa using p2) rfl (by intro x hx; rw [List.mem_singleton] at hx; subst hx; omega) (by simp [sumLen]; omega) hg.1
          rw [hg.2.2] at this
          exact this)
        have HV := Lib.hid h2
        have h8' : ¬ ((u.length : Int) + (v.length : Int) > 8) := by omega
        have h8'' : ¬ ((8 : Int) < (u.length : Int) + (v.length : Int)) := by omega
        have HM64 : Hid (In64 (m : Int)) := Lib.hid hnode
        clear hcu hgr hg hcl hc8 hcul p1 p2 hall hin h0 h2 hin2
        go_enter Try.func31, Try.ntmps31
        go_wp2_with fail
        refine hal.mono ?_
        rintro e w' ⟨rfl, rfl⟩
        go_wp2_with fail
        refine (HLN.out _ HB0).mono ?_
        rintro e w' ⟨rfl, rfl⟩
        go_wp2_with fail
        refine (HIR.out _).mono ?_
        rintro e w' ⟨rfl, rfl⟩
        go_wp2_with fail
        refine (HCN.out _ HB0).mono ?_
        rintro e w1 ⟨u1, rfl, o1, b1⟩
        have hb1 := hb0.trans (b1.mono hb0.size)
        go_wp2_with fail
        have hr1 : Below w1.heap.size w1 (w1.alloc (.cells #[.int .i64 (m : Int)] 3)) := (Below.refl _ _).alloc (Nat.le_refl _) _
        have hr2 : Below w1.heap.size w1 ((w1.alloc (.cells #[.int .i64 (m : Int)] 3)).alloc (.cells #[.slice oa2 v.length c2] 22)) := hr1.alloc (by simp) _
        have hr3 : Below (w1.alloc (.cells #[.int .i64 (m : Int)] 3)).heap.size (w1.alloc (.cells #[.int .i64 (m : Int)] 3)) ((w1.alloc (.cells #[.int .i64 (m : Int)] 3)).alloc (.cells #[.slice oa2 v.length c2] 22)) := (Below.refl _ _).alloc (Nat.le_refl _) _
        have q1 : Rd (RS RI) ((w1.alloc (.cells #[.int .i64 (m : Int)] 3)).alloc (.cells #[.slice oa2 v.length c2] 22)) [u1] cu := o1.rd.below hr2 (Nat.le_refl _)
        have q2 : Rd (RS RI) ((w1.alloc (.cells #[.int .i64 (m : Int)] 3)).alloc (.cells #[.slice oa2 v.length c2] 22)) [.slice (some ⟨w1.heap.size, 0, none⟩) 1 1] [(m : Int)] :=
          (Rd.lit (ds := [.int .i64 (m : Int)]) (xs := [(m : Int)]) (w := w1) (rdL.single (R := RI) ⟨rfl, HM64.out⟩) rfl (by show 1 ≤ maxLen; decide)).below hr3 (Nat.le_refl _)
        have q3 : Rd (RS (RS RI)) ((w1.alloc (.cells #[.int .i64 (m : Int)] 3)).alloc (.cells #[.slice oa2 v.length c2] 22)) [.slice (some ⟨w1.heap.size + 1, 0, none⟩) 1 1] [v] := by
          rw [show w1.heap.size + 1 = (w1.alloc (.cells #[.int .i64 (m : Int)] 3)).heap.size from by simp]
          exact
          Rd.lit (ds := [.slice oa2 v.length c2]) (xs := [v]) (w := w1.alloc (.cells #[.int .i64 (m : Int)] 3)) (rdL.single (R := RS RI) ((HV.out.below hb1 (Nat.le_refl _)).below hr1 (Nat.le_refl _))) rfl (by show 1 ≤ maxLen; decide)
        refine (HGR.out _ _ _ _ q1 q2 q3).mono ?_
        rintro e w5 ⟨u5, rfl, o5, b5⟩
        go_wp2_with fail
        go_ret2
        have t1 := hb1.size
        have t2 := hr2.size
        exact ⟨_, by rw [hr.out]; rfl, by rw [hr.out]; exact o5.mono (by omega) (Nat.le_refl _), hb1.trans ((hr2.trans (b5.mono t2)).mono t1)⟩
      · have hr := Lib.hid (gaOf_many hall hin h8)
        have h8' : ((u.length : Int) + (v.length : Int) > 8) := by omega
        have h8'' : ((8 : Int) < (u.length : Int) + (v.length : Int)) := by omega
        go_enter Try.func31, Try.ntmps31
        go_wp2_with fail
        refine hal.mono ?_
        rintro e w' ⟨rfl, rfl⟩
        go_wp2_with fail
        refine (HLN.out _ HB0).mono ?_
        rintro e w' ⟨rfl, rfl⟩
        go_wp2_with fail
        refine (HIR.out _).mono ?_
        rintro e w' ⟨rfl, rfl⟩
        go_wp2_with fail
        go_ret2
        exact ⟨_, by rw [hr.out]; rfl, by rw [hr.out]; exact Own.nil _ _, hb0⟩

theorem drewN_below (w : World) (n m : Nat) : Below w.heap.size w ((w.drewN n).drewN m) := (Below.drewN _ _ _).trans (Below.drewN _ _ _)

set_option maxRecDepth 100000 in
set_option maxHeartbeats 2000000 in
theorem k_spec_GraftAt (v0 : Value) (node : Int) (v2 : Value) (u v : List Int) (w : World) (h0 : Rd (RS RI) w [v0] u) (hnode : In64 node) (h2 : Rd (RS RI) w [v2] v) (z0 : u.length ≤ 1048576) (z2 : v.length ≤ 1048576) :
    Calls Try.prog 30 #[v0, .int .i64 node, v2] w (RetOC (RS RI) w (gaOf u node v).1 (gaOf u node v).2) := by
  have L0 := c_spec_l03Is _ u w h0 (by omega)
  have L2 := fun nd => c_spec_l03Is _ v (w.drewN nd) (h2.of_heap rfl) (by omega)
  have HIR : Hid (∀ W : World, Calls Try.prog 52 #[.int .i64 node, .int .i64 0, .int .i64 ((u.length : Int) - 1)] W (RetS W (.bool (inR node 0 ((u.length : Int) - 1))))) := Lib.hid (fun W => c_spec_l01In node 0 ((u.length : Int) - 1) W)
  obtain ⟨oa0, c0, rfl, m1, m2⟩ := h0.val
  obtain ⟨oa2, c2, rfl, m3, m4⟩ := h2.val
  unfold maxLen at m2 m4
  have hw1 : IntKind.i64.wrap ((u.length : Int) - 1) = (u.length : Int) - 1 := IntWalk.i64_in _ (by omega)
  have hw2 : IntKind.i64.wrap ((u.length : Int) + v.length) = (u.length : Int) + v.length := IntWalk.i64_in _ (by omega)
  cases e0 : lev8 u
  · have hr := Lib.hid (gaOf_bad (u := u) (v := v) (node := node) (by rw [e0]; rfl))
    rw [e0] at L0
    clear L2 HIR
    go_enter Try.func30, Try.ntmps30
    go_wp2_with fail
    refine L0.mono ?_
    rintro e w1 ⟨rfl, n1, rfl⟩
    go_wp2_with fail
    go_ret2
    exact ⟨_, by rw [hr.out]; rfl, by rw [hr.out]; exact Own.nil _ _, Below.drewN _ _ _⟩
  rw [e0] at L0
  cases e2 : lev8 v
  · have hr := Lib.hid (gaOf_bad (u := u) (v := v) (node := node) (by rw [e0, e2]; rfl))
    rw [e2] at L2
    have HL2 := Lib.hid L2
    clear L2 HIR
    go_enter Try.func30, Try.ntmps30
    go_wp2_with fail
    refine L0.mono ?_
    rintro e w1 ⟨rfl, n1, rfl⟩
    go_wp2_with fail
    refine (HL2.out _).mono ?_
    rintro e w1 ⟨rfl, n2, rfl⟩
    go_wp2_with fail
    go_ret2
    exact ⟨_, by rw [hr.out]; rfl, by rw [hr.out]; exact Own.nil _ _, by first | exact Below.drewN _ _ _ | exact drewN_below _ _ _⟩
  rw [e2] at L2
  have HL2 := Lib.hid L2
  have hall : (lev8 u && lev8 v) = true := by rw [e0, e2]; rfl
  have l1 := lev8_len e0
  have l2 := lev8_len e2
  cases hin : inR node 0 ((u.length : Int) - 1)
  · have hr := Lib.hid (gaOf_range hall hin)
    rw [hin] at HIR
    clear L2
    go_enter Try.func30, Try.ntmps30
    go_wp2_with fail
    refine L0.mono ?_
    rintro e w1 ⟨rfl, n1, rfl⟩
    go_wp2_with fail
    refine (HL2.out _).mono ?_
    rintro e w1 ⟨rfl, n2, rfl⟩
    go_wp2_with fail
    refine (HIR.out _).mono ?_
    rintro e w' ⟨rfl, rfl⟩
    go_wp2_with fail
    go_ret2
    exact ⟨_, by rw [hr.out]; rfl, by rw [hr.out]; exact Own.nil _ _, by first | exact Below.drewN _ _ _ | exact drewN_below _ _ _⟩
  · rw [hin] at HIR
    by_cases h8 : u.length + v.length ≤ 8
    · have hin2 := hin
      unfold inR at hin2
      simp only [Bool.and_eq_true, decide_eq_true_eq] at hin2
      obtain ⟨m, rfl⟩ : ∃ m : Nat, node = m := ⟨node.toNat, by omega⟩
      have hr := Lib.hid (gaOf_ok hall hin h8)
      have hg := graft_ok e0 (n := m) (by omega) (lev8_lev e2) h8
      have hcl := canon_len (lev8_lev e0)
      have hc8 := lev8_canon e0
      have HCN : Hid (∀ W, Below w.heap.size w W → Calls Try.prog 54 #[.slice oa0 u.length c0] W (RetO (RS RI) W (canon u))) := Lib.hid (fun W hb => c_spec_l03Canon 8 _ u W (h0.below hb (Nat.le_refl _)) (lev8_lev e0) (by omega) (by omega))
      obtain ⟨cu, hcu⟩ : ∃ cu, cu = canon u := ⟨_, rfl⟩
      rw [← hcu] at hg hcl hc8 HCN hr
      have HGR : Hid (∀ (W : World) (a b : Value), Rd (RS RI) W [a] cu → Rd (RS RI) W [b] v → Calls Try.prog 66 #[a, .int .i64 m, b] W (RetO (RS RI) W (canon (graftL cu m v)))) := Lib.hid (fun W a b ra rb => c_spec_l04Graft a m b cu v W ra rb hc8 (by omega) e2 (lev8_lev hg.2.1))
      have HV := Lib.hid h2
      have h8' : ¬ ((u.length : Int) + (v.length : Int) > 8) := by omega
      have h8'' : ¬ ((8 : Int) < (u.length : Int) + (v.length : Int)) := by omega
      clear hcu hg hcl hc8 e0 e2 hall hin h0 h2 hin2 L2
      go_enter Try.func30, Try.ntmps30
      go_wp2_with fail
      refine L0.mono ?_
      rintro e w1 ⟨rfl, n1, rfl⟩
      go_wp2_with fail
      refine (HL2.out _).mono ?_
      rintro e w1 ⟨rfl, n2, rfl⟩
      go_wp2_with fail
      refine (HIR.out _).mono ?_
      rintro e w' ⟨rfl, rfl⟩
      go_wp2_with fail
      refine (HCN.out _ (by first | exact Below.drewN _ _ _ | exact drewN_below _ _ _)).mono ?_
      rintro e w3 ⟨u3, rfl, o3, b3⟩
      have b3' : Below w.heap.size w w3 := (by first | exact (Below.drewN _ _ _).trans b3 | exact (drewN_below _ _ _).trans b3)
      go_wp2_with fail
      refine (HGR.out _ _ _ o3.rd (HV.out.below b3' (Nat.le_refl _))).mono ?_
      rintro e w4 ⟨u4, rfl, o4, b4⟩
      go_wp2_with fail
      go_ret2
      exact ⟨_, by rw [hr.out]; rfl, by rw [hr.out]; exact o4.mono b3'.size (Nat.le_refl _), b3'.trans (b4.mono b3'.size)⟩
    · have hr := Lib.hid (gaOf_many hall hin h8)
      have h8' : ((u.length : Int) + (v.length : Int) > 8) := by omega
      have h8'' : ((8 : Int) < (u.length : Int) + (v.length : Int)) := by omega
      clear L2
      go_enter Try.func30, Try.ntmps30
      go_wp2_with fail
      refine L0.mono ?_
      rintro e w1 ⟨rfl, n1, rfl⟩
      go_wp2_with fail
      refine (HL2.out _).mono ?_
      rintro e w1 ⟨rfl, n2, rfl⟩
      go_wp2_with fail
      refine (HIR.out _).mono ?_
      rintro e w' ⟨rfl, rfl⟩
      go_wp2_with fail
      go_ret2
      exact ⟨_, by rw [hr.out]; rfl, by rw [hr.out]; exact Own.nil _ _, by first | exact Below.drewN _ _ _ | exact drewN_below _ _ _⟩
end Go.Proofs.Ytmeijcgclllldaa
