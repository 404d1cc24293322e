/- RerootAt: both programs. -/
import Derived.Test.YtmeijcgclllldaaTree
import Derived.Test.YtmeijcgclllldaaGraftS
import Derived.Test.YtmeijcgclllldaaCutAbove
namespace Go.Proofs.Ytmeijcgclllldaa
open Go.RowKit

theorem roots_len (t : List Int) : (roots t).length = t.length := by simp [roots]
theorem roots_get (t : List Int) (k : Nat) (h : k < t.length) : (roots t)[k]'(by rw [roots_len]; exact h) = turnF 8 t k := by simp [roots]
theorem roots_take_succ (t : List Int) (k : Nat) (h : k < t.length) : (roots t).take (k + 1) = (roots t).take k ++ [turnF 8 t k] := by
  rw [List.take_succ_eq_append_getElem (by rw [roots_len]; exact h), roots_get t k h]

set_option maxRecDepth 100000 in
set_option maxHeartbeats 2000000 in
theorem c_impl_rooted (v : Value) (t : List Int) (w : World) (h : Rd (RS RI) w [v] t) (h8 : lev8 t = true) :
    Calls Try.prog 62 #[v] w (RetO (RS (RS RI)) w (roots (canon t))) := by
  have hl8 := lev8_len h8
  have hcn := c_impl_canonical 13 v t w h (lev8_lev h8) (by omega) (by omega)
  have hro := fun (i : Nat) (hi : i < t.length) => root_ok h8 hi
  have hcl := canon_len (lev8_lev h8)
  have hc8 := lev8_canon h8
  obtain ⟨ct, hct⟩ : ∃ ct, ct = canon t := ⟨_, rfl⟩
  rw [← hct] at hcn hro hcl hc8
  rw [← hct]
  have HNR : Hid (∀ W v, Rd (RS RI) W [v] ct → Calls Try.prog 97 #[v] W (RetO (RS (RS RI)) W (nears ct))) := Lib.hid (fun W v r => c_impl_nearOf v ct W r hc8)
  have HTF : Hid (∀ (W : World) (v : Value) (i : Nat), i < ct.length → Rd (RS (RS RI)) W [v] (nears ct) → Calls Try.prog 98 #[v, .int .i64 i, .int .i64 (-1)] W (RetO (RS RI) W (turnF 8 ct i))) := Lib.hid (fun W v i hi r => by
    have h1 := hro i (by omega)
    have := c_impl_treeFrom 9 v (nears ct) i (-1) W r h1.1 h1.2.1
    rw [h1.2.2] at this
    exact this)
  have hnl : (nears ct).length = ct.length := nearTo_len ct _
  have hcb : ct.length ≤ 8 := by omega
  obtain ⟨cl, hcl'⟩ : ∃ cl, cl = ct.length := ⟨_, rfl⟩
  rw [← hcl'] at HTF hnl hcb
  have HCL := Lib.hid hcl'
  have HNL := Lib.hid hnl
  clear hct hro hcl hc8 hnl hcl' h8 h
  go_enter Try.func62, Try.ntmps62
  go_wp2_with fail
  refine hcn.mono ?_
  rintro e w1 ⟨u1, rfl, o1, b1⟩
  go_wp2_with fail
  refine (HNR.out _ _ o1.rd).mono ?_
  rintro e w2 ⟨u2, rfl, o2, b2⟩
  obtain ⟨on, cn, rfl, n1, n2⟩ := o2.val
  rw [HNL.out] at o2 n1
  rw [HNL.out]
  have HO2 : Hid (Rd (RS (RS RI)) w2 [.slice on cl cn] (nears ct)) := Lib.hid o2.rd
  have s1 := b1.size
  have hb2 := b1.trans (b2.mono s1)
  have s2 := hb2.size
  clear o1 o2 hcn b1 b2
  go_wp2_with fail
  go_loopw [4, 12] (fun o i wr => ∃ (k : Nat) (z : List (List Int)), k ≤ cl ∧ i = .int .i64 k ∧ Hid (z = (roots ct).take k) ∧ Hid (z.length = k) ∧ (∃ oa cap, o = .slice oa z.length cap) ∧ Hid (Own (RS (RS RI)) w2.heap.size wr.heap.size wr [o] z) ∧ Below w2.heap.size w2 wr) (fun _ i _ => cl - (intOf i).toNat)
  case atStart => exact ⟨0, [], Nat.zero_le _, rfl, Lib.hid rfl, Lib.hid rfl, ⟨_, _, rfl⟩, Lib.hid ((Own.empty (R := RS RI) (w := w2) 22 w2.heap.size (Nat.le_refl _)).top _ (by simp)), (Below.refl _ _).alloc (Nat.le_refl _) _⟩
  case round =>
    obtain ⟨k, z, hk, rfl, hz, hzl, ⟨o1, cap1, rfl⟩, hown, hbel⟩ := hrel
    have hsz1 := hbel.size
    by_cases hlt : k < cl
    · have hlt2 : k < ct.length := by rw [← HCL.out]; exact hlt
      have htf := HTF.out wr (.slice on cl cn) k hlt (HO2.out.below hbel (Nat.le_refl _))
      have hnx := roots_take_succ ct k hlt2
      rw [← hz.out] at hnx
      obtain ⟨y, hy⟩ : ∃ y, y = turnF 8 ct k := ⟨_, rfl⟩
      rw [← hy] at hnx htf
      have HN := Lib.hid hnx
      have hzb : z.length ≤ 8 := by rw [hzl.out]; omega
      clear hy hnx
      go_wp2_with fail
      refine htf.mono ?_
      rintro e w3 ⟨u, rfl, o3, b3⟩
      obtain ⟨ou, cu, rfl, lu1, lu2⟩ := o3.val
      go_wp2_with (at_builtin; refine StopAt (o := ⟨some 20, _, _, _, _, _⟩) ?_)
      refine Stop.go ?_
      have hb3 := b3.size
      refine wpList_snoc (w := w3) (R := RS RI) rfl _ _ 47 rfl 22 (.slice none 0 0) 1 24 tI64S rfl (.slice o1 z.length cap1) z y [.slice ou y.length cu] w2.heap.size wr.heap.size w3.heap.size rfl (hown.out.below b3 (Nat.le_refl _)) o3 hb3 hsz1 22 rfl rfl (by omega) (by omega) ?_
      intro oa1 cap1' w4 hown1 c1a c1b hbel1
      have hb4 := (hbel.trans (b3.mono hsz1)).trans hbel1
      obtain ⟨z', hz'⟩ : ∃ z', z' = z ++ [y] := ⟨_, rfl⟩
      have HZ : Hid (z' = (roots ct).take (k + 1)) := Lib.hid (by rw [hz', HN.out])
      have e1 : z.length + 1 = z'.length := by rw [hz']; simp
      have HZL : Hid (z'.length = k + 1) := Lib.hid (by rw [← e1, hzl.out])
      rw [← hz', e1] at hown1
      have HO : Hid (Own (RS (RS RI)) w2.heap.size w4.heap.size w4 [.slice oa1 z'.length cap1'] z') := hown1
      rw [e1]
      clear hown1 hbel1 hown e1 hz' o3 htf
      go_wp2_with fail
      go_roundw
      case rel => exact ⟨k + 1, z', by omega, by go_num, HZ, HZL, ⟨_, _, rfl⟩, HO, hb4⟩
      case measure => simp [intOf] <;> omega
    · have hfin : Hid (z = roots ct) := Lib.hid (by rw [hz.out, List.take_of_length_le (by rw [roots_len, ← HCL.out]; omega)])
      go_wp2_with fail
      go_ret
      exact ⟨_, rfl, hfin.out ▸ hown.out.mono s2 (Nat.le_refl _), hb2.trans (hbel.mono s2)⟩

/-- What RerootAt returns. -/
def rrOf (t : List Int) (node : Int) : List Int × Int :=
  if lev8 t = true then (if inR node 0 ((t.length : Int) - 1) = true then (turnF 8 (canon t) node.toNat, 0) else ([], 2)) else ([], 1)

theorem rrOf_bad {t : List Int} {node : Int} (h : lev8 t = false) : rrOf t node = ([], 1) := by unfold rrOf; rw [if_neg (by simp [h])]
theorem rrOf_range {t : List Int} {node : Int} (h : lev8 t = true) (h2 : inR node 0 ((t.length : Int) - 1) = false) : rrOf t node = ([], 2) := by unfold rrOf; rw [if_pos h, if_neg (by simp [h2])]
theorem rrOf_ok {t : List Int} {m : Nat} (h : lev8 t = true) (h2 : inR (m : Int) 0 ((t.length : Int) - 1) = true) : rrOf t m = (turnF 8 (canon t) m, 0) := by unfold rrOf; rw [if_pos h, if_pos h2]; rfl

theorem rrOf_cnt (t : List Int) (node : Int) : cnt_I (rrOf t node).1 ≤ 1048576 := by
  unfold rrOf cnt_I
  by_cases h : lev8 t = true
  · rw [if_pos h]
    by_cases h2 : inR node 0 ((t.length : Int) - 1) = true
    · rw [if_pos h2]
      have h3 := lev8_canon h
      have h4 := canon_len (lev8_lev h)
      unfold inR at h2
      simp only [Bool.and_eq_true, decide_eq_true_eq] at h2
      have h5 := turnF_lev 8 (canon t) node.toNat h3 (by omega)
      have h6 := lev8_len h3
      show (turnF 8 (canon t) node.toNat).length ≤ 1048576
      rw [h5.2]; omega
    · rw [if_neg h2]; simp
  · rw [if_neg h]; simp

set_option maxRecDepth 100000 in
set_option maxHeartbeats 2000000 in
theorem k_impl_RerootAt (v : Value) (node : Int) (t : List Int) (w : World) (h : Rd (RS RI) w [v] t) (hnode : In64 node) :
    Calls Try.prog 27 #[v, .int .i64 node] w (RetOC (RS RI) w (rrOf t node).1 (rrOf t node).2) := by
  have hlv := c_impl_IsLevels v t w h
  have hln := c_impl_length v t w h
  have hir := c_impl_inRange node 0 ((t.length : Int) - 1) w
  have hval := h.val
  obtain ⟨oa, c1, rfl, m1, m2⟩ := hval
  unfold maxLen at m2
  have hw1 : IntKind.i64.wrap ((t.length : Int) - 1) = (t.length : Int) - 1 := IntWalk.i64_in _ (by omega)
  cases h8 : lev8 t
  · have hr := Lib.hid (rrOf_bad (node := node) h8)
    rw [h8] at hlv
    go_enter Try.func27, Try.ntmps27
    go_wp2_with (go_at_call 55; refine hlv.mono ?_; rintro e w' ⟨rfl, rfl⟩)
    go_ret2
    exact ⟨_, by rw [hr.out]; rfl, by rw [hr.out]; exact Own.nil _ _, Below.refl _ _⟩
  · rw [h8] at hlv
    cases hin : inR node 0 ((t.length : Int) - 1)
    · have hr := Lib.hid (rrOf_range h8 hin)
      rw [hin] at hir
      go_enter Try.func27, Try.ntmps27
      go_wp2_with (first | (go_at_call 55; refine hlv.mono ?_; rintro e w' ⟨rfl, rfl⟩) | (go_at_call 57; refine hln.mono ?_; rintro e w' ⟨rfl, rfl⟩) | (go_at_call 56; refine hir.mono ?_; rintro e w' ⟨rfl, rfl⟩))
      go_ret2
      exact ⟨_, by rw [hr.out]; rfl, by rw [hr.out]; exact Own.nil _ _, Below.refl _ _⟩
    · rw [hin] at hir
      have hin2 := hin
      unfold inR at hin2
      simp only [Bool.and_eq_true, decide_eq_true_eq] at hin2
      obtain ⟨m, rfl⟩ : ∃ m : Nat, node = m := ⟨node.toNat, by omega⟩
      have hr := Lib.hid (rrOf_ok h8 hin)
      have hrt := c_impl_rooted _ t w h h8
      have hcl := canon_len (lev8_lev h8)
      have hrl := roots_len (canon t)
      rw [hcl] at hrl
      have hml : m < t.length := by omega
      have hrg := roots_get (canon t) m (by rw [hcl]; exact hml)
      obtain ⟨rs, hrs⟩ : ∃ rs, rs = roots (canon t) := ⟨_, rfl⟩
      have hrg2 : ∀ hm : m < rs.length, rs[m]'hm = turnF 8 (canon t) m := by intro hm; subst hrs; exact hrg
      rw [← hrs] at hrt hrl
      have HRG := Lib.hid hrg2
      have HRL := Lib.hid hrl
      have i1 : (0 : Int) ≤ (m : Int) := by omega
      have i2 : (m : Int) < (t.length : Int) := by omega
      clear hcl hrg hrg2 hrs h8 hin h hrl
      go_enter Try.func27, Try.ntmps27
      go_wp2_with (first | (go_at_call 55; refine hlv.mono ?_; rintro e w' ⟨rfl, rfl⟩) | (go_at_call 57; refine hln.mono ?_; rintro e w' ⟨rfl, rfl⟩) | (go_at_call 56; refine hir.mono ?_; rintro e w' ⟨rfl, rfl⟩))
      refine hrt.mono ?_
      rintro e w1 ⟨u, rfl, o1, b1⟩
      obtain ⟨g, cap, h0, hv, _, _, hg1, hg2, hcell, hel⟩ := o1.elem m (by rw [HRL.out]; exact hml)
      subst hv
      rw [HRL.out]
      rw [HRG.out] at hel
      have HEL := Lib.hid hel
      obtain ⟨o0, c0, rfl, _⟩ := hel.val
      clear hel o1
      go_wp2_with fail
      go_ret2
      exact ⟨_, by rw [hr.out]; rfl, by rw [hr.out]; exact HEL.out, b1⟩

set_option maxRecDepth 100000 in
set_option maxHeartbeats 2000000 in
theorem k_spec_RerootAt (v : Value) (node : Int) (t : List Int) (w : World) (h : Rd (RS RI) w [v] t) (hnode : In64 node) (hsz : t.length ≤ 1048576) :
    Calls Try.prog 26 #[v, .int .i64 node] w (RetOC (RS RI) w (rrOf t node).1 (rrOf t node).2) := by
  have hlv := c_spec_l03Is v t w h (by omega)
  have HIR : Hid (∀ W : World, Calls Try.prog 52 #[.int .i64 node, .int .i64 0, .int .i64 ((t.length : Int) - 1)] W (RetS W (.bool (inR node 0 ((t.length : Int) - 1))))) := Lib.hid (fun W => c_spec_l01In node 0 ((t.length : Int) - 1) W)
  have hval := h.val
  obtain ⟨oa, c1, rfl, m1, m2⟩ := hval
  unfold maxLen at m2
  have hw1 : IntKind.i64.wrap ((t.length : Int) - 1) = (t.length : Int) - 1 := IntWalk.i64_in _ (by omega)
  cases h8 : lev8 t
  · have hr := Lib.hid (rrOf_bad (node := node) h8)
    rw [h8] at hlv
    go_enter Try.func26, Try.ntmps26
    go_wp2_with (go_at_call 51; refine hlv.mono ?_; rintro e w' ⟨rfl, nd, rfl⟩)
    go_ret2
    exact ⟨_, by rw [hr.out]; rfl, by rw [hr.out]; exact Own.nil _ _, Below.drewN _ _ _⟩
  · rw [h8] at hlv
    cases hin : inR node 0 ((t.length : Int) - 1)
    · have hr := Lib.hid (rrOf_range h8 hin)
      rw [hin] at HIR
      go_enter Try.func26, Try.ntmps26
      go_wp2_with (first | (go_at_call 51; refine hlv.mono ?_; rintro e w' ⟨rfl, nd, rfl⟩) | (go_at_call 52; refine (HIR.out _).mono ?_; rintro e w' ⟨rfl, rfl⟩))
      go_ret2
      exact ⟨_, by rw [hr.out]; rfl, by rw [hr.out]; exact Own.nil _ _, Below.drewN _ _ _⟩
    · rw [hin] at HIR
      have hin2 := hin
      unfold inR at hin2
      simp only [Bool.and_eq_true, decide_eq_true_eq] at hin2
      obtain ⟨m, rfl⟩ : ∃ m : Nat, node = m := ⟨node.toNat, by omega⟩
      have hr := Lib.hid (rrOf_ok h8 hin)
      have hl8 := lev8_len h8
      have HCN : Hid (∀ nd : Nat, Calls Try.prog 54 #[.slice oa t.length c1] (w.drewN nd) (RetO (RS RI) (w.drewN nd) (canon t))) := Lib.hid (fun nd => c_spec_l03Canon 8 _ t _ (h.of_heap rfl) (lev8_lev h8) (by omega) (by omega))
      have hc8 := lev8_canon h8
      have hcl := canon_len (lev8_lev h8)
      obtain ⟨ct, hct⟩ : ∃ ct, ct = canon t := ⟨_, rfl⟩
      rw [← hct] at HCN hc8 hcl hr
      have hbd := (lev8_lev hc8).bd m (by omega)
      have HTU : Hid (∀ W v, Rd (RS RI) W [v] ct → Calls Try.prog 61 #[v, .int .i64 m] W (RetO (RS RI) W (turnF 8 ct m))) := Lib.hid (fun W v r => c_spec_l04Turn 8 v ct m W r hc8 (by omega) (by rw [getD_get (by omega)]; omega))
      clear hct hcl hc8 h8 hin h hbd
      go_enter Try.func26, Try.ntmps26
      go_wp2_with (first | (go_at_call 51; refine hlv.mono ?_; rintro e w' ⟨rfl, nd, rfl⟩) | (go_at_call 52; refine (HIR.out _).mono ?_; rintro e w' ⟨rfl, rfl⟩))
      refine (HCN.out _).mono ?_
      rintro e w1 ⟨u, rfl, o1, b1⟩
      go_wp2_with fail
      refine (HTU.out _ _ o1.rd).mono ?_
      rintro e w2 ⟨u2, rfl, o2, b2⟩
      go_wp2_with fail
      go_ret2
      have b1' := Below.of_heap_eq b1 rfl rfl rfl rfl (w := w)
      have s1 := b1'.size
      exact ⟨_, by rw [hr.out]; rfl, by rw [hr.out]; exact o2.mono s1 (Nat.le_refl _), b1'.trans (b2.mono s1)⟩
end Go.Proofs.Ytmeijcgclllldaa
