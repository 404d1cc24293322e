/- RerootAt: both programs. -/
import Derived.Test.YtdjkmjifeekimaaNearT
import Derived.Test.YtdjkmjifeekimaaGraftQ
import Derived.Test.YtdjkmjifeekimaaCut
set_option linter.unusedSimpArgs false
set_option linter.unusedVariables false
namespace Go.Proofs.Ytdjkmjifeekimaa
open Go.RowKit

theorem roots_len (t : List Int) : (roots t).length = t.length := by simp [roots]
theorem roots_get (t : List Int) (k : Nat) (h : k < t.length) : (roots t)[k]'(by rw [roots_len]; exact h) = turnF 8 t k := by simp [roots]
theorem roots_take_succ (t : List Int) (k : Nat) (h : k < t.length) : (roots t).take (k + 1) = (roots t).take k ++ [turnF 8 t k] := by
  rw [List.take_succ_eq_append_getElem (by rw [roots_len]; exact h), roots_get t k h]

set_option maxRecDepth 100000 in
set_option maxHeartbeats 2000000 in
theorem c_impl_rooted (v : Value) (t : List Int) (w : World) (h : Rd (RS RI) w [v] t) (h8 : lev8 t = true) :
    Calls Try.prog 47 #[v] w (RetO (RS (RS RI)) w (roots (canon t))) := by
  have hl8 := lev8_len h8
  have hcn := c_impl_canonical 13 v t w h (lev8_lev h8) (by omega) (by omega)
  have hro := fun (i : Nat) (hi : i < t.length) => root_ok h8 hi
  have hcl := canon_len (lev8_lev h8)
  have hc8 := lev8_canon h8
  obtain ⟨ct, hct⟩ : ∃ ct, ct = canon t := ⟨_, rfl⟩
  rw [← hct] at hcn hro hcl hc8
  rw [← hct]
  have HNR : Hid (∀ W v, Rd (RS RI) W [v] ct → Calls Try.prog 77 #[v] W (RetO (RS (RS RI)) W (nears ct))) := Lib.hid (fun W v r => c_impl_nearOf v ct W r hc8)
  have HTF : Hid (∀ (W : World) (v : Value) (i : Nat), i < ct.length → Rd (RS (RS RI)) W [v] (nears ct) → Calls Try.prog 78 #[v, .int .i64 i, .int .i64 (-1)] W (RetO (RS RI) W (turnF 8 ct i))) := Lib.hid (fun W v i hi r => by
    have h1 := hro i (by omega)
    have := c_impl_treeFrom 9 v (nears ct) i (-1) W r h1.1 h1.2.1
    rw [h1.2.2] at this
    exact this)
  have hnl : (nears ct).length = ct.length := nearTo_len ct _
  have hcb : ct.length ≤ 8 := by omega
  obtain ⟨cl, hcl'⟩ : ∃ cl, cl = ct.length := ⟨_, rfl⟩
  rw [← hcl'] at HTF hnl hcb
  have HCL := Lib.hid hcl'
  have HNL := Lib.hid hnl
  clear hct hro hcl hc8 hnl hcl' h8 h
  go_enter Try.func47, Try.ntmps47
  go_wp2_with fail
  refine hcn.mono ?_
  rintro e w1 ⟨u1, rfl, o1, b1⟩
  go_wp2_with fail
  refine (HNR.out _ _ o1.rd).mono ?_
  rintro e w2 ⟨u2, rfl, o2, b2⟩
  obtain ⟨on, cn, rfl, n1, n2⟩ := o2.val
  rw [HNL.out] at o2 n1
  rw [HNL.out]
  have HO2 : Hid (Rd (RS (RS RI)) w2 [.slice on cl cn] (nears ct)) := Lib.hid o2.rd
  have s1 := b1.size
  have hb2 := b1.trans (b2.mono s1)
  have s2 := hb2.size
  clear o1 o2 hcn b1 b2
  go_wp2_with fail
  go_loopw [4, 12] (fun o i wr => ∃ (k : Nat) (z : List (List Int)), k ≤ cl ∧ i = .int .i64 k ∧ Hid (z = (roots ct).take k) ∧ Hid (z.length = k) ∧ (∃ oa cap, o = .slice oa z.length cap) ∧ Hid (Own (RS (RS RI)) w2.heap.size wr.heap.size wr [o] z) ∧ Below w2.heap.size w2 wr) (fun _ i _ => cl - (intOf i).toNat)
  case atStart => exact ⟨0, [], Nat.zero_le _, rfl, Lib.hid rfl, Lib.hid rfl, ⟨_, _, rfl⟩, Lib.hid ((Own.empty (R := RS RI) (w := w2) 28 w2.heap.size (Nat.le_refl _)).top _ (by simp)), (Below.refl _ _).alloc (Nat.le_refl _) _⟩
  case round =>
    obtain ⟨k, z, hk, rfl, hz, hzl, ⟨o1, cap1, rfl⟩, hown, hbel⟩ := hrel
    have hsz1 := hbel.size
    by_cases hlt : k < cl
    · have hlt2 : k < ct.length := by rw [← HCL.out]; exact hlt
      have htf := HTF.out wr (.slice on cl cn) k hlt (HO2.out.below hbel (Nat.le_refl _))
      have hnx := roots_take_succ ct k hlt2
      rw [← hz.out] at hnx
      obtain ⟨y, hy⟩ : ∃ y, y = turnF 8 ct k := ⟨_, rfl⟩
      rw [← hy] at hnx htf
      have HN := Lib.hid hnx
      have hzb : z.length ≤ 8 := by rw [hzl.out]; omega
      clear hy hnx
      go_wp2_with fail
      refine htf.mono ?_
      rintro e w3 ⟨u, rfl, o3, b3⟩
      obtain ⟨ou, cu, rfl, lu1, lu2⟩ := o3.val
      go_wp2_with (at_builtin; refine StopAt (o := ⟨some 20, _, _, _, _, _⟩) ?_)
      refine Stop.go ?_
      have hb3 := b3.size
      refine wpList_snoc (w := w3) (R := RS RI) rfl _ _ 22 rfl 28 (.slice none 0 0) 1 24 tI64S rfl (.slice o1 z.length cap1) z y [.slice ou y.length cu] w2.heap.size wr.heap.size w3.heap.size rfl (hown.out.below b3 (Nat.le_refl _)) o3 hb3 hsz1 28 rfl rfl (by omega) (by omega) ?_
      intro oa1 cap1' w4 hown1 c1a c1b hbel1
      have hb4 := (hbel.trans (b3.mono hsz1)).trans hbel1
      obtain ⟨z', hz'⟩ : ∃ z', z' = z ++ [y] := ⟨_, rfl⟩
      have HZ : Hid (z' = (roots ct).take (k + 1)) := Lib.hid (by rw [hz', HN.out])
      have e1 : z.length + 1 = z'.length := by rw [hz']; simp
      have HZL : Hid (z'.length = k + 1) := Lib.hid (by rw [← e1, hzl.out])
      rw [← hz', e1] at hown1
      have HO : Hid (Own (RS (RS RI)) w2.heap.size w4.heap.size w4 [.slice oa1 z'.length cap1'] z') := hown1
      rw [e1]
      clear hown1 hbel1 hown e1 hz' o3 htf
      go_wp2_with fail
      go_roundw
      case rel => exact ⟨k + 1, z', by omega, by go_num, HZ, HZL, ⟨_, _, rfl⟩, HO, hb4⟩
      case measure => simp [intOf] <;> omega
    · have hfin : Hid (z = roots ct) := Lib.hid (by rw [hz.out, List.take_of_length_le (by rw [roots_len, ← HCL.out]; omega)])
      go_wp2_with fail
      go_ret
      exact ⟨_, rfl, hfin.out ▸ hown.out.mono s2 (Nat.le_refl _), hb2.trans (hbel.mono s2)⟩

/-- What RerootAt returns. -/
def rrOf (t : List Int) (node : Int) : List Int × Int :=
  if lev8 t = true then (if inR node 0 ((t.length : Int) - 1) = true then (turnF 8 (canon t) node.toNat, 0) else ([], 2)) else ([], 1)

theorem rrOf_bad {t : List Int} {node : Int} (h : lev8 t = false) : rrOf t node = ([], 1) := by unfold rrOf; rw [if_neg (by simp [h])]
theorem rrOf_range {t : List Int} {node : Int} (h : lev8 t = true) (h2 : inR node 0 ((t.length : Int) - 1) = false) : rrOf t node = ([], 2) := by unfold rrOf; rw [if_pos h, if_neg (by simp [h2])]
theorem rrOf_ok {t : List Int} {m : Nat} (h : lev8 t = true) (h2 : inR (m : Int) 0 ((t.length : Int) - 1) = true) : rrOf t m = (turnF 8 (canon t) m, 0) := by unfold rrOf; rw [if_pos h, if_pos h2]; rfl

theorem rrOf_cnt (t : List Int) (node : Int) : cnt_I (rrOf t node).1 ≤ 1048576 := by
  unfold rrOf cnt_I
  by_cases h : lev8 t = true
  · rw [if_pos h]
    by_cases h2 : inR node 0 ((t.length : Int) - 1) = true
    · rw [if_pos h2]
      have h3 := lev8_canon h
      have h4 := canon_len (lev8_lev h)
      unfold inR at h2
      simp only [Bool.and_eq_true, decide_eq_true_eq] at h2
      have h5 := turnF_lev 8 (canon t) node.toNat h3 (by omega)
      have h6 := lev8_len h3
      show (turnF 8 (canon t) node.toNat).length ≤ 1048576
      rw [h5.2]; omega
    · rw [if_neg h2]; simp
  · rw [if_neg h]; simp


end Go.Proofs.Ytdjkmjifeekimaa
