/- IsSuperfluous: both programs. -/
import Derived.Test.YtmeijcgclllldaaSupP
import Derived.Test.YtmeijcgclllldaaReroot
namespace Go.Proofs.Ytmeijcgclllldaa
open Go.RowKit

set_option maxRecDepth 100000 in
set_option maxHeartbeats 2000000 in
theorem c_impl_isSuperfluous (v : Value) (t : List Int) (w : World) (h : Rd (RS RI) w [v] t) (h8 : lev8 t = true) :
    Calls Try.prog 69 #[v] w (RetV w (.bool (isSup (canon t)))) := by
  have hl8 := lev8_len h8
  have hcn := c_impl_canonical 13 v t w h (lev8_lev h8) (by omega) (by omega)
  have hso := fun (i : Nat) (h0 : 0 < i) (hi : i < t.length) => sup_ok h8 h0 hi
  have hcl := canon_len (lev8_lev h8)
  have hc8 := lev8_canon h8
  obtain ⟨ct, hct⟩ : ∃ ct, ct = canon t := ⟨_, rfl⟩
  rw [← hct] at hcn hso hcl hc8
  rw [← hct]
  have HNR : Hid (∀ W v, Rd (RS RI) W [v] ct → Calls Try.prog 97 #[v] W (RetO (RS (RS RI)) W (nears ct))) := Lib.hid (fun W v r => c_impl_nearOf v ct W r hc8)
  have HPR : Hid (∀ W v, Rd (RS RI) W [v] ct → Calls Try.prog 102 #[v] W (RetO (RS RI) W (parents ct))) := Lib.hid (fun W v r => c_impl_parentsOf v ct W r hc8)
  have HTF : Hid (∀ (i : Nat), 0 < i → i < ct.length → ∃ p : Nat, parAt ct i = p ∧ p < ct.length ∧ ∃ x y, decide (x = y) = supD ct i ∧ ∀ (W : World) (v : Value), Rd (RS (RS RI)) W [v] (nears ct) → Calls Try.prog 98 #[v, .int .i64 i, .int .i64 p] W (RetO (RS RI) W x) ∧ Calls Try.prog 98 #[v, .int .i64 p, .int .i64 i] W (RetO (RS RI) W y)) := Lib.hid (fun i h0 hi => by
    have h1 := hso i h0 (by omega)
    have h2 := par_ok hc8 h0 hi
    have h3 := par_lt ct i
    obtain ⟨p, hp⟩ : ∃ p : Nat, parAt ct i = p := ⟨(parAt ct i).toNat, by omega⟩
    rw [hp] at h1
    exact ⟨p, hp, by omega, _, _, h1.2.2.2.2, fun W v r => ⟨c_impl_treeFrom 9 v (nears ct) i p W r h1.1 h1.2.1, c_impl_treeFrom 9 v (nears ct) p i W r h1.2.2.1 h1.2.2.2.1⟩⟩)
  have hcb : ct.length ≤ 8 := by omega
  have hpos := (lev8_lev hc8).pos
  have hpl := parents_len ct
  have hp0 : parAt ct 0 = -1 := rfl
  have HPG : Hid (∀ i (h : i < ct.length) (h2 : i < (parents ct).length), (parents ct)[i] = parAt ct i) := Lib.hid (fun i h h2 => parents_get ct i h)
  obtain ⟨cl, hcl'⟩ : ∃ cl, cl = ct.length := ⟨_, rfl⟩
  rw [← hcl'] at hcb HTF HPG hpl
  have HCL := Lib.hid hcl'
  have HP0 := Lib.hid hp0
  have HPL := Lib.hid hpl
  clear hct hso hcl hc8 hcl' h8 h hp0 hpl
  go_enter Try.func69, Try.ntmps69
  go_wp2_with fail
  refine hcn.mono ?_
  rintro e w1 ⟨u1, rfl, o1, b1⟩
  go_wp2_with fail
  refine (HNR.out _ _ o1.rd).mono ?_
  rintro e w2 ⟨u2, rfl, o2, b2⟩
  have o1' := o1.below b2 (Nat.le_refl _)
  go_wp2_with fail
  refine (HPR.out _ _ o1'.rd).mono ?_
  rintro e w3 ⟨u3, rfl, o3, b3⟩
  obtain ⟨op, cp, I⟩ := o3.rd.ints
  obtain rfl := I.val
  have n1 := I.le; have n2 := I.capLe
  unfold maxLen at n2
  rw [HPL.out] at n1
  rw [HPL.out]
  have HI := Lib.hid I
  have HO2 : Hid (Rd (RS (RS RI)) w3 [u2] (nears ct)) := Lib.hid (o2.below b3 (Nat.le_refl _)).rd
  obtain ⟨on, cn, rfl, n3, n4⟩ := o2.val
  have s1 := b1.size
  have hb2 := b1.trans (b2.mono s1)
  have s2 := hb2.size
  have hb3 := hb2.trans (b3.mono s2)
  obtain ⟨nl, hnl⟩ : ∃ nl, nl = (nears ct).length := ⟨_, rfl⟩
  rw [← hnl] at HO2
  rw [← hnl]
  clear o1 o1' o2 o3 I hcn b1 b2 b3 hnl n3
  go_wp2_with fail
  go_loopw [13] (fun i wr => ∃ (k : Nat), k ≤ cl ∧ i = .int .i64 k ∧ Hid (∀ i, 0 < i → i < k → supD ct i = false) ∧ Below w3.heap.size w3 wr) (fun i _ => cl - (intOf i).toNat)
  case atStart => exact ⟨0, Nat.zero_le _, rfl, Lib.hid (fun i a b => by omega), Below.refl _ _⟩
  case round =>
    obtain ⟨k, hk, rfl, hall, hbel⟩ := hrel
    have hsz1 := hbel.size
    by_cases hlt : k < cl
    · have hlt2 : k < ct.length := by rw [← HCL.out]; exact hlt
      obtain ⟨bp, fp, rfl, hbp, hcp⟩ := HI.out.get (k := k) (by rw [HPL.out]; exact hlt)
      have gk := (hbel.cell (p := ⟨bp, fp + k, none⟩) hbp).trans (hcp k (by rw [HPL.out]; exact hlt))
      rw [HPG.out k hlt (by rw [HPL.out]; exact hlt)] at gk
      rcases Nat.eq_zero_or_pos k with rfl | hk0
      · rw [HP0.out] at gk
        clear hcp
        have hi0 : (((0 : Nat) : Int)) = 0 := rfl
        rw [Nat.add_zero] at gk
        go_wp2_with fail
        go_roundw
        case rel => exact ⟨1, by omega, by first | rfl | go_num, Lib.hid (fun i a b => by omega), hbel⟩
        case measure => simp [intOf] <;> omega
      · obtain ⟨p, hp, hpc, x, y, hxy, hcs⟩ := HTF.out k hk0 hlt
        rw [hp] at gk
        have hc1 := (hcs wr _ (HO2.out.below hbel (Nat.le_refl _))).1
        have HC2 : Hid (∀ W, Below wr.heap.size wr W → Calls Try.prog 98 #[.slice on nl cn, .int .i64 p, .int .i64 k] W (RetO (RS RI) W y)) := Lib.hid (fun W b => (hcs W _ ((HO2.out.below hbel (Nat.le_refl _)).below b (Nat.le_refl _))).2)
        have HXY := Lib.hid hxy
        have i1 : (0 : Int) ≤ (p : Int) := by omega
        have i2 : (0 : Int) ≤ (k : Int) := by omega
        clear hcp hp hcs hxy
        by_cases hxe : x = y
        · have d1 : decide (x = y) = true := decide_eq_true hxe
          have EQ1 : Hid (∀ W v1 v2, Rd (RS RI) W [v1] x → Rd (RS RI) W [v2] y → Calls Try.prog 65 #[v1, v2] W (RetQ W (.bool true))) := Lib.hid (fun W v1 v2 r1 r2 => by have := c_slicesEqual v1 v2 x y W r1 r2; rw [d1] at this; exact this)
          have HR : Hid (isSup ct = true) := Lib.hid (isSup_true hk0 hlt2 (by rw [← HXY.out, d1]))
          clear hxe d1
          go_wp2_with fail
          refine hc1.mono ?_
          rintro e w4 ⟨u4, rfl, o4, b4⟩
          go_wp2_with fail
          refine (HC2.out _ b4).mono ?_
          rintro e w5 ⟨u5, rfl, o5, b5⟩
          go_wp2_with fail
          refine (EQ1.out _ _ _ (o4.below b5 (Nat.le_refl _)).rd o5.rd).mono ?_
          rintro e w6 ⟨rfl, nd, rfl⟩
          go_wp2_with fail
          go_ret
          have s4 := b4.size
          exact ⟨by rw [HR.out]; rfl, hb3.trans ((hbel.trans ((b4.trans (b5.mono s4)).mono hsz1)).trans (Below.drewN _ _ _) |>.mono hb3.size)⟩
        · have d1 : decide (x = y) = false := decide_eq_false hxe
          have EQ1 : Hid (∀ W v1 v2, Rd (RS RI) W [v1] x → Rd (RS RI) W [v2] y → Calls Try.prog 65 #[v1, v2] W (RetQ W (.bool false))) := Lib.hid (fun W v1 v2 r1 r2 => by have := c_slicesEqual v1 v2 x y W r1 r2; rw [d1] at this; exact this)
          have HALL : Hid (∀ i, 0 < i → i < k + 1 → supD ct i = false) := Lib.hid (fun i a b => by
            by_cases hik : i = k
            · subst hik; rw [← HXY.out, d1]
            · exact hall.out i a (by omega))
          clear hxe d1
          go_wp2_with fail
          refine hc1.mono ?_
          rintro e w4 ⟨u4, rfl, o4, b4⟩
          go_wp2_with fail
          refine (HC2.out _ b4).mono ?_
          rintro e w5 ⟨u5, rfl, o5, b5⟩
          have s4 := b4.size
          have hb6 := hbel.trans ((b4.trans (b5.mono s4)).mono hsz1)
          go_wp2_with fail
          refine (EQ1.out _ _ _ (o4.below b5 (Nat.le_refl _)).rd o5.rd).mono ?_
          rintro e w6 ⟨rfl, nd, rfl⟩
          have hb7 := hb6.trans (Below.drewN _ w5 nd)
          go_wp2_with fail
          go_roundw
          case rel => exact ⟨k + 1, by omega, by go_num, HALL, hb7⟩
          case measure => simp [intOf] <;> omega
    · have HR : Hid (isSup ct = false) := Lib.hid (isSup_false (fun i a b => hall.out i a (by have := HCL.out; omega)))
      go_wp2_with fail
      go_ret
      exact ⟨by rw [HR.out]; rfl, hb3.trans (hbel.mono hb3.size)⟩

set_option maxRecDepth 100000 in
set_option maxHeartbeats 2000000 in
theorem k_impl_IsSuperfluous (v : Value) (t : List Int) (w : World) (h : Rd (RS RI) w [v] t) :
    Calls Try.prog 33 #[v] w (RetV w (.tuple #[.bool (supOf t).1, .int .i64 (supOf t).2])) := by
  have hlv := c_impl_IsLevels v t w h
  cases h8 : lev8 t
  · have hr := Lib.hid (supOf_bad h8)
    rw [h8] at hlv
    go_enter Try.func33, Try.ntmps33
    go_wp2_with (go_at_call 55; refine hlv.mono ?_; rintro e w' ⟨rfl, rfl⟩)
    go_ret2
    exact ⟨by rw [hr.out]; rfl, Below.refl _ _⟩
  · have hr := Lib.hid (supOf_ok h8)
    rw [h8] at hlv
    have hs := c_impl_isSuperfluous v t w h h8
    clear h
    go_enter Try.func33, Try.ntmps33
    go_wp2_with (go_at_call 55; refine hlv.mono ?_; rintro e w' ⟨rfl, rfl⟩)
    refine hs.mono ?_
    rintro e w1 ⟨rfl, b1⟩
    go_wp2_with fail
    go_ret2
    exact ⟨by rw [hr.out]; rfl, b1⟩
end Go.Proofs.Ytmeijcgclllldaa
