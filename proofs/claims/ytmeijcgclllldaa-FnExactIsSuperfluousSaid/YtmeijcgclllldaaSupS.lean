/- IsSuperfluous: the reference's walk. -/
import Derived.Test.YtmeijcgclllldaaSup
namespace Go.Proofs.Ytmeijcgclllldaa
open Go.RowKit

set_option maxRecDepth 100000 in
set_option maxHeartbeats 4000000 in
theorem c_spec_l04Double (v : Value) (t : List Int) (w : World) (h : Rd (RS RI) w [v] t) (h8 : lev8 t = true) :
    Calls Try.prog 68 #[v] w (RetV w (.bool (isSup t))) := by
  have hl8 := lev8_len h8
  have hpos := (lev8_lev h8).pos
  have HT := Lib.hid h
  obtain ⟨oa, c1, I1⟩ := h.ints
  obtain rfl := I1.val
  have m1 := I1.le; have m2 := I1.capLe
  unfold maxLen at m2
  obtain ⟨b, off, rfl, hb, hc⟩ := I1.get hpos
  have HC := Lib.hid hc
  have HLB := Lib.hid (lev8_lev h8).bd
  have H8 := Lib.hid h8
  have EGO := Lib.hid (enters (P := Try.prog) (f := 87) Try.func87 (by kernel_rfl) rfl)
  obtain ⟨tl, htl'⟩ : ∃ tl, tl = t.length := ⟨_, rfl⟩
  rw [← htl'] at m1 hl8 HT hpos
  rw [← htl']
  have HTL := Lib.hid htl'
  clear hc I1 h htl' h8
  go_enter Try.func68, Try.ntmps68
  go_wp2_with fail
  go_loopw [3] (fun i wr => ∃ (m : Nat), m + 1 ≤ tl ∧ i = .int .i64 (m + 1 : Nat) ∧ Hid (∀ i, 0 < i → i < m + 1 → supD t i = false) ∧ Below w.heap.size w wr) (fun i _ => tl - (intOf i).toNat)
  case atStart => exact ⟨0, hpos, rfl, Lib.hid (fun i a b => by omega), Below.refl _ _⟩
  case round =>
    obtain ⟨m, hm, rfl, hall0, hbelo⟩ := hrel
    have hszo := hbelo.size
    obtain ⟨wo, hwo⟩ : ∃ wo : World, wo = wr := ⟨_, rfl⟩
    subst hwo
    by_cases hnl : m + 1 < tl
    · obtain ⟨n, hn'⟩ : ∃ n, n = m + 1 := ⟨_, rfl⟩
      rw [← hn'] at hall0 hnl
      rw [← hn']
      have HMN := Lib.hid hn'
      have hpos2 : 0 < n := by omega
      have hn : n < t.length := by have := HTL.out; omega
      have h8 := H8.out
      have hlev := lev8_lev h8
      have hrdt : Rd (RS RI) wo [.slice (some ⟨b, off, none⟩) tl c1] t := HT.out.below hbelo (Nat.le_refl _)
      have hcl := cuts_lev h8 hpos2 hn
      have hpo := par_ok h8 hpos2 hn
      have hplt0 := par_lt t n
      obtain ⟨e1, e2⟩ := endOf_le hn
      have hcut := c_spec_l04Cut _ t n wo hrdt h8 hpos2 hn
      have hclen := cut_len hn
      obtain ⟨p, hp⟩ : ∃ p : Nat, (p : Int) = parAt t n := ⟨(parAt t n).toNat, by omega⟩
      have hpn : p < n := by omega
      have hplt : p < (cutT t n).length := by unfold cutT; rw [List.length_append, List.length_take]; omega
      have hbd2 : (cutT t n).getD p 0 ≤ ((8 : Nat) : Int) := by rw [getD_get hplt]; have := (lev8_lev hcl.1).bd p hplt; have := lev8_len hcl.1; omega
      have htl := turnF_lev 8 (cutT t n) p hcl.1 hplt
      have hsd : supD t n = (Nat.beq (cutT t n).length (cutB t n).length && decide (turnF 8 (cutT t n) p = canon (cutB t n))) := by unfold supD; rw [← hp]; rfl
      have hcnT := canon_len (lev8_lev hcl.1)
      have hcnB := canon_len (lev8_lev hcl.2)
      have gn := HC.out n hn
      obtain ⟨x, hx⟩ : ∃ x : Int, x = t[n]'hn := ⟨_, rfl⟩
      rw [← hx] at gn
      have HX := Lib.hid hx
      have hxb : 0 ≤ x ∧ x ≤ 8 := by have := hlev.bd n hn; rw [hx]; omega
      obtain ⟨xb1, xb2⟩ := hxb
      have in0 : (0 : Int) ≤ (n : Int) := by omega
      have in1 : (n : Int) < (tl : Int) := by omega
      have hpar : parS t (x - 1) n = (p : Int) := by rw [hp]; unfold parAt; rw [getD_get hn, ← hx]
      obtain ⟨k, he⟩ : ∃ k, k = endOf t n := ⟨_, rfl⟩
      have hend := fun (W : World) (hb' : Below wo.heap.size wo W) => c_spec_l04End _ t n W (hrdt.below hb' (Nat.le_refl _)) hn (by have := HTL.out; omega)
      rw [← he] at e1 e2 hend
      rw [← HTL.out] at e2
      have hnk : n + 1 ≤ k := e1
      have ic1 : n ≤ c1 := by omega
      have hwt : (t.length) = tl := HTL.out.symm
      have hrdt2 : Rd (RS RI) wo [.slice (some ⟨b, off, none⟩) t.length c1] t := by rw [hwt]; exact hrdt
      have R1 : Rd (RS RI) wo [.slice (some ⟨b, off, none⟩) n c1] (t.take n) := by
        have := hrdt2.part 0 n (Nat.zero_le _) (by omega) c1 (by omega) (by unfold maxLen; omega) (by simp)
        simpa [Addr.add] using this
      have R2 : Rd (RS RI) wo [.slice (some ⟨b, off + k, none⟩) (tl - k) (c1 - k)] (t.drop k) := by
        have := hrdt2.part k t.length (by omega) (Nat.le_refl _) (c1 - k) (by omega) (by unfold maxLen; omega) (by simp)
        rw [List.take_length, hwt] at this
        simpa [Addr.add, show ¬ k = 0 by omega] using this
      have R3 : c1 = k → Rd (RS RI) wo [.slice (some ⟨b, off, none⟩) 0 (c1 - k)] (t.drop k) := fun h => by
        rw [List.drop_of_length_le (by omega)]
        exact Rd.none' (by unfold maxLen; omega) (by simp)
      obtain ⟨ct, hct⟩ : ∃ ct, ct = cutT t n := ⟨_, rfl⟩
      have hct2 : t.take n ++ t.drop k = ct := by rw [he, hct]; rfl
      rw [← hct] at hplt hcut htl hsd hcnT hbd2
      have HIH : Hid (∀ (W : World) (v : Value), Rd (RS RI) W [v] ct → Calls Try.prog 61 #[v, .int .i64 p] W (RetO (RS RI) W (turnF 8 ct p))) := Lib.hid (fun W v r => c_spec_l04Turn 8 v ct p W r (by rw [hct]; exact hcl.1) hplt hbd2)
      obtain ⟨tr, htr⟩ : ∃ tr, tr = turnF 8 ct p := ⟨_, rfl⟩
      rw [← htr] at HIH hsd
      obtain ⟨br, hbr⟩ : ∃ br, br = canon (cutB t n) := ⟨_, rfl⟩
      rw [← hbr] at hcut hsd hcnB
      obtain ⟨tk, htk'⟩ : ∃ tk, tk = canon ct := ⟨_, rfl⟩
      rw [← htk'] at hcut hcnT
      rw [← hcnT, ← hcnB] at hsd
      have HR1 := Lib.hid R1
      have HR2 := Lib.hid R2
      have HR3 := Lib.hid R3
      have htk : (t.take n).length = n := by rw [List.length_take]; omega
      have HTK := Lib.hid htk
      have hdl : (t.take n).length + (t.drop k).length ≤ 1000000000 := by rw [htk, List.length_drop]; omega
      have HDL := Lib.hid hdl
      have HCT2 := Lib.hid hct2
      have HPAR := Lib.hid hpar
      have HEND := Lib.hid hend
      have HSD := Lib.hid hsd
      obtain ⟨tA, hA⟩ : ∃ tA, tA = t.take n := ⟨_, rfl⟩
      obtain ⟨tB, hB⟩ : ∃ tB, tB = t.drop k := ⟨_, rfl⟩
      rw [← hA] at HR1 HTK
      rw [← hB] at HR2 HR3
      rw [← hA, ← hB] at HDL HCT2
      have HCW : Hid (∀ j (h : j < t.length), wo.cell? ⟨b, off + j, none⟩ = some (.int .i64 t[j])) := Lib.hid (fun j hj => (hbelo.cell (p := ⟨b, off + j, none⟩) hb).trans (HC.out j hj))
      have gnw : wo.cell? ⟨b, off + n, none⟩ = some (.int .i64 x) := (hbelo.cell (p := ⟨b, off + n, none⟩) hb).trans gn
      have hwn : IntKind.i64.wrap ((n : Int) - 1) = (n : Int) - 1 := IntWalk.i64_in _ (by omega)
      have hwx : IntKind.i64.wrap (x - 1) = x - 1 := IntWalk.i64_in _ (by omega)
      have hbo : b < wo.heap.size := by omega
      clear hx hlev hcl h8 he R1 R2 R3 hct2 htk hdl hA hB hpo hplt0 hend hclen hp htl hct hplt hpar hsd hcnT hcnB htr hbr htk' hbd2 hwt hrdt2 hrdt gn hn'
      go_wp2_with fail
      refine hcut.mono ?_
      rintro e wc ⟨ua, ub, mid, rfl, ⟨q1, q2⟩, oa2, ob2, bc⟩
      obtain ⟨oua, cua, rfl, ua1, ua2⟩ := oa2.val
      obtain ⟨oub, cub, rfl, ub1, ub2⟩ := ob2.val
      have HTR : Hid (Own (RS RI) wo.heap.size mid wc [.slice oua tk.length cua] tk) := Lib.hid oa2
      have HBR : Hid (Own (RS RI) mid wc.heap.size wc [.slice oub br.length cub] br) := Lib.hid ob2
      have HBC := Lib.hid bc
      have HCW2 : Hid (∀ j (h : j < t.length), wc.cell? ⟨b, off + j, none⟩ = some (.int .i64 t[j])) := Lib.hid (fun j hj => (bc.cell (p := ⟨b, off + j, none⟩) hbo).trans (HCW.out j hj))
      have gnc : wc.cell? ⟨b, off + n, none⟩ = some (.int .i64 x) := (bc.cell (p := ⟨b, off + n, none⟩) hbo).trans gnw
      have HSC := Lib.hid bc.size
      clear oa2 ob2 hcut bc gnw HCW
      go_wp2_with fail
      go_loopw [6] (fun i wr => ∃ (q : Nat), q ≤ n ∧ i = .int .i64 ((q : Int) - 1) ∧ Hid (∀ r, q ≤ r → r < n → t.getD r 0 ≠ x - 1) ∧ ∃ nd, wr = wc.drewN nd) (fun i _ => (intOf i + 1).toNat)
      case atStart => exact ⟨n, Nat.le_refl _, rfl, Lib.hid (fun p a b => by omega), 0, rfl⟩
      case round =>
        obtain ⟨q, hq, rfl, hall, nd, rfl⟩ := hrel
        have hsk := parS_skip t (x - 1) q n hq hall.out
        rw [HPAR.out] at hsk
        have hq0 : 0 < q := by
          cases q with
          | zero => simp [parS] at hsk
          | succ q => omega
        obtain ⟨r, rfl⟩ : ∃ r, q = r + 1 := ⟨q - 1, by omega⟩
        have hrt : r < t.length := by omega
        have gr := HCW2.out r hrt
        have e1 : (((r + 1 : Nat) : Int) - 1) = (r : Int) := by omega
        rw [e1]
        have i1 : (0 : Int) ≤ (r : Int) := by omega
        have i2 : (r : Int) < (tl : Int) := by have := HTL.out; omega
        have hwr : IntKind.i64.wrap ((r : Int) - 1) = (r : Int) - 1 := IntWalk.i64_in _ (by omega)
        by_cases hne : t.getD r 0 ≠ x - 1
        · have hne' := hne
          rw [getD_get hrt] at hne'
          obtain ⟨y, hy⟩ : ∃ y : Int, y = t[r]'hrt := ⟨_, rfl⟩
          rw [← hy] at gr hne'
          have HALL : Hid (∀ s, r ≤ s → s < n → t.getD s 0 ≠ x - 1) := Lib.hid (by
            intro s a b'
            by_cases hr : s = r
            · subst hr; exact hne
            · exact hall.out s (by omega) b')
          have e2 : (y != x - 1) = true := by simp [hne']
          clear hy e1 hne hne' hsk
          go_wp2_with fail
          go_quiet (fail)
          go_wp2_with fail
          go_roundw
          case rel => exact ⟨r, by omega, by go_num, HALL, (by first | exact drewN1 _ _ | exact drewN2 _ _ _ | exact drewN3 _ _ _ _)⟩
          case measure => simp [intOf] <;> omega
        · have he' : t.getD r 0 = x - 1 := Decidable.byContradiction hne
          have hrp : r = p := by
            unfold parS at hsk
            rw [if_pos he'] at hsk
            omega
          subst hrp
          rw [getD_get hrt] at he'
          have e2 : (x - 1 != x - 1) = false := by simp
          rw [he'] at gr
          clear e1 hne he' hsk
          go_wp2_with fail
          go_quiet (fail)
          go_wp2_with fail
          refine (HEND.out _ (by first | exact HBC.out.trans ((Below.drewN _ _ _).mono HSC.out) | exact (HBC.out.trans ((Below.drewN _ _ _).mono HSC.out)).trans ((Below.drewN _ _ _).mono HSC.out))).mono ?_
          rintro e wq ⟨rfl, nd2, rfl⟩
          by_cases hck : c1 = k
          case' pos => have hrc := HR3.out hck; obtain rfl : tl = k := (by omega); have hck' := eq_true hck; clear hck
          case' neg => have hrc := HR2.out
          all_goals
            have HRC := Lib.hid hrc
            clear hrc
            go_wp2_with fail
            go_region_law (first
              | (refine step_call rfl 87 _ _ rfl EGO.out #[.slice (some ⟨b, off, none⟩) n c1] (by simp [Act.eval, Act.put]) ?_; refine Calls.mono (c_spec_l01Own _ _ _ ((HR1.out.below HBC.out (Nat.le_refl _)).of_heap (by rfl)) (by rw [HTK.out]; omega)) ?_; rintro e w2 ⟨u, rfl, o2, b2⟩; have bA : Below wc.heap.size wc w2 := Below.of_heap_eq b2 rfl rfl rfl rfl; refine ⟨_, rfl, ?_⟩)
              | (refine step_extI (w := w2) rfl _ _ 22 rfl 2 tI64 u tA wc.heap.size w2.heap.size rfl o2 _ tB rfl ((HRC.out.below (HBC.out.trans (bA.mono HSC.out)) (Nat.le_refl _)).of_heap (by rfl)) (Nat.le_refl _) bA.size HDL.out ct HCT2.out ?_; intro oa3 cap3 w3 o3 q1' q2' bB0))
            all_goals
              have HO3 := Lib.hid o3
              have bb3 := bA.trans bB0
              have HB3 := Lib.hid bb3
              have s3 := bb3.size
              clear o2 o3 b2
              by_cases hln : tk.length = br.length
              · have hlb : ((tk.length : Int) == (br.length : Int)) = true := by simp [hln]
                by_cases hxe : tr = br
                · have d1 : decide (tr = br) = true := decide_eq_true hxe
                  have EQ1 : Hid (∀ W v1 v2, Rd (RS RI) W [v1] tr → Rd (RS RI) W [v2] br → Calls Try.prog 63 #[v1, v2] W (RetQ W (.bool true))) := Lib.hid (fun W v1 v2 r1 r2 => by have := c_spec_l01Same v1 v2 tr br W r1 r2; rw [d1] at this; exact this)
                  have HR : Hid (isSup t = true) := Lib.hid (isSup_true hpos2 hn (by rw [HSD.out, d1, hln]; simp))
                  clear hxe d1 hln
                  go_wp2_with fail
                  refine (HIH.out _ _ HO3.out.rd).mono ?_
                  rintro e w4 ⟨u4, rfl, o4, b4⟩
                  go_wp2_with fail
                  refine (EQ1.out _ _ _ o4.rd ((HBR.out.below HB3.out (Nat.le_refl _)).below b4 s3).rd).mono ?_
                  rintro e w6 ⟨rfl, nd5, rfl⟩
                  go_wp2_with fail
                  go_ret
                  exact ⟨by rw [HR.out]; rfl, hbelo.trans (((HBC.out.trans (HB3.out.mono HSC.out)).trans ((b4.mono s3).mono HSC.out)).trans (Below.drewN _ _ _) |>.mono hszo)⟩
                · have d1 : decide (tr = br) = false := decide_eq_false hxe
                  have EQ1 : Hid (∀ W v1 v2, Rd (RS RI) W [v1] tr → Rd (RS RI) W [v2] br → Calls Try.prog 63 #[v1, v2] W (RetQ W (.bool false))) := Lib.hid (fun W v1 v2 r1 r2 => by have := c_spec_l01Same v1 v2 tr br W r1 r2; rw [d1] at this; exact this)
                  have HALL : Hid (∀ i, 0 < i → i < n + 1 → supD t i = false) := Lib.hid (fun i a b => by
                    by_cases hik : i = n
                    · subst hik; rw [HSD.out, d1]; simp
                    · exact hall0.out i a (by omega))
                  clear hxe d1 hln
                  go_wp2_with fail
                  refine (HIH.out _ _ HO3.out.rd).mono ?_
                  rintro e w4 ⟨u4, rfl, o4, b4⟩
                  go_wp2_with fail
                  refine (EQ1.out _ _ _ o4.rd ((HBR.out.below HB3.out (Nat.le_refl _)).below b4 s3).rd).mono ?_
                  rintro e w6 ⟨rfl, nd5, rfl⟩
                  have hb7 := hbelo.trans (((HBC.out.trans (HB3.out.mono HSC.out)).trans ((b4.mono s3).mono HSC.out)).trans (Below.drewN _ w4 nd5) |>.mono hszo)
                  go_wp2_with fail
                  go_roundw
                  case rel => exact ⟨n, by omega, by go_num, HALL, hb7⟩
                  case measure => simp [intOf] <;> omega
              · have hlb : ((tk.length : Int) == (br.length : Int)) = false := by simp; omega
                have HALL : Hid (∀ i, 0 < i → i < n + 1 → supD t i = false) := Lib.hid (fun i a b => by
                  by_cases hik : i = n
                  · subst hik
                    rw [HSD.out]
                    have : Nat.beq tk.length br.length = false := by
                      cases hbq : Nat.beq tk.length br.length
                      · rfl
                      · exact absurd (Nat.eq_of_beq_eq_true hbq) hln
                    rw [this]; rfl
                  · exact hall0.out i a (by omega))
                have hb7 := hbelo.trans ((HBC.out.trans (HB3.out.mono HSC.out)).mono hszo)
                clear hln
                go_wp2_with fail
                go_roundw
                case rel => exact ⟨n, by omega, by go_num, HALL, hb7⟩
                case measure => simp [intOf] <;> omega
    · have HR : Hid (isSup t = false) := Lib.hid (isSup_false (fun i a b => hall0.out i a (by have := HTL.out; omega)))
      go_wp2_with fail
      go_ret
      exact ⟨by rw [HR.out]; rfl, hbelo⟩

set_option maxRecDepth 100000 in
set_option maxHeartbeats 2000000 in
theorem k_spec_IsSuperfluous (v : Value) (t : List Int) (w : World) (h : Rd (RS RI) w [v] t) (hsz : t.length ≤ 1048576) :
    Calls Try.prog 32 #[v] w (RetV w (.tuple #[.bool (supOf t).1, .int .i64 (supOf t).2])) := by
  have hlv := c_spec_l03Is v t w h (by omega)
  cases h8 : lev8 t
  · have hr := Lib.hid (supOf_bad h8)
    rw [h8] at hlv
    go_enter Try.func32, Try.ntmps32
    go_wp2_with (go_at_call 51; refine hlv.mono ?_; rintro e w' ⟨rfl, nd, rfl⟩)
    go_ret2
    exact ⟨by rw [hr.out]; rfl, Below.drewN _ _ _⟩
  · have hr := Lib.hid (supOf_ok h8)
    rw [h8] at hlv
    have hl8 := lev8_len h8
    have HCN : Hid (∀ nd : Nat, Calls Try.prog 54 #[v] (w.drewN nd) (RetO (RS RI) (w.drewN nd) (canon t))) := Lib.hid (fun nd => c_spec_l03Canon 8 _ t _ (h.of_heap rfl) (lev8_lev h8) (by omega) (by omega))
    have HDB : Hid (∀ W v, Rd (RS RI) W [v] (canon t) → Calls Try.prog 68 #[v] W (RetV W (.bool (isSup (canon t))))) := Lib.hid (fun W v r => c_spec_l04Double v _ W r (lev8_canon h8))
    clear h
    go_enter Try.func32, Try.ntmps32
    go_wp2_with (go_at_call 51; refine hlv.mono ?_; rintro e w' ⟨rfl, nd, rfl⟩)
    refine (HCN.out _).mono ?_
    rintro e w1 ⟨u, rfl, o1, b1⟩
    go_wp2_with fail
    refine (HDB.out _ _ o1.rd).mono ?_
    rintro e w2 ⟨rfl, b2⟩
    go_wp2_with fail
    go_ret2
    have b1' := Below.of_heap_eq b1 rfl rfl rfl rfl (w := w)
    exact ⟨by rw [hr.out]; rfl, b1'.trans (b2.mono b1'.size)⟩
end Go.Proofs.Ytmeijcgclllldaa
