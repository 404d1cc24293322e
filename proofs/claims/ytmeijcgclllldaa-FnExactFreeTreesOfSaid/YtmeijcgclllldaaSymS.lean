/- Symmetries of trees: the reference's; labellings. -/
import Derived.Test.YtmeijcgclllldaaSym
namespace Go.Proofs.Ytmeijcgclllldaa
open Go.RowKit

set_option maxRecDepth 100000 in
set_option maxHeartbeats 1000000 in
theorem c_spec_l03Branches (v : Value) (t : List Int) (w : World) (h : Rd (RS RI) w [v] t) (hl : LevP t) (h13 : t.length ≤ 1000000) :
    Calls Try.prog 110 #[v] w (RetO (RS (RS RI)) w (forest (brs (canon t)))) := by
  have hca := c_spec_l03Canon t.length v t w h hl (Nat.le_refl _) h13
  have HCB : Hid (∀ (w' : World) (u : Value), Rd (RS RI) w' [u] (canon t) → Calls Try.prog 88 #[u] w' (RetO (RS (RS RI)) w' (brs (canon t)))) := Lib.hid (fun w' u hr => c_spec_l03Parts u (canon t) w' hr (canon_lev hl) (by rw [canon_len hl]; omega))
  have HCF : Hid (∀ (w' : World) (u : Value), Rd (RS (RS RI)) w' [u] (brs (canon t)) → Calls Try.prog 83 #[u] w' (RetO (RS (RS RI)) w' (forest (brs (canon t))))) := Lib.hid (fun w' u hr => c_spec_l03Sort u _ w' hr (by have := sym_few hl; rw [forest_len] at this; omega) (fun b hb => by have := sym_short hl b (forest_mem.2 hb); omega))
  clear h hl
  go_enter Try.func110, Try.ntmps110
  go_wp2_with (first
    | (go_at_call 54; refine hca.mono ?_; rintro e w1 ⟨u1, rfl, o1, b1⟩)
    | (go_at_call 88; refine (HCB.out _ _ o1.rd).mono ?_; rintro e w2 ⟨u2, rfl, o2, b2⟩)
    | (go_at_call 83; refine (HCF.out _ _ o2.rd).mono ?_; rintro e w3 ⟨u3, rfl, o3, b3⟩; obtain ⟨oa, cap, rfl, l1, l2⟩ := o3.val))
  have hsz1 := b1.size
  have hsz2 := b2.size
  go_ret
  exact ⟨_, rfl, o3.mono (by omega) (Nat.le_refl _), (b1.trans (b2.mono hsz1)).trans (b3.mono (Nat.le_trans hsz1 hsz2))⟩

set_option maxRecDepth 100000 in
set_option maxHeartbeats 2000000 in
theorem c_spec_l03Symmetry : ∀ (n : Nat) (v : Value) (t : List Int) (w : World), Rd (RS RI) w [v] t → LevP t → t.length ≤ n → t.length ≤ 1000000 →
    Calls Try.prog 76 #[v] w (RetV w (.int .i64 (symF n t))) := by
  intro n
  induction n with
  | zero => intro v t w h hl hn h13; have := hl.pos; omega
  | succ n ih =>
    intro v t w h hl hn h13
    have hbr := c_spec_l03Branches v t w h hl h13
    have HL := Lib.hid hl
    have IH := Lib.hid ih
    have hfew := sym_few hl
    obtain ⟨bs, hbs⟩ : ∃ bs, bs = forest (brs (canon t)) := ⟨_, rfl⟩
    rw [← hbs] at hfew hbr
    have HB := Lib.hid hbs
    clear h hl ih hbs
    go_enter Try.func76, Try.ntmps76
    go_wp2_with (go_at_call 110; refine hbr.mono ?_; rintro e w3 ⟨u3, rfl, o3, hb3⟩; obtain ⟨oa, cap, rfl, l1, l2⟩ := o3.val)
    have hsz3 := hb3.size
    obtain ⟨oa1, cap1, L⟩ := o3.rd.lists
    have hval := L.val
    simp only [Value.slice.injEq, true_and] at hval
    obtain ⟨rfl, rfl⟩ := hval
    have HLs := Lib.hid L
    clear L o3 hbr
    go_loopw [4, 5, 6] (fun o s i wr => ∃ k : Nat, k ≤ bs.length ∧ i = .int .i64 k ∧ s = .int .i64 (runTo bs k) ∧ o = .int .i64 (symTo (symF n) bs k) ∧ Below w3.heap.size w3 wr) (fun _ _ i _ => bs.length - (intOf i).toNat)
    case atStart => exact ⟨0, Nat.zero_le _, rfl, rfl, rfl, Below.refl _ _⟩
    case round =>
      obtain ⟨k, hk, rfl, rfl, rfl, hbel⟩ := hrel
      by_cases hlt : k < bs.length
      · obtain ⟨b, off, rfl, hb, hc⟩ := HLs.out.get hlt
        obtain ⟨oi, ci, g1, hrd, q1, q2⟩ := hc k hlt
        have g2 : wr.cell? ⟨b, off + k, none⟩ = some (.slice oi bs[k].length ci) := (hbel.cell (p := ⟨b, off + k, none⟩) hb).trans g1
        have hmem : bs[k] ∈ forest (brs (canon t)) := by rw [← HB.out]; exact List.getElem_mem hlt
        have hshort := sym_short HL.out _ hmem
        have hrec : Hid (∀ w', Below w3.heap.size w3 w' → Calls Try.prog 76 #[.slice oi bs[k].length ci] w' (RetV w' (.int .i64 (symF n bs[k])))) := Lib.hid (fun w' hb' => IH.out _ bs[k] w' (hrd.below hb' (Nat.le_refl _)) (sym_lev HL.out _ hmem) (by omega) (by omega))
        have hnx := symTo_succ (symF n) bs k hlt
        obtain ⟨r1, r2⟩ := runTo_bd bs k
        obtain ⟨q, hq⟩ : ∃ q, q = symTo (symF n) bs k := ⟨_, rfl⟩
        obtain ⟨y, hy⟩ : ∃ y, y = symF n bs[k] := ⟨_, rfl⟩
        rw [← hq, ← hy] at hnx
        rw [← hy] at hrec
        have hnew : ∀ s, runTo bs (k + 1) = s → Hid (symTo (symF n) bs (k + 1) = wrap64 (wrap64 (q * s) * y)) := fun s e => Lib.hid (by rw [hnx, e, wrap64_mul_l, Int.mul_assoc])
        have HNEW := Lib.hid hnew
        have hrs := runTo_bd bs (k + 1)
        have hk0 : k = 0 → runTo bs (k + 1) = runTo bs k + 1 := fun e => runTo_same hlt (.inl e)
        have HK0 := Lib.hid hk0
        obtain ⟨s0, hs0⟩ : ∃ s0, s0 = runTo bs k := ⟨_, rfl⟩
        rw [← hs0] at r1 r2 HK0
        rw [← hq, ← hs0]
        have hw1 : IntKind.i64.wrap (s0 + 1) = s0 + 1 := IntWalk.i64_in _ (by omega)
        by_cases hkz : k = 0
        · have hrun0 := HK0.out hkz
          subst hkz
          have hs00 : s0 = 0 := by simpa [runTo] using hs0
          subst hs00
          have hrun : runTo bs (0 + 1) = 1 := hrun0
          have HN := HNEW.out _ hrun
          have HRUN := Lib.hid hrun
          obtain ⟨xl, hxl⟩ : ∃ xl, xl = bs[0].length := ⟨_, rfl⟩
          rw [← hxl] at g2 q1 hrec
          rw [Nat.add_zero] at g2
          obtain ⟨g, hg⟩ : ∃ g, wrap64 q = g := ⟨_, rfl⟩
          obtain ⟨g', hg'⟩ : ∃ g', wrap64 (g * y) = g' := ⟨_, rfl⟩
          rw [Int.mul_one, hg, hg'] at HN
          have hw2 : IntKind.i64.wrap q = g := (IntWalk.i64_left _).trans hg
          have hw3 : IntKind.i64.wrap (g * y) = g' := (IntWalk.i64_left _).trans hg'
          have hz : ((0 : Int) == 0) = true := rfl
          clear hc g1 hrd hnx hq hy hxl hmem hnew hrs hk0 hs0 hrun hrun0
          go_wp2_with fail
          go_quiet (fail)
          go_wp2_with (go_at_call 76; refine (hrec.out _ (hbel.trans (Below.drewN _ _ _))).mono ?_; rintro e w5 ⟨rfl, b5⟩)
          have hb5 : Below w3.heap.size w3 w5 := (hbel.trans (Below.drewN _ _ _)).trans (b5.mono hbel.size)
          go_roundw
          case rel => exact ⟨1, by omega, by go_num, by simp only [HRUN.out], by simp only [HN.out], hb5⟩
          case measure => simp [intOf]; omega
        · obtain ⟨kp, rfl⟩ : ∃ kp, k = kp + 1 := ⟨k - 1, by omega⟩
          obtain ⟨op, cp, g1p, hrdp, q1p, q2p⟩ := hc kp (by omega)
          have g2p : wr.cell? ⟨b, off + kp, none⟩ = some (.slice op bs[kp].length cp) := (hbel.cell (p := ⟨b, off + kp, none⟩) hb).trans g1p
          have HEQ : Hid (∀ a, Calls Try.prog 63 #[.slice oi bs[kp + 1].length ci, .slice op bs[kp].length cp] (wr.drewN a) fun e w'' => e = .returned (.bool (decide (bs[kp + 1] = bs[kp]))) ∧ ∃ m, w'' = wr.drewN m) := Lib.hid (fun a => Calls.retQ (c_spec_l01Same _ _ _ _ _ ((hrd.below hbel (Nat.le_refl _)).of_heap rfl) ((hrdp.below hbel (Nat.le_refl _)).of_heap rfl)))
          have hidx : (((kp + 1 : Nat) : Int) - 1) = (kp : Int) := by omega
          have hgt : (((kp + 1 : Nat) : Int) == 0) = false := by simp; omega
          have ip0 : (0 : Int) ≤ (kp : Int) + 1 := by omega
          have ip00 : (kp : Int) + 1 < (bs.length : Int) := by omega
          have ip000 : ((kp : Int) + 1).toNat = kp + 1 := by omega
          have hgt2 : ((kp : Int) + 1 == 0) = false := by simp; omega
          have hgt3 : decide ((kp : Int) + 1 = 0) = false := by simp; omega
          have ip1 : (0 : Int) ≤ (kp : Int) := by omega
          have ip2 : (kp : Int) < (bs.length : Int) := by omega
          have ip3 : IntKind.i64.wrap (kp : Int) = (kp : Int) := IntWalk.i64_in _ (by omega)
          by_cases hsame : bs[kp] = bs[kp + 1]
          · have hrun := runTo_same hlt (.inr ⟨by omega, by simpa using hsame⟩)
            have HN := HNEW.out _ hrun
            rw [← hs0] at HN hrun
            have HRUN := Lib.hid hrun
            have hd : decide (bs[kp + 1] = bs[kp]) = true := decide_eq_true hsame.symm
            rw [hd] at HEQ
            obtain ⟨xl, hxl⟩ : ∃ xl, xl = bs[kp + 1].length := ⟨_, rfl⟩
            obtain ⟨xp, hxp⟩ : ∃ xp, xp = bs[kp].length := ⟨_, rfl⟩
            rw [← hxl] at g2 q1 hrec HEQ
            rw [← hxp] at g2p q1p HEQ
            obtain ⟨g, hg⟩ : ∃ g, wrap64 (q * (s0 + 1)) = g := ⟨_, rfl⟩
            obtain ⟨g', hg'⟩ : ∃ g', wrap64 (g * y) = g' := ⟨_, rfl⟩
            rw [hg, hg'] at HN
            have hw2 : IntKind.i64.wrap (q * (s0 + 1)) = g := (IntWalk.i64_left _).trans hg
            have hw3 : IntKind.i64.wrap (g * y) = g' := (IntWalk.i64_left _).trans hg'
            clear hc g1 hrd hnx hq hy hxl hmem hnew hrs hk0 hs0 hrun hd hsame hxp g1p hrdp
            go_wp2_with fail
            go_quiet ((go_at_call 63; exact HEQ.out _))
            go_wp2_with (go_at_call 76; refine (hrec.out _ (hbel.trans (Below.drewN _ _ _))).mono ?_; rintro e w5 ⟨rfl, b5⟩)
            have hb5 : Below w3.heap.size w3 w5 := (hbel.trans (Below.drewN _ _ _)).trans (b5.mono hbel.size)
            go_roundw
            case rel => exact ⟨kp + 1 + 1, by omega, by go_num, by simp only [HRUN.out], by simp only [HN.out], hb5⟩
            case measure => simp [intOf]; omega
          · have hrun := runTo_new hlt (by omega) (by simpa using hsame)
            have HN := HNEW.out _ hrun
            have HRUN := Lib.hid hrun
            have hd : decide (bs[kp + 1] = bs[kp]) = false := decide_eq_false (fun e => hsame e.symm)
            rw [hd] at HEQ
            obtain ⟨xl, hxl⟩ : ∃ xl, xl = bs[kp + 1].length := ⟨_, rfl⟩
            obtain ⟨xp, hxp⟩ : ∃ xp, xp = bs[kp].length := ⟨_, rfl⟩
            rw [← hxl] at g2 q1 hrec HEQ
            rw [← hxp] at g2p q1p HEQ
            obtain ⟨g, hg⟩ : ∃ g, wrap64 q = g := ⟨_, rfl⟩
            obtain ⟨g', hg'⟩ : ∃ g', wrap64 (g * y) = g' := ⟨_, rfl⟩
            rw [Int.mul_one, hg, hg'] at HN
            have hw2 : IntKind.i64.wrap q = g := (IntWalk.i64_left _).trans hg
            have hw3 : IntKind.i64.wrap (g * y) = g' := (IntWalk.i64_left _).trans hg'
            clear hc g1 hrd hnx hq hy hxl hmem hnew hrs hk0 hs0 hrun hd hsame hxp g1p hrdp
            go_wp2_with fail
            go_quiet ((go_at_call 63; exact HEQ.out _))
            go_wp2_with (go_at_call 76; refine (hrec.out _ (hbel.trans (Below.drewN _ _ _))).mono ?_; rintro e w5 ⟨rfl, b5⟩)
            have hb5 : Below w3.heap.size w3 w5 := (hbel.trans (Below.drewN _ _ _)).trans (b5.mono hbel.size)
            go_roundw
            case rel => exact ⟨kp + 1 + 1, by omega, by go_num, by simp only [HRUN.out], by simp only [HN.out], hb5⟩
            case measure => simp [intOf]; omega
      · have hfin : symTo (symF n) bs k = symF (n + 1) t := by
          have e : k = bs.length := by omega
          rw [e, HB.out]; rfl
        rw [hfin]
        go_wp2_with fail
        go_ret
        exact ⟨rfl, hb3.trans (hbel.mono hsz3)⟩
end Go.Proofs.Ytmeijcgclllldaa
