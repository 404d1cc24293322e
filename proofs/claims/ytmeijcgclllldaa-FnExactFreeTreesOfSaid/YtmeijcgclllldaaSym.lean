/- Symmetries of trees. -/
import Derived.Test.YtmeijcgclllldaaLab
namespace Go.Proofs.Ytmeijcgclllldaa
open Go.RowKit

theorem forest_len (bs : List (List Int)) : (forest bs).length = bs.length := sortC_length bs

theorem forest_mem {bs : List (List Int)} {b : List Int} : b ∈ forest bs ↔ b ∈ bs := sortC_mem

theorem sym_lev {t : List Int} (h : LevP t) : ∀ b ∈ forest (brs (canon t)), LevP b := fun b hb => brs_lev (canon_lev h) b (forest_mem.1 hb)
theorem sym_short {t : List Int} (h : LevP t) : ∀ b ∈ forest (brs (canon t)), b.length + 1 ≤ t.length := fun b hb => by
  have := brs_short (canon_lev h) b (forest_mem.1 hb)
  rwa [canon_len h] at this
theorem sym_few {t : List Int} (h : LevP t) : (forest (brs (canon t))).length + 1 ≤ t.length := by
  rw [forest_len]
  have := brs_few (canon_lev h)
  rwa [canon_len h] at this

theorem runTo_same {bs : List (List Int)} {k : Nat} (h : k < bs.length) (he : k = 0 ∨ ∃ h0 : k - 1 < bs.length, bs[k - 1] = bs[k]) : runTo bs (k + 1) = runTo bs k + 1 := by
  have e : runTo bs (k + 1) = if k = 0 ∨ bs.getD (k - 1) [] = bs.getD k [] then runTo bs k + 1 else 1 := rfl
  rw [e, if_pos]
  rcases he with he | ⟨h0, he⟩
  · exact .inl he
  · right
    rw [List.getD_eq_getElem?_getD, List.getD_eq_getElem?_getD, List.getElem?_eq_getElem h0, List.getElem?_eq_getElem h]
    exact he

theorem runTo_new {bs : List (List Int)} {k : Nat} (h : k < bs.length) (h0 : 0 < k) (he : bs[k - 1] ≠ bs[k]) : runTo bs (k + 1) = 1 := by
  have e : runTo bs (k + 1) = if k = 0 ∨ bs.getD (k - 1) [] = bs.getD k [] then runTo bs k + 1 else 1 := rfl
  rw [e, if_neg]
  rintro (h1 | h1)
  · omega
  · rw [List.getD_eq_getElem?_getD, List.getD_eq_getElem?_getD, List.getElem?_eq_getElem (by omega), List.getElem?_eq_getElem h] at h1
    exact he h1

theorem symTo_succ (s : List Int → Int) (bs : List (List Int)) (k : Nat) (h : k < bs.length) : symTo s bs (k + 1) = wrap64 (symTo s bs k * (runTo bs (k + 1) * s bs[k])) := by
  rw [symTo, List.getD_eq_getElem?_getD, List.getElem?_eq_getElem h]; rfl

set_option maxRecDepth 100000 in
set_option maxHeartbeats 2000000 in
theorem c_impl_symmetry : ∀ (n : Nat) (v : Value) (t : List Int) (w : World), Rd (RS RI) w [v] t → LevP t → t.length ≤ n → t.length ≤ 13 →
    Calls Try.prog 79 #[v] w (RetV w (.int .i64 (symF n t))) := by
  intro n
  induction n with
  | zero => intro v t w h hl hn h13; have := hl.pos; omega
  | succ n ih =>
    intro v t w h hl hn h13
    have hca := c_impl_canonical 13 v t w h hl h13 h13
    have HCB : Hid (∀ (w' : World) (u : Value), Rd (RS RI) w' [u] (canon t) → Calls Try.prog 92 #[u] w' (RetO (RS (RS RI)) w' (brs (canon t)))) := Lib.hid (fun w' u hr => c_impl_branchesOf u (canon t) w' hr (canon_lev hl) (by rw [canon_len hl]; omega))
    have HCF : Hid (∀ (w' : World) (u : Value), Rd (RS (RS RI)) w' [u] (brs (canon t)) → Calls Try.prog 85 #[u] w' (RetO (RS (RS RI)) w' (forest (brs (canon t))))) := Lib.hid (fun w' u hr => c_impl_forestOf u _ w' hr (by have := sym_few hl; rw [forest_len] at this; omega) (fun b hb => by have := sym_short hl b (forest_mem.2 hb); omega))
    have HL := Lib.hid hl
    have IH := Lib.hid ih
    have hfew := sym_few hl
    obtain ⟨bs, hbs⟩ : ∃ bs, bs = forest (brs (canon t)) := ⟨_, rfl⟩
    rw [← hbs] at hfew HCF
    have HB := Lib.hid hbs
    clear h hl ih hbs
    go_enter Try.func79, Try.ntmps79
    go_wp2_with (first
      | (go_at_call 59; refine hca.mono ?_; rintro e w1 ⟨u1, rfl, o1, b1⟩)
      | (go_at_call 92; refine (HCB.out _ _ o1.rd).mono ?_; rintro e w2 ⟨u2, rfl, o2, b2⟩)
      | (go_at_call 85; refine (HCF.out _ _ o2.rd).mono ?_; rintro e w3 ⟨u3, rfl, o3, b3⟩; obtain ⟨oa, cap, rfl, l1, l2⟩ := o3.val))
    have hsz1 := b1.size
    have hsz2 := b2.size
    have hb3 : Below w.heap.size w w3 := (b1.trans (b2.mono hsz1)).trans (b3.mono (Nat.le_trans hsz1 hsz2))
    have hsz3 := hb3.size
    obtain ⟨oa1, cap1, L⟩ := o3.rd.lists
    have hval := L.val
    simp only [Value.slice.injEq, true_and] at hval
    obtain ⟨rfl, rfl⟩ := hval
    have HLs := Lib.hid L
    clear L o1 o2 o3 b1 b2 b3 hca HCB HCF
    go_loopw [3, 5, 14] (fun o s i wr => ∃ k : Nat, k ≤ bs.length ∧ i = .int .i64 k ∧ s = .int .i64 (runTo bs k) ∧ o = .int .i64 (symTo (symF n) bs k) ∧ Below w3.heap.size w3 wr) (fun _ _ i _ => bs.length - (intOf i).toNat)
    case atStart => exact ⟨0, Nat.zero_le _, rfl, rfl, rfl, Below.refl _ _⟩
    case round =>
      obtain ⟨k, hk, rfl, rfl, rfl, hbel⟩ := hrel
      by_cases hlt : k < bs.length
      · obtain ⟨b, off, rfl, hb, hc⟩ := HLs.out.get hlt
        obtain ⟨oi, ci, g1, hrd, q1, q2⟩ := hc k hlt
        have g2 : wr.cell? ⟨b, off + k, none⟩ = some (.slice oi bs[k].length ci) := (hbel.cell (p := ⟨b, off + k, none⟩) hb).trans g1
        have hmem : bs[k] ∈ forest (brs (canon t)) := by rw [← HB.out]; exact List.getElem_mem hlt
        have hshort := sym_short HL.out _ hmem
        have hrec : Hid (∀ w', Below w3.heap.size w3 w' → Calls Try.prog 79 #[.slice oi bs[k].length ci] w' (RetV w' (.int .i64 (symF n bs[k])))) := Lib.hid (fun w' hb' => IH.out _ bs[k] w' (hrd.below hb' (Nat.le_refl _)) (sym_lev HL.out _ hmem) (by omega) (by omega))
        have hnx := symTo_succ (symF n) bs k hlt
        obtain ⟨r1, r2⟩ := runTo_bd bs k
        obtain ⟨q, hq⟩ : ∃ q, q = symTo (symF n) bs k := ⟨_, rfl⟩
        obtain ⟨y, hy⟩ : ∃ y, y = symF n bs[k] := ⟨_, rfl⟩
        rw [← hq, ← hy] at hnx
        rw [← hy] at hrec
        have hnew : ∀ s, runTo bs (k + 1) = s → Hid (symTo (symF n) bs (k + 1) = wrap64 (q * wrap64 (s * y))) := fun s e => Lib.hid (by rw [hnx, e, wrap64_mul_r])
        have HNEW := Lib.hid hnew
        have hrs := runTo_bd bs (k + 1)
        have hk0 : k = 0 → runTo bs (k + 1) = runTo bs k + 1 := fun e => runTo_same hlt (.inl e)
        have HK0 := Lib.hid hk0
        obtain ⟨s0, hs0⟩ : ∃ s0, s0 = runTo bs k := ⟨_, rfl⟩
        rw [← hs0] at r1 r2 HK0
        rw [← hq, ← hs0]
        have hw1 : IntKind.i64.wrap (s0 + 1) = s0 + 1 := IntWalk.i64_in _ (by omega)
        by_cases hkz : k = 0
        · have hrun := HK0.out hkz
          have HN := HNEW.out _ hrun
          have HRUN := Lib.hid hrun
          subst hkz
          obtain ⟨xl, hxl⟩ : ∃ xl, xl = bs[0].length := ⟨_, rfl⟩
          rw [← hxl] at g2 q1 hrec
          rw [Nat.add_zero] at g2
          obtain ⟨g, hg⟩ : ∃ g, wrap64 ((s0 + 1) * y) = g := ⟨_, rfl⟩
          obtain ⟨g', hg'⟩ : ∃ g', wrap64 (q * g) = g' := ⟨_, rfl⟩
          rw [hg, hg'] at HN
          have hw2 : IntKind.i64.wrap ((s0 + 1) * y) = g := (IntWalk.i64_left _).trans hg
          have hw3 : IntKind.i64.wrap (q * g) = g' := (IntWalk.i64_left _).trans hg'
          clear hc g1 hrd hnx hq hy hxl hmem hnew hrs hk0 hs0 hrun
          go_wp2_with (go_at_call 79; refine (hrec.out _ hbel).mono ?_; rintro e w5 ⟨rfl, b5⟩)
          have hb5 : Below w3.heap.size w3 w5 := hbel.trans (b5.mono hbel.size)
          go_roundw
          case rel => exact ⟨1, by omega, by go_num, by simp only [HRUN.out], by simp only [HN.out], hb5⟩
          case measure => simp [intOf]; omega
        · obtain ⟨kp, rfl⟩ : ∃ kp, k = kp + 1 := ⟨k - 1, by omega⟩
          obtain ⟨op, cp, g1p, hrdp, q1p, q2p⟩ := hc kp (by omega)
          have g2p : wr.cell? ⟨b, off + kp, none⟩ = some (.slice op bs[kp].length cp) := (hbel.cell (p := ⟨b, off + kp, none⟩) hb).trans g1p
          have HEQ : Hid (Calls Try.prog 65 #[.slice op bs[kp].length cp, .slice oi bs[kp + 1].length ci] wr (RetQ wr (.bool (decide (bs[kp] = bs[kp + 1]))))) := Lib.hid (c_slicesEqual _ _ _ _ wr (hrdp.below hbel (Nat.le_refl _)) (hrd.below hbel (Nat.le_refl _)))
          have hidx : (((kp + 1 : Nat) : Int) - 1) = (kp : Int) := by omega
          have hgt : decide (((kp + 1 : Nat) : Int) > 0) = true := decide_eq_true (by omega)
          have hgt2 : (0 : Int) < ((kp + 1 : Nat) : Int) := by omega
          have ip1 : (0 : Int) ≤ (kp : Int) := by omega
          have ip2 : (kp : Int) < (bs.length : Int) := by omega
          have ip3 : IntKind.i64.wrap (kp : Int) = (kp : Int) := IntWalk.i64_in _ (by omega)
          by_cases hsame : bs[kp] = bs[kp + 1]
          · have hrun := runTo_same hlt (.inr ⟨by omega, by simpa using hsame⟩)
            have HN := HNEW.out _ hrun
            rw [← hs0] at HN hrun
            have HRUN := Lib.hid hrun
            have hd : decide (bs[kp] = bs[kp + 1]) = true := decide_eq_true hsame
            rw [hd] at HEQ
            obtain ⟨xl, hxl⟩ : ∃ xl, xl = bs[kp + 1].length := ⟨_, rfl⟩
            obtain ⟨xp, hxp⟩ : ∃ xp, xp = bs[kp].length := ⟨_, rfl⟩
            rw [← hxl] at g2 q1 hrec HEQ
            rw [← hxp] at g2p q1p HEQ
            obtain ⟨g, hg⟩ : ∃ g, wrap64 ((s0 + 1) * y) = g := ⟨_, rfl⟩
            obtain ⟨g', hg'⟩ : ∃ g', wrap64 (q * g) = g' := ⟨_, rfl⟩
            rw [hg, hg'] at HN
            have hw2 : IntKind.i64.wrap ((s0 + 1) * y) = g := (IntWalk.i64_left _).trans hg
            have hw3 : IntKind.i64.wrap (q * g) = g' := (IntWalk.i64_left _).trans hg'
            clear hc g1 hrd hnx hq hy hxl hmem hnew hrs hk0 hs0 hrun hd hsame hxp g1p hrdp
            go_wp2_with (first
              | (go_at_call 79; refine (hrec.out _ (hbel.trans (Below.drewN _ _ _))).mono ?_; rintro e w5 ⟨rfl, b5⟩)
              | (go_at_call 65; refine HEQ.out.mono ?_; rintro e w4 ⟨rfl, nd, rfl⟩))
            have hb5 : Below w3.heap.size w3 w5 := (hbel.trans (Below.drewN _ _ _)).trans (b5.mono hbel.size)
            go_roundw
            case rel => exact ⟨kp + 1 + 1, by omega, by go_num, by simp only [HRUN.out], by simp only [HN.out], hb5⟩
            case measure => simp [intOf]; omega
          · have hrun := runTo_new hlt (by omega) (by simpa using hsame)
            have HN := HNEW.out _ hrun
            have HRUN := Lib.hid hrun
            have hd : decide (bs[kp] = bs[kp + 1]) = false := decide_eq_false hsame
            rw [hd] at HEQ
            obtain ⟨xl, hxl⟩ : ∃ xl, xl = bs[kp + 1].length := ⟨_, rfl⟩
            obtain ⟨xp, hxp⟩ : ∃ xp, xp = bs[kp].length := ⟨_, rfl⟩
            rw [← hxl] at g2 q1 hrec HEQ
            rw [← hxp] at g2p q1p HEQ
            obtain ⟨g, hg⟩ : ∃ g, wrap64 y = g := ⟨_, rfl⟩
            obtain ⟨g', hg'⟩ : ∃ g', wrap64 (q * g) = g' := ⟨_, rfl⟩
            rw [Int.one_mul, hg, hg'] at HN
            have hw2 : IntKind.i64.wrap y = g := (IntWalk.i64_left _).trans hg
            have hw3 : IntKind.i64.wrap (q * g) = g' := (IntWalk.i64_left _).trans hg'
            clear hc g1 hrd hnx hq hy hxl hmem hnew hrs hk0 hs0 hrun hd hsame hxp g1p hrdp
            go_wp2_with (first
              | (go_at_call 79; refine (hrec.out _ (hbel.trans (Below.drewN _ _ _))).mono ?_; rintro e w5 ⟨rfl, b5⟩)
              | (go_at_call 65; refine HEQ.out.mono ?_; rintro e w4 ⟨rfl, nd, rfl⟩))
            have hb5 : Below w3.heap.size w3 w5 := (hbel.trans (Below.drewN _ _ _)).trans (b5.mono hbel.size)
            go_roundw
            case rel => exact ⟨kp + 1 + 1, by omega, by go_num, by simp only [HRUN.out], by simp only [HN.out], hb5⟩
            case measure => simp [intOf]; omega
      · have hfin : symTo (symF n) bs k = symF (n + 1) t := by
          have e : k = bs.length := by omega
          rw [e, HB.out]; rfl
        rw [hfin]
        go_wp2_with fail
        go_ret
        exact ⟨rfl, hb3.trans (hbel.mono hsz3)⟩
end Go.Proofs.Ytmeijcgclllldaa
