/- CountCutsTo: both programs. -/
import Derived.Test.YtmeijcgclllldaaCutAbove
import Derived.Test.YtmeijcgclllldaaCutsPerm
namespace Go.Proofs.Ytmeijcgclllldaa
open Go.RowKit

/-- A literal list. -/
theorem Rd.lit {α : Type} {R : Rep α} {w W : World} {ds : List Value} {xs : List α} {E : TypeId} (h : rdL R (fun b => b < w.heap.size) w ds xs) (e : W.heap = (w.alloc (.cells ds.toArray E)).heap) (hn : xs.length ≤ maxLen) :
    Rd (RS R) W [.slice (some ⟨w.heap.size, 0, none⟩) xs.length xs.length] xs := by
  refine Rd.of_heap (w := w.alloc (.cells ds.toArray E)) ?_ e
  have hb : Below w.heap.size w (w.alloc (.cells ds.toArray E)) := (Below.refl _ _).alloc (Nat.le_refl _) _
  refine ⟨some ⟨w.heap.size, 0, none⟩, xs.length, ds, rfl, Nat.le_refl _, hn, by simp, ?_, .inr ⟨w.heap.size, 0, rfl, by simp, fun j u hj => ?_⟩⟩
  · exact (h.frame (fun b h1 _ => hb.block b h1)).mono (fun b h1 h2 => h2)
  · rw [Nat.zero_add, World.cell?_alloc_at _ _ _ _ rfl]
    simpa using hj

set_option maxRecDepth 100000 in
set_option maxHeartbeats 2000000 in
theorem k_impl_CountCutsTo (v0 v1 v2 : Value) (t a b : List Int) (w : World) (h0 : Rd (RS RI) w [v0] t) (h1 : Rd (RS RI) w [v1] a) (h2 : Rd (RS RI) w [v2] b) :
    Calls Try.prog 29 #[v0, v1, v2] w (RetV w (.tuple #[.int .i64 (cctOf t a b).1, .int .i64 (cctOf t a b).2])) := by
  have hal := c_impl_areLevels (.slice (some ⟨w.heap.size, 0, none⟩) 3 3) [t, a, b] (w.alloc (.cells #[v0, v1, v2] 22))
    (Rd.lit (ds := [v0, v1, v2]) (xs := [t, a, b]) ⟨[v0], [v1, v2], rfl, h0, ⟨[v1], [v2], rfl, h1, rdL.single h2⟩⟩ rfl (by show 3 ≤ maxLen; decide))
  simp only [List.all_cons, List.all_nil, Bool.and_true] at hal
  rw [← Bool.and_assoc] at hal
  have hb0 : Below w.heap.size w (w.alloc (.cells #[v0, v1, v2] 22)) := (Below.refl _ _).alloc (Nat.le_refl _) _
  obtain ⟨oa0, c0, rfl, m1, m2⟩ := h0.val
  obtain ⟨oa1, c1, rfl, m3, m4⟩ := h1.val
  obtain ⟨oa2, c2, rfl, m5, m6⟩ := h2.val
  unfold maxLen at m2
  cases hall : lev8 t && lev8 a && lev8 b
  · have hr := Lib.hid (cctOf_bad hall)
    rw [hall] at hal
    go_enter Try.func29, Try.ntmps29
    go_wp2_with (go_at_call 64; refine hal.mono ?_; rintro e w' ⟨rfl, rfl⟩)
    go_ret2
    exact ⟨by rw [hr.out]; rfl, hb0⟩
  · have hr := Lib.hid (cctOf_ok hall)
    rw [hall] at hal
    simp only [Bool.and_eq_true] at hall
    obtain ⟨⟨p1, p2⟩, p3⟩ := hall
    have hl8 := lev8_len p1
    have HCT : Hid (∀ W v, Rd (RS RI) W [v] t → Calls Try.prog 59 #[v] W (RetO (RS RI) W (canon t))) := Lib.hid (fun W v r => c_impl_canonical 13 v t W r (lev8_lev p1) (by omega) (by omega))
    have HCA : Hid (∀ W v, Rd (RS RI) W [v] a → Calls Try.prog 59 #[v] W (RetO (RS RI) W (canon a))) := Lib.hid (fun W v r => c_impl_canonical 13 v a W r (lev8_lev p2) (by have := lev8_len p2; omega) (by have := lev8_len p2; omega))
    have HCB : Hid (∀ W v, Rd (RS RI) W [v] b → Calls Try.prog 59 #[v] W (RetO (RS RI) W (canon b))) := Lib.hid (fun W v r => c_impl_canonical 13 v b W r (lev8_lev p3) (by have := lev8_len p3; omega) (by have := lev8_len p3; omega))
    have hcc := canon_len (lev8_lev p1)
    have hcan := cntTo_canon p1 (canon a, canon b)
    have hc8 := lev8_canon p1
    obtain ⟨ct, hct⟩ : ∃ ct, ct = canon t := ⟨_, rfl⟩
    rw [← hct] at HCT hcc hcan hc8
    have HCU : Hid (∀ (W : World) (v : Value) (m : Nat), Rd (RS RI) W [v] ct → 0 < m → m < t.length → Calls Try.prog 58 #[v, .int .i64 m] W (RetOO (RS RI) (RS RI) W (canon (cutT ct m)) (canon (cutB ct m)))) := Lib.hid (fun W v m r q1 q2 => c_impl_cutAbove v ct m W r hc8 q1 (by omega))
    obtain ⟨ca, hca⟩ : ∃ ca, ca = canon a := ⟨_, rfl⟩
    obtain ⟨cb, hcb⟩ : ∃ cb, cb = canon b := ⟨_, rfl⟩
    rw [← hca, ← hcb] at hcan hr
    rw [← hca] at HCA
    rw [← hcb] at HCB
    have H1 := Lib.hid h1
    have H2 := Lib.hid h2
    have HCAN := Lib.hid hcan
    have hpos := (lev8_lev p1).pos
    obtain ⟨tl, htl⟩ : ∃ tl, tl = t.length := ⟨_, rfl⟩
    rw [← htl] at m1 hl8 HCU hpos hal h0 hb0
    have H0 := Lib.hid h0
    rw [← htl]
    have HTL := Lib.hid htl
    clear hct hca hcb h0 h1 h2 hcan htl p1 p2 p3 hcc hc8
    go_enter Try.func29, Try.ntmps29
    go_wp2_with (go_at_call 64; refine hal.mono ?_; rintro e w' ⟨rfl, rfl⟩)
    go_loopw [8, 9] (fun c i wr => ∃ (k : Nat), k + 1 ≤ tl ∧ i = .int .i64 (k + 1 : Nat) ∧ c = .int .i64 (cntTo ct (ca, cb) k : Nat) ∧ Below w.heap.size w wr) (fun _ i _ => tl - (intOf i).toNat)
    case atStart => exact ⟨0, hpos, rfl, rfl, by assumption⟩
    case round =>
      obtain ⟨k, hk, rfl, rfl, hbel⟩ := hrel
      have hsz1 := hbel.size
      have hle := cntTo_le ct (ca, cb) k
      by_cases hlt : k + 1 < tl
      · have hnx : cntTo ct (ca, cb) (k + 1) = cntTo ct (ca, cb) k + (if cutAt ct (k + 1) = (ca, cb) then 1 else 0) := rfl
        have hcu := fun (W : World) (v : Value) (r : Rd (RS RI) W [v] ct) => HCU.out W v (k + 1) r (by omega) hlt
        obtain ⟨x, hx⟩ : ∃ x, x = canon (cutT ct (k + 1)) := ⟨_, rfl⟩
        obtain ⟨y, hy⟩ : ∃ y, y = canon (cutB ct (k + 1)) := ⟨_, rfl⟩
        have hxy : cutAt ct (k + 1) = (x, y) := by rw [hx, hy]; rfl
        rw [hxy] at hnx
        rw [← hx, ← hy] at hcu
        have HCU2 := Lib.hid hcu
        obtain ⟨n, hn⟩ : ∃ n, n = cntTo ct (ca, cb) k := ⟨_, rfl⟩
        rw [← hn] at hnx hle
        rw [← hn]
        obtain ⟨m, hm⟩ : ∃ m, m = k + 1 := ⟨_, rfl⟩
        rw [← hm] at hlt HCU2 hnx
        rw [← hm]
        have HM := Lib.hid hm
        clear hx hy hxy hcu hn hm
        by_cases e1 : x = ca
        · have d1 : decide (x = ca) = true := decide_eq_true e1
          have EQ1 : Hid (∀ W v1 v2, Rd (RS RI) W [v1] x → Rd (RS RI) W [v2] ca → Calls Try.prog 65 #[v1, v2] W (RetQ W (.bool true))) := Lib.hid (fun W v1 v2 r1 r2 => by have := c_slicesEqual v1 v2 x ca W r1 r2; rw [d1] at this; exact this)
          clear d1
          by_cases e2 : y = cb
          · have d2 : decide (y = cb) = true := decide_eq_true e2
            have EQ2 : Hid (∀ W v1 v2, Rd (RS RI) W [v1] y → Rd (RS RI) W [v2] cb → Calls Try.prog 65 #[v1, v2] W (RetQ W (.bool true))) := Lib.hid (fun W v1 v2 r1 r2 => by have := c_slicesEqual v1 v2 y cb W r1 r2; rw [d2] at this; exact this)
            have HN : Hid (cntTo ct (ca, cb) m = n + 1) := Lib.hid (by rw [hnx, e1, e2]; simp)
            clear d2 hnx e1 e2
            go_wp2_with fail
            refine (HCT.out _ _ (H0.out.below hbel (Nat.le_refl _))).mono ?_
            rintro e w1 ⟨u1, rfl, o1, b1⟩
            go_wp2_with fail
            refine (HCU2.out _ _ o1.rd).mono ?_
            rintro e w2 ⟨ua, ub, mid, rfl, ⟨q1, q2⟩, o2a, o2b, b2⟩
            have bb2 := hbel.trans ((b1.trans (b2.mono b1.size)).mono hsz1)
            go_wp2_with fail
            refine (HCA.out _ _ (H1.out.below bb2 (Nat.le_refl _))).mono ?_
            rintro e w3 ⟨u3, rfl, o3, b3⟩
            go_wp2_with fail
            refine (EQ1.out _ _ _ ((o2a.below b3 q2).rd) o3.rd).mono ?_
            rintro e w4 ⟨rfl, nd, rfl⟩
            have bb3 := (bb2.trans (b3.mono bb2.size)).trans (Below.drewN _ w3 nd)
            go_wp2_with fail
            refine (HCB.out _ _ (H2.out.below bb3 (Nat.le_refl _))).mono ?_
            rintro e w5 ⟨u5, rfl, o5, b5⟩
            go_wp2_with fail
            refine (EQ2.out _ _ _ (((o2b.below b3 (Nat.le_refl _)).of_heap (w' := w3.drewN nd) rfl |>.below b5 b3.size).rd) o5.rd).mono ?_
            rintro e w6 ⟨rfl, nd2, rfl⟩
            have bb5 := (bb3.trans (b5.mono bb3.size)).trans (Below.drewN _ w5 nd2)
            go_wp2_with fail
            go_roundw
            case rel => exact ⟨m, by omega, by go_num, by rw [HN.out]; go_num, bb5⟩
            case measure => simp [intOf]; omega
          · have d2 : decide (y = cb) = false := decide_eq_false e2
            have EQ2 : Hid (∀ W v1 v2, Rd (RS RI) W [v1] y → Rd (RS RI) W [v2] cb → Calls Try.prog 65 #[v1, v2] W (RetQ W (.bool false))) := Lib.hid (fun W v1 v2 r1 r2 => by have := c_slicesEqual v1 v2 y cb W r1 r2; rw [d2] at this; exact this)
            have HN : Hid (cntTo ct (ca, cb) m = n) := Lib.hid (by rw [hnx, if_neg (fun h => e2 (by cases h; rfl))]; rfl)
            clear d2 hnx e1 e2
            go_wp2_with fail
            refine (HCT.out _ _ (H0.out.below hbel (Nat.le_refl _))).mono ?_
            rintro e w1 ⟨u1, rfl, o1, b1⟩
            go_wp2_with fail
            refine (HCU2.out _ _ o1.rd).mono ?_
            rintro e w2 ⟨ua, ub, mid, rfl, ⟨q1, q2⟩, o2a, o2b, b2⟩
            have bb2 := hbel.trans ((b1.trans (b2.mono b1.size)).mono hsz1)
            go_wp2_with fail
            refine (HCA.out _ _ (H1.out.below bb2 (Nat.le_refl _))).mono ?_
            rintro e w3 ⟨u3, rfl, o3, b3⟩
            go_wp2_with fail
            refine (EQ1.out _ _ _ ((o2a.below b3 q2).rd) o3.rd).mono ?_
            rintro e w4 ⟨rfl, nd, rfl⟩
            have bb3 := (bb2.trans (b3.mono bb2.size)).trans (Below.drewN _ w3 nd)
            go_wp2_with fail
            refine (HCB.out _ _ (H2.out.below bb3 (Nat.le_refl _))).mono ?_
            rintro e w5 ⟨u5, rfl, o5, b5⟩
            go_wp2_with fail
            refine (EQ2.out _ _ _ (((o2b.below b3 (Nat.le_refl _)).of_heap (w' := w3.drewN nd) rfl |>.below b5 b3.size).rd) o5.rd).mono ?_
            rintro e w6 ⟨rfl, nd2, rfl⟩
            have bb5 := (bb3.trans (b5.mono bb3.size)).trans (Below.drewN _ w5 nd2)
            go_wp2_with fail
            go_roundw
            case rel => exact ⟨m, by omega, by go_num, by rw [HN.out], bb5⟩
            case measure => simp [intOf]; omega
        · have d1 : decide (x = ca) = false := decide_eq_false e1
          have EQ1 : Hid (∀ W v1 v2, Rd (RS RI) W [v1] x → Rd (RS RI) W [v2] ca → Calls Try.prog 65 #[v1, v2] W (RetQ W (.bool false))) := Lib.hid (fun W v1 v2 r1 r2 => by have := c_slicesEqual v1 v2 x ca W r1 r2; rw [d1] at this; exact this)
          have HN : Hid (cntTo ct (ca, cb) m = n) := Lib.hid (by rw [hnx, if_neg (fun h => e1 (by cases h; rfl))]; rfl)
          clear d1 hnx e1
          go_wp2_with fail
          refine (HCT.out _ _ (H0.out.below hbel (Nat.le_refl _))).mono ?_
          rintro e w1 ⟨u1, rfl, o1, b1⟩
          go_wp2_with fail
          refine (HCU2.out _ _ o1.rd).mono ?_
          rintro e w2 ⟨ua, ub, mid, rfl, ⟨q1, q2⟩, o2a, o2b, b2⟩
          have bb2 := hbel.trans ((b1.trans (b2.mono b1.size)).mono hsz1)
          go_wp2_with fail
          refine (HCA.out _ _ (H1.out.below bb2 (Nat.le_refl _))).mono ?_
          rintro e w3 ⟨u3, rfl, o3, b3⟩
          go_wp2_with fail
          refine (EQ1.out _ _ _ ((o2a.below b3 q2).rd) o3.rd).mono ?_
          rintro e w4 ⟨rfl, nd, rfl⟩
          have bb3 := (bb2.trans (b3.mono bb2.size)).trans (Below.drewN _ w3 nd)
          go_wp2_with fail
          go_roundw
          case rel => exact ⟨m, by omega, by go_num, by rw [HN.out], bb3⟩
          case measure => simp [intOf]; omega
      · have hkk : k = tl - 1 := by omega
        have HF : Hid (cntTo ct (ca, cb) k = cntTo t (ca, cb) (tl - 1)) := Lib.hid (by have := HCAN.out; rw [← HTL.out] at this; rw [hkk]; exact this)
        have HR : Hid (cctOf t a b = (((cntTo t (ca, cb) (tl - 1) : Nat) : Int), (0 : Int))) := Lib.hid (by rw [hr.out, HTL.out])
        clear hkk
        go_wp2_with fail
        go_ret2
        exact ⟨by rw [HR.out, ← HF.out]; rfl, hbel⟩

set_option maxRecDepth 100000 in
set_option maxHeartbeats 2000000 in
theorem k_spec_CountCutsTo (v0 v1 v2 : Value) (t a b : List Int) (w : World) (h0 : Rd (RS RI) w [v0] t) (h1 : Rd (RS RI) w [v1] a) (h2 : Rd (RS RI) w [v2] b) (z0 : t.length ≤ 1048576) (z1 : a.length ≤ 1048576) (z2 : b.length ≤ 1048576) :
    Calls Try.prog 28 #[v0, v1, v2] w (RetV w (.tuple #[.int .i64 (cctOf t a b).1, .int .i64 (cctOf t a b).2])) := by
  obtain ⟨oa0, c0, rfl, m1, m2⟩ := h0.val
  obtain ⟨oa1, c1, rfl, m3, m4⟩ := h1.val
  obtain ⟨oa2, c2, rfl, m5, m6⟩ := h2.val
  unfold maxLen at m2
  have L0 := fun nd => c_spec_l03Is _ t (w.drewN nd) (h0.of_heap rfl) (by omega)
  have L1 := fun nd => c_spec_l03Is _ a (w.drewN nd) (h1.of_heap rfl) (by omega)
  have L2 := fun nd => c_spec_l03Is _ b (w.drewN nd) (h2.of_heap rfl) (by omega)
  have L00 := L0 0
  have E0 : w.drewN 0 = w := rfl
  cases e0 : lev8 t
  · have hr := Lib.hid (cctOf_bad (t := t) (a := a) (b := b) (by rw [e0]; rfl))
    rw [e0, E0] at L00
    clear L0 L1 L2 E0
    go_enter Try.func28, Try.ntmps28
    go_wp2_with fail
    refine L00.mono ?_
    rintro e w1 ⟨rfl, n1, rfl⟩
    go_wp2_with fail
    go_ret2
    exact ⟨by rw [hr.out]; rfl, Below.drewN _ _ _⟩
  rw [e0, E0] at L00
  cases e1 : lev8 a
  · have hr := Lib.hid (cctOf_bad (t := t) (a := a) (b := b) (by rw [e0, e1]; rfl))
    rw [e1] at L1
    have HL1 := Lib.hid L1
    clear L0 L1 L2 E0
    go_enter Try.func28, Try.ntmps28
    go_wp2_with fail
    refine L00.mono ?_
    rintro e w1 ⟨rfl, n1, rfl⟩
    go_wp2_with fail
    refine (HL1.out _).mono ?_
    rintro e w1 ⟨rfl, n2, rfl⟩
    go_wp2_with fail
    go_ret2
    exact ⟨by rw [hr.out]; rfl, by first | exact Below.drewN _ _ _ | exact (Below.drewN _ _ _).trans (Below.drewN _ _ _) | exact ((Below.drewN _ _ _).trans (Below.drewN _ _ _)).trans (Below.drewN _ _ _)⟩
  rw [e1] at L1
  have HL1 := Lib.hid L1
  cases e2 : lev8 b
  · have hr := Lib.hid (cctOf_bad (t := t) (a := a) (b := b) (by rw [e0, e1, e2]; rfl))
    rw [e2] at L2
    have HL2 := Lib.hid L2
    clear L0 L1 L2 E0
    go_enter Try.func28, Try.ntmps28
    go_wp2_with fail
    refine L00.mono ?_
    rintro e w1 ⟨rfl, n1, rfl⟩
    go_wp2_with fail
    refine (HL1.out _).mono ?_
    rintro e w1 ⟨rfl, n2, rfl⟩
    go_wp2_with fail
    refine (HL2.out _).mono ?_
    rintro e w1 ⟨rfl, n3, rfl⟩
    go_wp2_with fail
    go_ret2
    exact ⟨by rw [hr.out]; rfl, by first | exact Below.drewN _ _ _ | exact (Below.drewN _ _ _).trans (Below.drewN _ _ _) | exact ((Below.drewN _ _ _).trans (Below.drewN _ _ _)).trans (Below.drewN _ _ _)⟩
  rw [e2] at L2
  have HL2 := Lib.hid L2
  clear L0 L1 L2 E0
  have hall : (lev8 t && lev8 a && lev8 b) = true := by rw [e0, e1, e2]; rfl
  · have hr := Lib.hid (cctOf_ok hall)
    clear e0 e1 e2
    simp only [Bool.and_eq_true] at hall
    obtain ⟨⟨p1, p2⟩, p3⟩ := hall
    have hl8 := lev8_len p1
    have HCA : Hid (∀ W v, Rd (RS RI) W [v] a → Calls Try.prog 54 #[v] W (RetO (RS RI) W (canon a))) := Lib.hid (fun W v r => c_spec_l03Canon 8 v a W r (lev8_lev p2) (by have := lev8_len p2; omega) (by have := lev8_len p2; omega))
    have HCB : Hid (∀ W v, Rd (RS RI) W [v] b → Calls Try.prog 54 #[v] W (RetO (RS RI) W (canon b))) := Lib.hid (fun W v r => c_spec_l03Canon 8 v b W r (lev8_lev p3) (by have := lev8_len p3; omega) (by have := lev8_len p3; omega))
    have HCU : Hid (∀ (W : World) (v : Value) (m : Nat), Rd (RS RI) W [v] t → 0 < m → m < t.length → Calls Try.prog 53 #[v, .int .i64 m] W (RetOO (RS RI) (RS RI) W (canon (cutT t m)) (canon (cutB t m)))) := Lib.hid (fun W v m r q1 q2 => c_spec_l04Cut v t m W r p1 q1 q2)
    obtain ⟨ca, hca⟩ : ∃ ca, ca = canon a := ⟨_, rfl⟩
    obtain ⟨cb, hcb⟩ : ∃ cb, cb = canon b := ⟨_, rfl⟩
    rw [← hca, ← hcb] at hr
    rw [← hca] at HCA
    rw [← hcb] at HCB
    have H1 := Lib.hid h1
    have H2 := Lib.hid h2
    have hpos := (lev8_lev p1).pos
    obtain ⟨tl, htl⟩ : ∃ tl, tl = t.length := ⟨_, rfl⟩
    rw [← htl] at m1 hl8 HCU hpos h0 L00
    have H0 := Lib.hid h0
    rw [← htl]
    have HTL := Lib.hid htl
    clear hca hcb h0 h1 h2 htl p1 p2 p3
    go_enter Try.func28, Try.ntmps28
    go_wp2_with fail
    refine L00.mono ?_
    rintro e w1 ⟨rfl, n1, rfl⟩
    go_wp2_with fail
    refine (HL1.out _).mono ?_
    rintro e w1 ⟨rfl, n2, rfl⟩
    go_wp2_with fail
    refine (HL2.out _).mono ?_
    rintro e w1 ⟨rfl, n3, rfl⟩
    go_wp2_with fail
    go_loopw [8, 9] (fun c i wr => ∃ (k : Nat), k + 1 ≤ tl ∧ i = .int .i64 (k + 1 : Nat) ∧ c = .int .i64 (cntTo t (ca, cb) k : Nat) ∧ Below w.heap.size w wr) (fun _ i _ => tl - (intOf i).toNat)
    case atStart => exact ⟨0, hpos, rfl, rfl, by first | exact Below.drewN _ _ _ | exact (Below.drewN _ _ _).trans (Below.drewN _ _ _) | exact ((Below.drewN _ _ _).trans (Below.drewN _ _ _)).trans (Below.drewN _ _ _)⟩
    case round =>
      obtain ⟨k, hk, rfl, rfl, hbel⟩ := hrel
      have hsz1 := hbel.size
      have hle := cntTo_le t (ca, cb) k
      by_cases hlt : k + 1 < tl
      · have hnx : cntTo t (ca, cb) (k + 1) = cntTo t (ca, cb) k + (if cutAt t (k + 1) = (ca, cb) then 1 else 0) := rfl
        have hcu := fun (W : World) (v : Value) (r : Rd (RS RI) W [v] t) => HCU.out W v (k + 1) r (by omega) hlt
        obtain ⟨x, hx⟩ : ∃ x, x = canon (cutT t (k + 1)) := ⟨_, rfl⟩
        obtain ⟨y, hy⟩ : ∃ y, y = canon (cutB t (k + 1)) := ⟨_, rfl⟩
        have hxy : cutAt t (k + 1) = (x, y) := by rw [hx, hy]; rfl
        rw [hxy] at hnx
        rw [← hx, ← hy] at hcu
        have HCU2 := Lib.hid hcu
        obtain ⟨n, hn⟩ : ∃ n, n = cntTo t (ca, cb) k := ⟨_, rfl⟩
        rw [← hn] at hnx hle
        rw [← hn]
        obtain ⟨m, hm⟩ : ∃ m, m = k + 1 := ⟨_, rfl⟩
        rw [← hm] at hlt HCU2 hnx
        rw [← hm]
        have HM := Lib.hid hm
        clear hx hy hxy hcu hn hm
        by_cases e1 : x = ca
        · have d1 : decide (x = ca) = true := decide_eq_true e1
          have EQ1 : Hid (∀ W v1 v2, Rd (RS RI) W [v1] x → Rd (RS RI) W [v2] ca → Calls Try.prog 63 #[v1, v2] W (RetQ W (.bool true))) := Lib.hid (fun W v1 v2 r1 r2 => by have := c_spec_l01Same v1 v2 x ca W r1 r2; rw [d1] at this; exact this)
          clear d1
          by_cases e2 : y = cb
          · have d2 : decide (y = cb) = true := decide_eq_true e2
            have EQ2 : Hid (∀ W v1 v2, Rd (RS RI) W [v1] y → Rd (RS RI) W [v2] cb → Calls Try.prog 63 #[v1, v2] W (RetQ W (.bool true))) := Lib.hid (fun W v1 v2 r1 r2 => by have := c_spec_l01Same v1 v2 y cb W r1 r2; rw [d2] at this; exact this)
            have HN : Hid (cntTo t (ca, cb) m = n + 1) := Lib.hid (by rw [hnx, e1, e2]; simp)
            clear d2 hnx e1 e2
            go_wp2_with fail
            refine (HCU2.out _ _ (H0.out.below hbel (Nat.le_refl _))).mono ?_
            rintro e w2 ⟨ua, ub, mid, rfl, ⟨q1, q2⟩, o2a, o2b, b2⟩
            have bb2 := hbel.trans (b2.mono hsz1)
            go_wp2_with fail
            refine (HCA.out _ _ (H1.out.below bb2 (Nat.le_refl _))).mono ?_
            rintro e w3 ⟨u3, rfl, o3, b3⟩
            go_wp2_with fail
            refine (EQ1.out _ _ _ ((o2a.below b3 q2).rd) o3.rd).mono ?_
            rintro e w4 ⟨rfl, nd, rfl⟩
            have bb3 := (bb2.trans (b3.mono bb2.size)).trans (Below.drewN _ w3 nd)
            go_wp2_with fail
            refine (HCB.out _ _ (H2.out.below bb3 (Nat.le_refl _))).mono ?_
            rintro e w5 ⟨u5, rfl, o5, b5⟩
            go_wp2_with fail
            refine (EQ2.out _ _ _ (((o2b.below b3 (Nat.le_refl _)).of_heap (w' := w3.drewN nd) rfl |>.below b5 b3.size).rd) o5.rd).mono ?_
            rintro e w6 ⟨rfl, nd2, rfl⟩
            have bb5 := (bb3.trans (b5.mono bb3.size)).trans (Below.drewN _ w5 nd2)
            go_wp2_with fail
            go_roundw
            case rel => exact ⟨m, by omega, by go_num, by rw [HN.out]; go_num, bb5⟩
            case measure => simp [intOf]; omega
          · have d2 : decide (y = cb) = false := decide_eq_false e2
            have EQ2 : Hid (∀ W v1 v2, Rd (RS RI) W [v1] y → Rd (RS RI) W [v2] cb → Calls Try.prog 63 #[v1, v2] W (RetQ W (.bool false))) := Lib.hid (fun W v1 v2 r1 r2 => by have := c_spec_l01Same v1 v2 y cb W r1 r2; rw [d2] at this; exact this)
            have HN : Hid (cntTo t (ca, cb) m = n) := Lib.hid (by rw [hnx, if_neg (fun h => e2 (by cases h; rfl))]; rfl)
            clear d2 hnx e1 e2
            go_wp2_with fail
            refine (HCU2.out _ _ (H0.out.below hbel (Nat.le_refl _))).mono ?_
            rintro e w2 ⟨ua, ub, mid, rfl, ⟨q1, q2⟩, o2a, o2b, b2⟩
            have bb2 := hbel.trans (b2.mono hsz1)
            go_wp2_with fail
            refine (HCA.out _ _ (H1.out.below bb2 (Nat.le_refl _))).mono ?_
            rintro e w3 ⟨u3, rfl, o3, b3⟩
            go_wp2_with fail
            refine (EQ1.out _ _ _ ((o2a.below b3 q2).rd) o3.rd).mono ?_
            rintro e w4 ⟨rfl, nd, rfl⟩
            have bb3 := (bb2.trans (b3.mono bb2.size)).trans (Below.drewN _ w3 nd)
            go_wp2_with fail
            refine (HCB.out _ _ (H2.out.below bb3 (Nat.le_refl _))).mono ?_
            rintro e w5 ⟨u5, rfl, o5, b5⟩
            go_wp2_with fail
            refine (EQ2.out _ _ _ (((o2b.below b3 (Nat.le_refl _)).of_heap (w' := w3.drewN nd) rfl |>.below b5 b3.size).rd) o5.rd).mono ?_
            rintro e w6 ⟨rfl, nd2, rfl⟩
            have bb5 := (bb3.trans (b5.mono bb3.size)).trans (Below.drewN _ w5 nd2)
            go_wp2_with fail
            go_roundw
            case rel => exact ⟨m, by omega, by go_num, by rw [HN.out], bb5⟩
            case measure => simp [intOf]; omega
        · have d1 : decide (x = ca) = false := decide_eq_false e1
          have EQ1 : Hid (∀ W v1 v2, Rd (RS RI) W [v1] x → Rd (RS RI) W [v2] ca → Calls Try.prog 63 #[v1, v2] W (RetQ W (.bool false))) := Lib.hid (fun W v1 v2 r1 r2 => by have := c_spec_l01Same v1 v2 x ca W r1 r2; rw [d1] at this; exact this)
          have HN : Hid (cntTo t (ca, cb) m = n) := Lib.hid (by rw [hnx, if_neg (fun h => e1 (by cases h; rfl))]; rfl)
          clear d1 hnx e1
          go_wp2_with fail
          refine (HCU2.out _ _ (H0.out.below hbel (Nat.le_refl _))).mono ?_
          rintro e w2 ⟨ua, ub, mid, rfl, ⟨q1, q2⟩, o2a, o2b, b2⟩
          have bb2 := hbel.trans (b2.mono hsz1)
          go_wp2_with fail
          refine (HCA.out _ _ (H1.out.below bb2 (Nat.le_refl _))).mono ?_
          rintro e w3 ⟨u3, rfl, o3, b3⟩
          go_wp2_with fail
          refine (EQ1.out _ _ _ ((o2a.below b3 q2).rd) o3.rd).mono ?_
          rintro e w4 ⟨rfl, nd, rfl⟩
          have bb3 := (bb2.trans (b3.mono bb2.size)).trans (Below.drewN _ w3 nd)
          go_wp2_with fail
          go_roundw
          case rel => exact ⟨m, by omega, by go_num, by rw [HN.out], bb3⟩
          case measure => simp [intOf]; omega
      · have hkk : k = tl - 1 := by omega
        have HF : Hid (cntTo t (ca, cb) k = cntTo t (ca, cb) (tl - 1)) := Lib.hid (by rw [hkk])
        have HR : Hid (cctOf t a b = (((cntTo t (ca, cb) (tl - 1) : Nat) : Int), (0 : Int))) := Lib.hid (by rw [hr.out, HTL.out])
        clear hkk
        go_wp2_with fail
        go_ret2
        exact ⟨by rw [HR.out, ← HF.out]; rfl, hbel⟩

end Go.Proofs.Ytmeijcgclllldaa
