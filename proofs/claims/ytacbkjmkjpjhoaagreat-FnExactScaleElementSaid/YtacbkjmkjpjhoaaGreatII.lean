/- The laws' copies, comparisons, marks and sizes of lists of lists. -/
import Derived.Test.YtacbkjmkjpjhoaaGreatForest
import Derived.Test.YtacbkjmkjpjhoaaGreatMarks
set_option linter.unusedSimpArgs false
set_option linter.unusedVariables false
namespace Go.Proofs.YtacbkjmkjpjhoaaGreat
open Go.RowKit

theorem madeCells_nils (n : Nat) : (madeCells (Value.slice none 0 0).cells (n * 1)).toList = List.replicate n (Value.slice none 0 0) := by
  rw [Nat.mul_one]; show (madeCells #[Value.slice none 0 0] n).toList = _
  rw [toList_madeCells_one]

theorem ownL_nils {α : Type} {R : Rep α} {w : World} : ∀ n, ownL (RS R) w (List.replicate n (.slice none 0 0)) (List.replicate n []) []
  | 0 => ⟨rfl, rfl⟩
  | n + 1 => ⟨[.slice none 0 0], List.replicate n (.slice none 0 0), [], [], rfl, rfl, ⟨.slice none 0 0, none, [], [], rfl, Row.nil w R.k, ⟨rfl, rfl⟩, rfl⟩, ownL_nils n⟩

/-- An inner row of numbers is written: nothing else turns. -/
theorem Own.innerRow {w : World} {v : Value} {xss : List (List Int)} {lo hi : Nat} (h : Own (RS (RS RI)) lo hi w [v] xss) (i : Nat) (hi' : i < xss.length) :
    ∃ g cap h0 og, v = .slice (some ⟨g, 0, none⟩) xss.length cap ∧ xss.length ≤ cap ∧ cap ≤ 9223372036854775807 ∧ w.cell? ⟨g, i, none⟩ = some h0 ∧ Row w h0 1 xss[i].length (xss[i].map (Value.int .i64)) og ∧ (∀ x ∈ xss[i], In64 x) ∧
      ∀ (w' : World) (ys : List Int), w.grownBy w' og → ys.length = xss[i].length → (∀ x ∈ ys, In64 x) → Row w' h0 1 ys.length (ys.map (Value.int .i64)) og → Own (RS (RS RI)) lo hi w' [v] (xss.set i ys) ∧ Chg lo hi w w' := by
  obtain ⟨og0, ds0, F, hrow, hel, hF, hlt⟩ := h.open
  obtain ⟨g, rfl⟩ := hrow.some_of hi'
  obtain ⟨cap, hv, hc1, hc2⟩ := hrow.slice
  obtain ⟨d1, c0, d2, F1, G, F2, rfl, rfl, hd1, hL1, ⟨h0, og, ds, G', rfl, hr0, hel0, rfl⟩, hL2⟩ := hel.split i hi'
  have hd1' : d1.length = i := by rw [hd1]; show i * 1 = i; omega
  obtain ⟨k1, k2, k3⟩ := ownL_ints hel0
  subst k1; subst k2
  have hcell : w.cell? ⟨g, i, none⟩ = some h0 := hrow.cells i h0 (by rw [List.getElem?_append_right (by omega), hd1']; simp)
  refine ⟨g, cap, h0, og, hv, hc1, by unfold maxLen at hc2; omega, hcell, hr0, k3, fun w' ys hgr hyl hyb hr' => ?_⟩
  have hn := List.nodup_append.1 hF
  have hn1 := List.nodup_append.1 hn.2.1
  have hog : ∀ b, og = some b → b ∉ F1 ++ F2 ∧ b ≠ g := by
    intro b hb
    refine ⟨fun hm => ?_, fun e => ?_⟩
    · rcases List.mem_append.1 hm with hm | hm
      · exact hn1.2.2 b hm b (by simp [hb]) rfl
      · exact (List.nodup_append.1 hn1.2.1).2.2 b (by simp [hb]) b hm rfl
    · subst e
      exact hn.2.2 b (by simp) b (by simp [hb]) rfl
  have hfr : ∀ b, b ∈ F1 ++ F2 → w'.heap[b]? = w.heap[b]? := by
    intro b hb
    refine hgr.block b ?_ (fun e => (hog b e.symm).1 hb)
    rcases List.mem_append.1 hb with hb | hb
    · exact hL1.lt b hb
    · exact hL2.lt b hb
  have hgb : w'.heap[g]? = w.heap[g]? := hgr.block g (hrow.lt g rfl) (fun e => (hog g e.symm).2 rfl)
  have hin : (RS RI).own w' [h0] ys og.toList := hr'.ownI hyb
  have hjoin := ownL.join (R := RS RI) (x := ys) hi' (hL1.frame fun b hb => hfr b (by simp [hb])) hin (hL2.frame fun b hb => hfr b (by simp [hb]))
  refine ⟨Own.mk' (og := some g) (ds := d1 ++ ([h0] ++ d2)) (F := F1 ++ (og.toList ++ F2)) ?_ hjoin ?_ ?_, Chg.of_grown hgr (fun b hb => hlt b (by simp [hb]))⟩
  · rw [List.length_set]
    exact hrow.frame (fun g' hg' => by cases hg'; exact hgb)
  · simpa using hF
  · intro b hb
    exact hlt b (by simpa using hb)

def cnt_II (xss : List (List Int)) : Nat := sumLen xss
def mkd_II : List (List Int) → Int → List (List Int)
  | [], _ => []
  | x :: xs, k => marks x.length k :: mkd_II xs (k + x.length)

theorem mkd_II_len : ∀ (xss : List (List Int)) (k : Int), (mkd_II xss k).length = xss.length
  | [], _ => rfl
  | x :: xs, k => by simp [mkd_II, mkd_II_len xs]

theorem mkd_II_get : ∀ (xss : List (List Int)) (k : Int) (i : Nat) (h : i < xss.length), (mkd_II xss k)[i]'(by rw [mkd_II_len]; exact h) = marks xss[i].length (k + sumLen (xss.take i))
  | x :: xs, k, 0, h => by simp [mkd_II, sumLen]
  | x :: xs, k, i + 1, h => by
    simp only [mkd_II, List.getElem_cons_succ, List.take_succ_cons]
    rw [mkd_II_get xs (k + x.length) i (by simpa using h)]
    congr 1
    simp only [sumLen, List.map_cons, List.sum_cons]
    omega

def szII (xss : List (List Int)) : Prop := xss.length + sumLen xss ≤ 1048576
theorem cntb_II (xss : List (List Int)) (h : szII xss) : cnt_II xss ≤ 1048576 := by unfold szII at h; unfold cnt_II; omega

theorem sumLen_take_succ (bs : List (List Int)) (k : Nat) (h : k < bs.length) : sumLen (bs.take (k + 1)) = sumLen (bs.take k) + bs[k].length := by
  rw [List.take_succ_eq_append_getElem h, sumLen_append]; simp [sumLen]

set_option maxRecDepth 100000 in
set_option maxHeartbeats 1000000 in
theorem to_II (v : Value) (xs : List (List Int)) (w : World) (h : Rd (RS (RS RI)) w [v] xs) (hsz : szII xs) :
    Calls Tryz.prog 99 #[v] w (RetO (RS (RS RI)) w xs) := by
  obtain ⟨oa, cap, L⟩ := h.lists
  obtain rfl := L.val
  have m1 := L.le; have m2 := L.capLe
  have HL := Lib.hid L
  unfold szII at hsz
  clear L h
  go_enter Tryz.func99, Tryz.ntmps99
  go_wp2_with (at_make; refine wpList_makeRow rfl _ _ 50 rfl 48 (.slice none 0 0) 1 24 tI64S _ _ _ _ xs.length rfl rfl rfl rfl (by omega) (by unfold maxLen; omega) ?_; rintro v1 w1 hrow0 hgr0 rfl)
  rw [madeCells_nils] at hrow0
  have hb0 : Below w.heap.size w w1 := Below.of_grown hgr0 (Nat.le_refl _) (fun g hg => by cases hg)
  have HO : Hid (Own (RS (RS RI)) w.heap.size w1.heap.size w1 [.slice (some ⟨w.heap.size, 0, none⟩) xs.length xs.length] (List.replicate xs.length [])) := Lib.hid (Own.mk' (og := some w.heap.size) (F := []) (ds := List.replicate xs.length (.slice none 0 0)) (by rw [List.length_replicate]; exact hrow0) (ownL_nils xs.length) (by simp) (fun b hb => by have := hrow0.lt w.heap.size rfl; simp at hb; omega))
  clear hrow0 hgr0
  go_wp2_with fail
  go_loopw [4] (fun i wr => ∃ (k : Nat) (z : List (List Int)), k ≤ xs.length ∧ i = .int .i64 k ∧ Hid (z = xs.take k ++ List.replicate (xs.length - k) []) ∧ Hid (Own (RS (RS RI)) w.heap.size wr.heap.size wr [.slice (some ⟨w.heap.size, 0, none⟩) xs.length xs.length] z) ∧ Below w.heap.size w wr) (fun i _ => xs.length - (intOf i).toNat)
  case atStart => exact ⟨0, _, Nat.zero_le _, rfl, Lib.hid (by simp), HO, hb0⟩
  case round =>
    obtain ⟨k, z, hk, rfl, hz, hown, hbel⟩ := hrel
    have hsz1 := hbel.size
    clear HO
    by_cases hlt : k < xs.length
    · obtain ⟨b, off, rfl, hb, hc⟩ := HL.out.get hlt
      obtain ⟨oi, ci, g1, hrd, q1, q2⟩ := hc k hlt
      have g2 : wr.cell? ⟨b, off + k, none⟩ = some (.slice oi xs[k].length ci) := (hbel.cell (p := ⟨b, off + k, none⟩) hb).trans g1
      have hzl : z.length = xs.length := by rw [hz.out]; simp; omega
      obtain ⟨g, cap', a, hv, _, _, hg1, hg2, hg3, hcell, hel, hK⟩ := hown.out.setElem (R := RS RI) rfl k (by rw [hzl]; exact hlt)
      rw [hzl] at hv
      simp only [Value.slice.injEq, Option.some.injEq, Addr.mk.injEq, and_true, true_and] at hv
      obtain ⟨rfl, rfl⟩ := hv
      obtain ⟨oz, cz, rfl, _⟩ := hel.val
      have hkz : k < z.length := by omega
      obtain ⟨zl, hzl'⟩ : ∃ zl, zl = z[k].length := ⟨_, rfl⟩
      rw [← hzl'] at hcell hK
      have hset : z.set k xs[k] = xs.take (k + 1) ++ List.replicate (xs.length - (k + 1)) [] := by
        rw [hz.out, List.set_append_right _ _ (by simp; omega)]
        have e : k - (xs.take k).length = 0 := by simp; omega
        rw [e, show xs.length - k = (xs.length - (k + 1)) + 1 by omega, List.replicate_succ, List.set_cons_zero, List.take_succ_eq_append_getElem hlt, List.append_assoc, List.singleton_append]
      have hxl : xs[k].length ≤ 1048576 := by have := sumLen_mem (List.getElem_mem hlt); omega
      have HK := Lib.hid hK
      obtain ⟨x, hx⟩ : ∃ x, x = xs[k] := ⟨_, rfl⟩
      rw [← hx] at g2 q1 hrd hset hxl
      have HSET := Lib.hid hset
      have hto := to_I (.slice oi x.length ci) x wr (hrd.below hbel (Nat.le_refl _)) hxl
      clear hc g1 hrd hx hset hel hzl' hK
      go_wp2_with (go_at_call 149; refine hto.mono ?_; rintro e w2 ⟨u, rfl, o2, b2⟩; obtain ⟨ou, cu, rfl, lu1, lu2⟩ := o2.val; obtain ⟨f1, f2, f3, f4⟩ := HK.out w2 x (.slice ou x.length cu) wr.heap.size w2.heap.size o2 (Nat.le_refl _) b2.size b2; have HF := Lib.hid f3; have hb3 : Below w.heap.size w w2 := hbel.trans (b2.mono hsz1); have hb4 := hb3.setCell (p := ⟨w.heap.size, k, none⟩) (Nat.le_refl _) (.slice ou x.length cu); clear f3 f4 o2 hto)
      go_roundw
      case rel => exact ⟨k + 1, _, by omega, by go_num, HSET, Lib.hid (HF.out.top _ (by simp)), hb4⟩
      case measure => simp [intOf]; omega
    · have hfin : Hid (z = xs) := Lib.hid (by rw [hz.out, List.take_of_length_le (by omega), show xs.length - k = 0 by omega]; simp)
      go_wp2_with fail
      go_ret
      exact ⟨_, rfl, hfin.out ▸ hown.out, hbel⟩

set_option maxRecDepth 100000 in
set_option maxHeartbeats 1000000 in
theorem eqv_II (v1 v2 : Value) (xs : List (List Int)) (w : World) (h1 : Rd (RS (RS RI)) w [v1] xs) (h2 : Rd (RS (RS RI)) w [v2] xs) :
    Calls Tryz.prog 107 #[v1, v2] w (RetV w (.bool true)) := by
  obtain ⟨oa, cap, L1⟩ := h1.lists
  obtain ⟨ob, cap2, L2⟩ := h2.lists
  obtain rfl := L1.val
  obtain rfl := L2.val
  have m1 := L1.le; have m2 := L1.capLe; have m3 := L2.le; have m4 := L2.capLe
  have HL1 := Lib.hid L1
  have HL2 := Lib.hid L2
  have hne : ((xs.length : Int) != (xs.length : Int)) = false := by simp
  clear L1 L2 h1 h2
  go_enter Tryz.func107, Tryz.ntmps107
  go_wp2_with fail
  go_loopw [5] (fun i wr => ∃ k : Nat, k ≤ xs.length ∧ i = .int .i64 k ∧ ∃ n, wr = w.drewN n) (fun i _ => xs.length - (intOf i).toNat)
  case atStart => exact ⟨0, Nat.zero_le _, rfl, 0, rfl⟩
  case round =>
    obtain ⟨k, hk, rfl, n, rfl⟩ := hrel
    by_cases hlt : k < xs.length
    · obtain ⟨b1, f1, rfl, hb1, hc1⟩ := HL1.out.get hlt
      obtain ⟨b2, f2, rfl, hb2, hc2⟩ := HL2.out.get hlt
      obtain ⟨o1, c1, g1, r1, _, _⟩ := hc1 k hlt
      obtain ⟨o2, c2, g2, r2, _, _⟩ := hc2 k hlt
      have HEQ : Hid (∀ a, Calls Tryz.prog 153 #[.slice o1 xs[k].length c1, .slice o2 xs[k].length c2] (w.drewN (n + a)) (RetQ (w.drewN (n + a)) (.bool true))) := Lib.hid (fun a => (c_laws_eqInt64S _ _ _ _ (w.drewN (n + a)) (r1.of_heap rfl) (r2.of_heap rfl)).mono fun e w' h => by simpa using h)
      obtain ⟨xl, hxl⟩ : ∃ xl, xl = xs[k].length := ⟨_, rfl⟩
      rw [← hxl] at g1 g2 HEQ
      have i1 : (0 : Int) ≤ (k : Int) := by omega
      have i2 : (k : Int) < (xs.length : Int) := by omega
      clear hc1 hc2 r1 r2 hxl
      go_wp2_with fail
      go_quiet ((go_at_call 153; exact Calls.qQ' (HEQ.out _)))
      go_wp2_with fail
      go_roundw
      case rel => exact ⟨k + 1, by omega, by go_num, (by first | exact drewN1 _ _ | exact drewN2 _ _ _ | exact drewN3 _ _ _ _)⟩
      case measure => simp [intOf]; omega
    · go_wp2_with fail
      go_ret
      exact ⟨rfl, Below.drewN _ _ _⟩

set_option maxRecDepth 100000 in
set_option maxHeartbeats 1000000 in
theorem mark_II (v : Value) (xs : List (List Int)) (lo hi : Nat) (k0 : Int) (w : World) (h : Own (RS (RS RI)) lo hi w [v] xs) (hk0 : 0 ≤ k0) (hk : k0 + cnt_II xs ≤ 4611686018427387904) :
    Calls Tryz.prog 57 #[v, .int .i64 k0] w fun e w' => e = .returned (.int .i64 (k0 + (cnt_II xs : Nat))) ∧ Own (RS (RS RI)) lo hi w' [v] (mkd_II xs k0) ∧ Chg lo hi w w' := by
  obtain ⟨oa, cap, rfl, m1, m2⟩ := h.val
  have H0 := Lib.hid h
  unfold cnt_II at hk
  clear h
  go_enter Tryz.func57, Tryz.ntmps57
  go_wp2_with fail
  go_loopw [1, 5] (fun q i wr => ∃ (k : Nat) (z : List (List Int)), k ≤ xs.length ∧ i = .int .i64 k ∧ q = .int .i64 (k0 + (sumLen (xs.take k) : Nat)) ∧ Hid (z = (mkd_II xs k0).take k ++ xs.drop k) ∧ Hid (Own (RS (RS RI)) lo hi wr [.slice oa xs.length cap] z ∧ Chg lo hi w wr)) (fun _ i _ => xs.length - (intOf i).toNat)
  case atStart => exact ⟨0, xs, Nat.zero_le _, rfl, by simp [sumLen], Lib.hid (by simp), Lib.hid ⟨H0.out, Chg.refl _ _ _⟩⟩
  case round =>
    obtain ⟨k, z, hkl, rfl, rfl, hz, hown⟩ := hrel
    clear H0
    by_cases hlt : k < xs.length
    · have hml := mkd_II_len xs k0
      have hzl : z.length = xs.length := by rw [hz.out]; simp [hml]; omega
      obtain ⟨g, cap', u0, og, hv, _, _, hcell, hrow, hbd, hK⟩ := hown.out.1.innerRow k (by omega)
      rw [hzl] at hv
      simp only [Value.slice.injEq, true_and] at hv
      obtain ⟨rfl, rfl⟩ := hv
      have hzk : z[k]'(by omega) = xs[k] := by
        simp only [hz.out]
        rw [List.getElem_append_right (by simp [hml]; omega)]
        simp [List.getElem_drop, hml]
        congr 1; omega
      rw [hzk] at hrow hbd hK
      have hst := sumLen_take_succ xs k hlt
      have hle := sumLen_take xs (k + 1)
      have hset : z.set k (marks xs[k].length (k0 + (sumLen (xs.take k) : Nat))) = (mkd_II xs k0).take (k + 1) ++ xs.drop (k + 1) := by
        rw [hz.out, List.set_append_right _ _ (by simp [hml]; omega)]
        have e : k - ((mkd_II xs k0).take k).length = 0 := by simp [hml]; omega
        rw [e, List.drop_eq_getElem_cons hlt, List.set_cons_zero, List.take_succ_eq_append_getElem (by rw [hml]; exact hlt), mkd_II_get xs k0 k hlt]
        simp
      obtain ⟨n, hn⟩ : ∃ n, n = sumLen (xs.take k) := ⟨_, rfl⟩
      obtain ⟨x, hx⟩ : ∃ x, x = xs[k] := ⟨_, rfl⟩
      rw [← hn, ← hx] at hset hst
      rw [← hx] at hrow hbd hK
      rw [← hn]
      obtain ⟨ou, cu, rfl, _⟩ := hrow.val
      have hbd2 : k0 + (n : Int) + (x.length : Int) ≤ 4611686018427387904 := by omega
      have hmk := c_laws_markInt64S _ x.length x og (k0 + n) wr hrow (by omega) (by omega)
      have HK := Lib.hid hK
      have HSET := Lib.hid hset
      have HST := Lib.hid hst
      have i1 : (0 : Int) ≤ (k : Int) := by omega
      have i2 : (k : Int) < (xs.length : Int) := by omega
      clear hK hset hzk hzl hn hx hrow hbd hml hst
      go_wp2_with (go_at_call 108; refine hmk.mono ?_; rintro e w2 ⟨rfl, hr2, hg2⟩; obtain ⟨f1, f2⟩ := HK.out w2 (marks x.length (k0 + n)) hg2 (by simp [marks]) (marks_in64 _ _ (by omega) (by omega)) (by rw [marks_length]; exact hr2); have HF := Lib.hid (And.intro f1 (hown.out.2.trans f2)); clear f1 f2 hr2 hg2)
      go_roundw
      case rel => exact ⟨k + 1, _, by omega, by go_num, by rw [HST.out]; congr 1; omega, HSET, HF⟩
      case measure => simp [intOf]; omega
    · have hfin : Hid (z = mkd_II xs k0) := Lib.hid (by rw [hz.out, List.take_of_length_le (by rw [mkd_II_len]; omega), List.drop_of_length_le (by omega), List.append_nil])
      have hf2 : xs.take k = xs := List.take_of_length_le (by omega)
      rw [hf2]
      go_wp2_with fail
      go_ret
      exact ⟨rfl, hfin.out ▸ hown.out.1, hown.out.2⟩

set_option maxRecDepth 100000 in
set_option maxHeartbeats 1000000 in
theorem held_II (v : Value) (xs : List (List Int)) (k0 : Int) (w : World) (h : Rd (RS (RS RI)) w [v] (mkd_II xs k0)) (hk0 : 0 ≤ k0) (hk : k0 + cnt_II xs ≤ 4611686018427387904) :
    Calls Tryz.prog 58 #[v, .int .i64 k0] w (RetS w (.int .i64 (k0 + (cnt_II xs : Nat)))) := by
  obtain ⟨oa, cap, L⟩ := h.lists
  have hml := mkd_II_len xs k0
  obtain rfl := L.val
  have m1 := L.le; have m2 := L.capLe
  have HL := Lib.hid L
  unfold cnt_II at hk
  unfold cnt_II
  obtain ⟨N, hN⟩ : ∃ N, N = (mkd_II xs k0).length := ⟨_, rfl⟩
  have hNx : N = xs.length := by rw [hN, hml]
  rw [← hN] at m1
  rw [← hN]
  have HNN := Lib.hid hN
  have HNX := Lib.hid hNx
  have hle0 := sumLen_take xs
  clear L h hml hN hNx
  go_enter Tryz.func58, Tryz.ntmps58
  go_wp2_with fail
  go_loopw [1, 5] (fun q i wr => ∃ (k : Nat), k ≤ N ∧ i = .int .i64 k ∧ q = .int .i64 (k0 + (sumLen (xs.take k) : Nat)) ∧ wr = w) (fun _ i _ => N - (intOf i).toNat)
  case atStart => exact ⟨0, Nat.zero_le _, rfl, by simp [sumLen], rfl⟩
  case round =>
    obtain ⟨k, hkl, rfl, rfl, rfl⟩ := hrel
    by_cases hlt : k < N
    · have hltm : k < (mkd_II xs k0).length := by rw [← HNN.out]; exact hlt
      have hltx : k < xs.length := by rw [← HNX.out]; exact hlt
      obtain ⟨b, off, rfl, hb, hc⟩ := HL.out.get hltm
      obtain ⟨oi, ci, g1, hrd, q1, q2⟩ := hc k hltm
      have hgt := mkd_II_get xs k0 k hltx
      rw [hgt] at g1 hrd q1
      rw [marks_length] at g1 hrd q1
      have hst := sumLen_take_succ xs k hltx
      have hle := sumLen_take xs (k + 1)
      obtain ⟨n, hn⟩ : ∃ n, n = sumLen (xs.take k) := ⟨_, rfl⟩
      obtain ⟨xl, hxl⟩ : ∃ xl, xl = xs[k].length := ⟨_, rfl⟩
      rw [← hn, ← hxl] at hst
      rw [← hxl] at g1 hrd q1
      rw [← hn] at hrd
      rw [← hn]
      have hh := c_laws_heldInt64S _ xl (k0 + n) wr hrd (by omega) (by omega)
      have HST := Lib.hid hst
      have i1 : (0 : Int) ≤ (k : Int) := by omega
      have i2 : (k : Int) < (N : Int) := by omega
      have i3 : ¬ (k0 + (n : Int) + (xl : Int) < 0) := by omega
      clear hc hrd hgt hn hxl hst
      go_wp2_with (go_at_call 109; refine hh.mono ?_; rintro e w2 ⟨rfl, rfl⟩)
      go_roundw
      case rel => exact ⟨k + 1, by omega, by go_num, by rw [HST.out]; congr 1; omega, (by first | rfl | trivial)⟩
      case measure => simp [intOf]; omega
    · have hf2 : xs.take k = xs := List.take_of_length_le (by rw [← HNX.out]; omega)
      rw [hf2]
      go_wp2_with fail
      go_ret
      exact ⟨rfl, rfl⟩

set_option maxRecDepth 100000 in
set_option maxHeartbeats 1000000 in
theorem c_laws_szInt64S (v : Value) (x : List Int) (left r : Int) (w : World) (h : Rd (RS RI) w [v] x) (h0 : 0 ≤ left) (h1 : left ≤ 1048576) (hr : (left - x.length < 0 ∧ r = -1) ∨ (0 ≤ left - x.length ∧ r = left - x.length)) :
    Calls Tryz.prog 145 #[v, .int .i64 left] w (RetS w (.int .i64 r)) := by
  obtain ⟨oa, c1, rfl, m1, m2⟩ := h.val
  unfold maxLen at m2
  rcases hr with ⟨hlt, rfl⟩ | ⟨hlt, rfl⟩
  · go_enter Tryz.func145, Tryz.ntmps145
    go_wp2_with fail
    go_ret
    exact ⟨rfl, rfl⟩
  · have hlt' : ¬ left - (x.length : Int) < 0 := by omega
    go_enter Tryz.func145, Tryz.ntmps145
    go_wp2_with fail
    go_ret
    exact ⟨rfl, rfl⟩

set_option maxRecDepth 100000 in
set_option maxHeartbeats 1000000 in
theorem sz_II (v : Value) (xs : List (List Int)) (left : Int) (w : World) (h : Rd (RS (RS RI)) w [v] xs) (h0 : 0 ≤ left) (h1 : left ≤ 1048576) :
    Calls Tryz.prog 95 #[v, .int .i64 left] w fun e w' => ∃ r, e = .returned (.int .i64 r) ∧ ((r < 0 ∧ True) ∨ (0 ≤ r ∧ r ≤ 1048576 ∧ szII xs)) ∧ Below w.heap.size w w' := by
  obtain ⟨oa, cap, L⟩ := h.lists
  obtain rfl := L.val
  have m1 := L.le; have m2 := L.capLe
  have HL := Lib.hid L
  clear L h
  by_cases hneg : left - (xs.length : Int) < 0
  · go_enter Tryz.func95, Tryz.ntmps95
    go_wp2_with fail
    go_ret
    exact ⟨_, rfl, .inl ⟨by decide, trivial⟩, Below.refl _ _⟩
  · have hnn : ¬ left - (xs.length : Int) < 0 := hneg
    go_enter Tryz.func95, Tryz.ntmps95
    go_wp2_with fail
    go_loopw [1, 5] (fun q i wr => ∃ (k : Nat), k ≤ xs.length ∧ i = .int .i64 k ∧ q = .int .i64 (left - xs.length - (sumLen (xs.take k) : Nat)) ∧ 0 ≤ left - xs.length - (sumLen (xs.take k) : Nat) ∧ wr = w) (fun _ i _ => xs.length - (intOf i).toNat)
    case atStart => exact ⟨0, Nat.zero_le _, rfl, by simp [sumLen], by simp [sumLen]; omega, rfl⟩
    case round =>
      obtain ⟨k, hkl, rfl, rfl, hpos, rfl⟩ := hrel
      by_cases hlt : k < xs.length
      · obtain ⟨b, off, rfl, hb, hc⟩ := HL.out.get hlt
        obtain ⟨oi, ci, g1, hrd, q1, q2⟩ := hc k hlt
        have hst := sumLen_take_succ xs k hlt
        obtain ⟨n, hn⟩ : ∃ n, n = sumLen (xs.take k) := ⟨_, rfl⟩
        rw [← hn] at hst hpos
        rw [← hn]
        obtain ⟨q, hq⟩ : ∃ q : Int, q = left - xs.length - (n : Nat) := ⟨_, rfl⟩
        rw [← hq] at hpos
        rw [← hq]
        obtain ⟨xl, hxl⟩ : ∃ xl, xl = xs[k].length := ⟨_, rfl⟩
        rw [← hxl] at g1 q1 hst
        have HST := Lib.hid hst
        have HQ := Lib.hid hq
        have i1 : (0 : Int) ≤ (k : Int) := by omega
        have i2 : (k : Int) < (xs.length : Int) := by omega
        by_cases hng : q - (xl : Int) < 0
        · have hh := c_laws_szInt64S _ xs[k] q (-1) wr hrd hpos (by omega) (.inl ⟨by rw [← hxl]; exact hng, rfl⟩)
          rw [← hxl] at hh
          clear hc hrd hst hn hxl hq hng
          go_wp2_with (go_at_call 145; refine hh.mono ?_; rintro e w2 ⟨rfl, rfl⟩)
          go_ret
          exact ⟨_, rfl, .inl ⟨by decide, trivial⟩, Below.refl _ _⟩
        · have hh := c_laws_szInt64S _ xs[k] q (q - xl) wr hrd hpos (by omega) (.inr ⟨by rw [← hxl]; omega, by rw [← hxl]⟩)
          rw [← hxl] at hh
          clear hc hrd hst hn hxl hq
          go_wp2_with (go_at_call 145; refine hh.mono ?_; rintro e w2 ⟨rfl, rfl⟩)
          go_roundw
          case rel => exact ⟨k + 1, by omega, by go_num, by rw [HST.out]; have := HQ.out; congr 1; omega, by rw [HST.out]; have := HQ.out; omega, (by first | rfl | trivial)⟩
          case measure => simp [intOf]; omega
      · have hf2 : xs.take k = xs := List.take_of_length_le (by omega)
        rw [hf2] at hpos
        rw [hf2]
        obtain ⟨q, hq⟩ : ∃ q : Int, q = left - xs.length - (sumLen xs : Nat) := ⟨_, rfl⟩
        rw [← hq] at hpos
        rw [← hq]
        have HZ : Hid (szII xs) := Lib.hid (by unfold szII; omega)
        have HB : Hid (q ≤ 1048576) := Lib.hid (by omega)
        clear hq hf2
        go_wp2_with fail
        go_ret
        exact ⟨_, rfl, .inr ⟨hpos, HB.out, HZ.out⟩, Below.refl _ _⟩
end Go.Proofs.YtacbkjmkjpjhoaaGreat
