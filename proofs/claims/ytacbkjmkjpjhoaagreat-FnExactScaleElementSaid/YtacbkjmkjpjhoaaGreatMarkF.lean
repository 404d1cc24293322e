/- Marks of lists of lists, by footprints. -/
import Derived.Test.YtacbkjmkjpjhoaaGreatLens
set_option linter.unusedSimpArgs false
set_option linter.unusedVariables false
namespace Go.Proofs.YtacbkjmkjpjhoaaGreat
open Go.RowKit

/-- An inner row of numbers is written: nothing else turns. -/
theorem OwnF.innerRow {w : World} {v : Value} {xss : List (List Int)} {F : List Nat} (h : OwnF (RS (RS RI)) F w [v] xss) (i : Nat) (hi : i < xss.length) :
    ∃ g cap h0 og, v = .slice (some ⟨g, 0, none⟩) xss.length cap ∧ xss.length ≤ cap ∧ cap ≤ 9223372036854775807 ∧ w.cell? ⟨g, i, none⟩ = some h0 ∧ Row w h0 1 xss[i].length (xss[i].map (Value.int .i64)) og ∧
      ∀ (w' : World) (ys : List Int), w.grownBy w' og → ys.length = xss[i].length → (∀ x ∈ ys, In64 x) → Row w' h0 1 ys.length (ys.map (Value.int .i64)) og → OwnF (RS (RS RI)) F w' [v] (xss.set i ys) ∧ ChgF F w w' := by
  have hlt := h.lt
  have hnd := h.2
  obtain ⟨g, cap, d1, c, d2, F1, G, F2, hv, hc1, hc2, rfl, hcl, hd1, hx, hrow, hK⟩ := h.lens i hi
  obtain ⟨h0, og, ds, G', rfl, hr0, hel0, rfl⟩ := hx
  obtain ⟨k1, k2, k3⟩ := ownL_ints hel0
  subst k1; subst k2
  have hd1' : d1.length = i := by rw [hd1]; show i * 1 = i; omega
  have hcell : w.cell? ⟨g, i, none⟩ = some h0 := hrow.cells i h0 (by rw [List.getElem?_append_right (by omega), hd1']; simp)
  refine ⟨g, cap, h0, og, hv, hc1, hc2, hcell, hr0, fun w' ys hgr hyl hyb hr' => ?_⟩
  simp only [List.append_nil] at *
  have hn1 := List.nodup_cons.1 hnd
  have hog : ∀ b, og = some b → b ≠ g ∧ b ∉ F1 ++ F2 := by
    intro b hb
    subst hb
    refine ⟨fun e => hn1.1 (by simp [← e]), fun hm => ?_⟩
    have h2 := List.nodup_append.1 hn1.2
    rcases List.mem_append.1 hm with hm | hm
    · exact h2.2.2 b hm b (by simp) rfl
    · exact (List.nodup_append.1 h2.2.1).2.2 b (by simp) b hm rfl
  have hgb : w'.heap[g]? = w.heap[g]? := hgr.block g (hlt g (by simp)) (fun e => (hog g e.symm).1 rfl)
  have hrow1 : Row w' v 1 xss.length (d1 ++ ([h0] ++ d2)) (some g) := hrow.frame (fun g' hg' => by cases hg'; exact hgb)
  have hfr : ∀ b, b ∈ F1 ++ F2 → w'.heap[b]? = w.heap[b]? := by
    intro b hm
    refine hgr.block b (hlt b ?_) (fun e => (hog b e.symm).2 hm)
    rcases List.mem_append.1 hm with hm | hm
    · simp [hm]
    · simp [hm]
  exact ⟨hK _ [h0] ys og.toList rfl (hr'.ownI hyb) hfr hrow1 hnd, (ChgF.of_grown hgr).mono (fun b hb => by simp [Option.mem_toList.1 hb])⟩

set_option maxRecDepth 100000 in
set_option maxHeartbeats 1000000 in
theorem markF_II (v : Value) (xs : List (List Int)) (F : List Nat) (k0 : Int) (w : World) (h : OwnF (RS (RS RI)) F w [v] xs) (hk0 : 0 ≤ k0) (hk : k0 + cnt_II xs ≤ 4611686018427387904) :
    Calls Tryz.prog 57 #[v, .int .i64 k0] w fun e w' => e = .returned (.int .i64 (k0 + (cnt_II xs : Nat))) ∧ OwnF (RS (RS RI)) F w' [v] (mkd_II xs k0) ∧ ChgF F w w' := by
  obtain ⟨oa, cap, rfl, m1, m2⟩ := h.rd.val
  unfold maxLen at m2
  have H0 := Lib.hid h
  unfold cnt_II at hk
  clear h
  go_enter Tryz.func57, Tryz.ntmps57
  go_wp2_with fail
  go_loopw [1, 5] (fun q i wr => ∃ (k : Nat) (z : List (List Int)), k ≤ xs.length ∧ i = .int .i64 k ∧ q = .int .i64 (k0 + (sumLen (xs.take k) : Nat)) ∧ Hid (z = (mkd_II xs k0).take k ++ xs.drop k) ∧ Hid (OwnF (RS (RS RI)) F wr [.slice oa xs.length cap] z ∧ ChgF F w wr)) (fun _ i _ => xs.length - (intOf i).toNat)
  case atStart => exact ⟨0, xs, Nat.zero_le _, rfl, by simp [sumLen], Lib.hid (by simp), Lib.hid ⟨H0.out, ChgF.refl _ _⟩⟩
  case round =>
    obtain ⟨k, z, hkl, rfl, rfl, hz, hown⟩ := hrel
    clear H0
    by_cases hlt : k < xs.length
    · have hml := mkd_II_len xs k0
      have hzl : z.length = xs.length := by rw [hz.out]; simp [hml]; omega
      obtain ⟨g, cap', u0, og, hv, _, _, hcell, hrow, hK⟩ := hown.out.1.innerRow k (by omega)
      rw [hzl] at hv
      simp only [Value.slice.injEq, true_and] at hv
      obtain ⟨rfl, rfl⟩ := hv
      have hzk : z[k]'(by omega) = xs[k] := by
        simp only [hz.out]
        rw [List.getElem_append_right (by simp [hml]; omega)]
        simp [List.getElem_drop, hml]
        congr 1; omega
      rw [hzk] at hrow hK
      have hst := sumLen_take_succ xs k hlt
      have hle := sumLen_take xs (k + 1)
      have hset : z.set k (marks xs[k].length (k0 + (sumLen (xs.take k) : Nat))) = (mkd_II xs k0).take (k + 1) ++ xs.drop (k + 1) := by
        rw [hz.out, List.set_append_right _ _ (by simp [hml]; omega)]
        have e : k - ((mkd_II xs k0).take k).length = 0 := by simp [hml]; omega
        rw [e, List.drop_eq_getElem_cons hlt, List.set_cons_zero, List.take_succ_eq_append_getElem (by rw [hml]; exact hlt), mkd_II_get xs k0 k hlt]
        simp
      obtain ⟨n, hn⟩ : ∃ n, n = sumLen (xs.take k) := ⟨_, rfl⟩
      obtain ⟨x, hx⟩ : ∃ x, x = xs[k] := ⟨_, rfl⟩
      rw [← hn, ← hx] at hset hst
      rw [← hx] at hrow hK
      rw [← hn]
      obtain ⟨ou, cu, rfl, _⟩ := hrow.val
      have hbd2 : k0 + (n : Int) + (x.length : Int) ≤ 4611686018427387904 := by omega
      have hmk := c_laws_markInt64S _ x.length x og (k0 + n) wr hrow (by omega) (by omega)
      have HK := Lib.hid hK
      have HSET := Lib.hid hset
      have HST := Lib.hid hst
      have i1 : (0 : Int) ≤ (k : Int) := by omega
      have i2 : (k : Int) < (xs.length : Int) := by omega
      clear hK hset hzk hzl hn hx hrow hml hst
      go_wp2_with (go_at_call 108; refine hmk.mono ?_; rintro e w2 ⟨rfl, hr2, hg2⟩; obtain ⟨f1, f2⟩ := HK.out w2 (marks x.length (k0 + n)) hg2 (by simp [marks]) (marks_in64 _ _ (by omega) (by omega)) (by rw [marks_length]; exact hr2); have HF := Lib.hid (And.intro f1 (hown.out.2.trans f2)); clear f1 f2 hr2 hg2)
      go_roundw
      case rel => exact ⟨k + 1, _, by omega, by go_num, by rw [HST.out]; congr 1; omega, HSET, HF⟩
      case measure => simp [intOf]; omega
    · have hfin : Hid (z = mkd_II xs k0) := Lib.hid (by rw [hz.out, List.take_of_length_le (by rw [mkd_II_len]; omega), List.drop_of_length_le (by omega), List.append_nil])
      have hf2 : xs.take k = xs := List.take_of_length_le (by omega)
      rw [hf2]
      go_wp2_with fail
      go_ret
      exact ⟨rfl, hfin.out ▸ hown.out.1, hown.out.2⟩
end Go.Proofs.YtacbkjmkjpjhoaaGreat
