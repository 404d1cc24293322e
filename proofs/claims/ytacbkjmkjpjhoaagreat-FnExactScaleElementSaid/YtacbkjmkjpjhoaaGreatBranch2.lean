/- The branches of a level list: both programs' ways to lay them. -/
import Derived.Test.YtacbkjmkjpjhoaaGreatBranch
import Derived.Deep.RegionLaw
import Derived.Deep.RegionHeld3
set_option linter.unusedSimpArgs false
set_option linter.unusedVariables false
namespace Go.Proofs.YtacbkjmkjpjhoaaGreat
open Go.RowKit

set_option maxRecDepth 100000 in
set_option maxHeartbeats 1000000 in
theorem c_spec_l03Parts (v : Value) (t : List Int) (w : World) (h : Rd (RS RI) w [v] t) (hl : LevP t) (hsz : t.length ≤ 1000000000) :
    Calls Tryz.prog 154 #[v] w (RetO (RS (RS RI)) w (brs t)) := by
  obtain ⟨oa, c1, I1⟩ := h.ints
  obtain rfl := I1.val
  have m1 := I1.le; have m2 := I1.capLe
  unfold maxLen at m2
  have hp := hl.pos
  obtain ⟨b, off, rfl, hb, hc⟩ := I1.get hp
  go_enter Tryz.func154, Tryz.ntmps154
  go_wp2_with fail
  go_loopw [3, 4] (fun o i wr => ∃ k : Nat, k + 1 ≤ t.length ∧ i = .int .i64 (k + 1) ∧ (∃ oa cap, o = .slice oa (brTo t k).length cap) ∧ Own (RS (RS RI)) w.heap.size wr.heap.size wr [o] (brTo t k) ∧ Below w.heap.size w wr) (fun _ i _ => t.length + 1 - (intOf i).toNat)
  case atStart => exact ⟨0, hp, rfl, ⟨_, _, rfl⟩, Own.empty (R := RS RI) (w := w) 48 w.heap.size (Nat.le_refl _) |>.top _ (by simp), (Below.refl _ _).alloc (Nat.le_refl _) _⟩
  case round =>
    obtain ⟨k, hk, rfl, ⟨oa, cap, rfl⟩, hown, hbel⟩ := hrel
    have hsz1 := hbel.size
    by_cases hlt : k + 1 < t.length
    · have g1 : wr.cell? ⟨b, off + (k + 1), none⟩ = some (.int .i64 t[k + 1]) := (hbel.cell (p := ⟨b, off + (k + 1), none⟩) hb).trans (hc (k + 1) hlt)
      have hbd := hl.bd (k + 1) hlt
      obtain ⟨q1, q2⟩ := hbd
      have hs1 := hl.succ hlt
      obtain ⟨q3, q4⟩ := hs1
      have hnl := brTo_len t k
      by_cases he : t[k + 1] = 1
      · have heb : (t[k + 1] == 1) = true := by simp [he]
        have hnext : brTo t (k + 1) = (brTo t k ++ [[]]).set (brTo t k).length (([] : List Int) ++ [t[k + 1] - 1]) := by
          rw [brTo_succ t k hlt, he, brStep_one]; simp
        have Hn := Lib.hid hnext
        clear hc he hnext
        have hownA := hown.below (w' := wr.alloc (.cells #[] 2)) ((Below.refl wr.heap.size wr).alloc (Nat.le_refl _) _) (Nat.le_refl _)
        have hnew := Own.empty (R := RI) (w := wr) 2 wr.heap.size (Nat.le_refl _)
        go_wp2_with (at_builtin; refine wpList_snoc (o := ⟨some 21, _, _, _, _, _⟩) (w := wr.alloc (.cells #[] 2)) rfl _ _ 50 rfl 48 (.slice none 0 0) 1 24 tI64S rfl _ (brTo t k) [] [.slice (some ⟨wr.heap.size, 0, none⟩) 0 0] w.heap.size wr.heap.size (wr.heap.size + 1) rfl hownA hnew (by simp) hsz1 48 rfl (by simp) (by omega) (by omega) ?_; intro oa1 cap1 w1 hown1 c1a c1b hbel1; refine Stop.out ?_)
        have hbel2 := hbel.trans ((((Below.refl w.heap.size wr).alloc hsz1 _).trans hbel1))
        have hsz2 := hbel2.size
        have g2 := (hbel2.cell (p := ⟨b, off + (k + 1), none⟩) hb).trans (I1.row.resolve_left (by intro e; rw [e] at hp; simp at hp) |> fun ⟨b', o', e, _, h⟩ => by cases e; exact h (k + 1) hlt)
        obtain ⟨g, cap2, h0, m, ds, og, hv, hg1, hg2, hcell, hr0, hm, hog, hK⟩ := Own.inner hown1 (brTo t k).length (by simp) ((brTo t k).length + 1) (by simp)
        simp only [Value.slice.injEq, true_and] at hv
        obtain ⟨rfl, rfl⟩ := hv
        have hm0 : m = 0 := by rw [hm]; simp
        subst hm0
        have HK := Lib.hid hK
        have hi1 : (0 : Int) ≤ (k : Int) + 1 := by omega
        have hi2 : (k : Int) + 1 < (t.length : Int) := by omega
        have hi3 : (0 : Int) ≤ ((brTo t k).length : Int) := by omega
        have hi4 : ((brTo t k).length : Int) < ((brTo t k).length : Int) + 1 := by omega
        have hi5 : ((k : Int) + 1).toNat = k + 1 := by omega
        clear hK hm g1 hbel1 hbel hownA hnew
        refine Stop.go ?_
        go_wp2_with fail
        have hwr : IntKind.i64.wrap (t[k + 1] - 1) = t[k + 1] - 1 := IntWalk.i64_in _ (by omega)
        go_region_law ((refine step_append1 (w := w1) (by rfl) _ _ 48 (by rfl) 2 (.int .i64 0) 1 8 tI64 h0 0 ds og (by rfl) hr0 2 [.int .i64 (t[k + 1] - 1)] (by rfl) (by simp) (by rfl) (by simp [Value.oneCell']) (by omega) (by unfold maxLen; omega) ⟨rfl, rfl, rfl, rfl⟩ ?_; intro h' w2 og' happ; obtain ⟨f1, f2, f3, f4⟩ := HK.out (t[k + 1] - 1) [.int .i64 (t[k + 1] - 1)] w1.heap.size w1.heap.size h' w2 og' (Own.int ⟨by omega, by omega⟩) (Nat.le_refl _) happ; obtain ⟨oa', cap', rfl, _⟩ := happ.1.val))
        all_goals
          have f5 := hbel2.trans (f4 hsz2)
          clear f4 happ hwr
          simp only [List.getElem_append_right (Nat.le_refl _), Nat.sub_self, List.getElem_singleton] at f3
          rw [← Hn.out] at f3
          simp only [Nat.zero_add] at f1 f2 f3 f5
          go_wp2_with fail
          go_roundw
          case rel => exact ⟨k + 1, by omega, by go_num, ⟨some ⟨g, 0, none⟩, cap1, by rw [Hn.out]; simp⟩, f3, f5⟩
          case measure => simp [intOf]; omega
      · have heb : (t[k + 1] == 1) = false := by simp [he]
        have hk0 : 0 < k := by
          rcases Nat.eq_zero_or_pos k with rfl | h
          · have h0 := hl.zero hp
            simp only [Nat.zero_add] at q3 q4 he
            omega
          · exact h
        have hpos : 0 < (brTo t k).length := by
          obtain ⟨k', rfl⟩ : ∃ k', k = k' + 1 := ⟨k - 1, by omega⟩
          exact brTo_pos hl k' (by omega)
        have hnext : brTo t (k + 1) = (brTo t k).set ((brTo t k).length - 1) ((brTo t k)[(brTo t k).length - 1] ++ [t[k + 1] - 1]) := by
          rw [brTo_succ t k hlt, brStep_more _ _ he hpos]
        have Hn := Lib.hid hnext
        have hidx : (brTo t k).length - 1 < (brTo t k).length := by omega
        have hea := brTo_each t k ((brTo t k).length - 1) hidx
        clear hc he hnext
        obtain ⟨g, cap2, h0, m, ds, og, hv, hg1, hg2, hcell, hr0, hm, hog, hK⟩ := Own.inner hown ((brTo t k).length - 1) hidx _ rfl
        obtain ⟨n, hn⟩ : ∃ n, (brTo t k).length = n + 1 := ⟨(brTo t k).length - 1, by omega⟩
        simp only [Value.slice.injEq, true_and] at hv
        obtain ⟨rfl, rfl⟩ := hv
        have HK := Lib.hid hK
        have Hnn := Lib.hid hn
        have hml : m ≤ k := by omega
        have en : (brTo t k).length - 1 = n := by omega
        rw [en] at hcell
        rw [hn]
        have Hen := Lib.hid en
        have hnb : n < 1000000000 := by omega
        have hi1 : (0 : Int) ≤ (k : Int) + 1 := by omega
        have hi2 : (k : Int) + 1 < (t.length : Int) := by omega
        have hi3 : (0 : Int) ≤ (n : Int) := by omega
        have hi4 : (n : Int) < (n : Int) + 1 := by omega
        have hi5 : ((k : Int) + 1).toNat = k + 1 := by omega
        clear hK hm hn en hea
        go_wp2_with fail
        have hwr : IntKind.i64.wrap (t[k + 1] - 1) = t[k + 1] - 1 := IntWalk.i64_in _ (by omega)
        go_region_law ((refine step_append1 (w := wr) (by rfl) _ _ 48 (by rfl) 2 (.int .i64 0) 1 8 tI64 h0 m ds og (by rfl) hr0 2 [.int .i64 (t[k + 1] - 1)] (by rfl) (by simp) (by rfl) (by simp [Value.oneCell']) (by omega) (by unfold maxLen; omega) ⟨rfl, rfl, rfl, rfl⟩ ?_; intro h' w2 og' happ; obtain ⟨f1, f2, f3, f4⟩ := HK.out (t[k + 1] - 1) [.int .i64 (t[k + 1] - 1)] wr.heap.size wr.heap.size h' w2 og' (Own.int ⟨by omega, by omega⟩) (Nat.le_refl _) happ; obtain ⟨oa', cap', rfl, _⟩ := happ.1.val; rw [Hen.out] at f1 f2))
        all_goals
          have f5 := hbel.trans (f4 hsz1)
          clear f4 happ hwr
          rw [← Hn.out] at f3
          rw [Hen.out] at f3 f5
          go_wp2_with fail
          go_roundw
          case rel => exact ⟨k + 1, by omega, by go_num, ⟨some ⟨g, 0, none⟩, cap, by rw [Hn.out]; simp [Hnn.out]⟩, by rw [← Hnn.out]; exact f3, f5⟩
          case measure => simp [intOf]; omega
    · have hfin : brTo t k = brs t := brTo_all t k (by omega)
      rw [hfin] at hown
      have Hfin := Lib.hid hfin
      clear hfin
      go_wp2_with fail
      go_ret
      exact ⟨_, rfl, by rw [Hfin.out]; exact hown, hbel⟩
end Go.Proofs.YtacbkjmkjpjhoaaGreat
