/- The branches of a level list: both programs' ways to lay them. -/
import Derived.Test.YtacbkjmkjpjhoaaGreatLev
import Derived.Test.YtacbkjmkjpjhoaaGreatBase
import Derived.Deep.RegionHeld3
set_option linter.unusedSimpArgs false
set_option linter.unusedVariables false
namespace Go.Proofs.YtacbkjmkjpjhoaaGreat
open Go.RowKit

/-- A level more: a new branch where it is 1, then one node more in the last branch. -/
def brStep (acc : List (List Int)) (l : Int) : List (List Int) :=
  (if l = 1 then acc ++ [[]] else acc).set ((if l = 1 then acc ++ [[]] else acc).length - 1) ((if l = 1 then acc ++ [[]] else acc).getD ((if l = 1 then acc ++ [[]] else acc).length - 1) [] ++ [l - 1])

/-- The branches at the children of the root, in the order of the list. -/
def brTo (t : List Int) (k : Nat) : List (List Int) := ((t.drop 1).take k).foldl brStep []
def brs (t : List Int) : List (List Int) := (t.drop 1).foldl brStep []

theorem brTo_succ (t : List Int) (k : Nat) (h : k + 1 < t.length) : brTo t (k + 1) = brStep (brTo t k) t[k + 1] := by
  unfold brTo
  rw [List.take_succ_eq_append_getElem (by simp; omega), List.foldl_append]
  simp [List.foldl]

theorem brTo_all (t : List Int) (k : Nat) (h : t.length ≤ k + 1) : brTo t k = brs t := by
  unfold brTo brs
  rw [List.take_of_length_le (by simp; omega)]

theorem brStep_one (acc : List (List Int)) : brStep acc 1 = acc ++ [[0]] := by
  unfold brStep
  rw [if_pos rfl]
  simp

theorem brStep_more (acc : List (List Int)) (l : Int) (h : l ≠ 1) (hp : 0 < acc.length) : brStep acc l = acc.set (acc.length - 1) (acc[acc.length - 1] ++ [l - 1]) := by
  unfold brStep
  rw [if_neg h]
  have e : acc.getD (acc.length - 1) [] = acc[acc.length - 1] := by
    rw [List.getD_eq_getElem?_getD, List.getElem?_eq_getElem (by omega)]; rfl
  rw [e]

theorem brStep_len (acc : List (List Int)) (l : Int) : (brStep acc l).length ≤ acc.length + 1 := by
  unfold brStep
  split <;> simp

theorem brTo_len (t : List Int) : ∀ k, (brTo t k).length ≤ k
  | 0 => by simp [brTo]
  | k + 1 => by
    by_cases h : k + 1 < t.length
    · rw [brTo_succ t k h]
      have := brStep_len (brTo t k) t[k + 1]
      have := brTo_len t k
      omega
    · have : brTo t (k + 1) = brTo t k := by
        unfold brTo
        rw [List.take_of_length_le (by simp; omega), List.take_of_length_le (by simp; omega)]
      rw [this]
      have := brTo_len t k
      omega

theorem brTo_pos {t : List Int} (h : LevP t) : ∀ k, k + 1 < t.length → 0 < (brTo t (k + 1)).length
  | 0, hk => by
    rw [brTo_succ t 0 hk]
    have h1 := h.succ hk
    have h0 := h.zero h.pos
    have e : t[0 + 1] = 1 := by simp at h1 ⊢; omega
    rw [e, brStep_one]; simp
  | k + 1, hk => by
    have ih := brTo_pos h k (by omega)
    rw [brTo_succ t (k + 1) hk]
    by_cases e : t[k + 1 + 1] = 1
    · rw [e, brStep_one]; simp
    · rw [brStep_more _ _ e ih]; simpa using ih

/-- Every branch laid so far has at most k nodes. -/
theorem brTo_each (t : List Int) : ∀ k i (hi : i < (brTo t k).length), ((brTo t k)[i]).length ≤ k
  | 0, i, hi => by simp [brTo] at hi
  | k + 1, i, hi => by
    by_cases h : k + 1 < t.length
    · have key : ∀ x ∈ brTo t (k + 1), x.length ≤ k + 1 := by
        have old : ∀ x ∈ brTo t k, x.length ≤ k := by
          intro x hx
          obtain ⟨j, hj, rfl⟩ := List.getElem_of_mem hx
          exact brTo_each t k j hj
        rw [brTo_succ t k h]
        by_cases e : t[k + 1] = 1
        · rw [e, brStep_one]
          intro x hx
          rcases List.mem_append.1 hx with hx | hx
          · have := old x hx; omega
          · simp at hx; subst hx; simp
        · by_cases hp : 0 < (brTo t k).length
          · rw [brStep_more _ _ e hp]
            intro x hx
            rcases List.mem_or_eq_of_mem_set hx with hx | rfl
            · have := old x hx; omega
            · have := old _ (List.getElem_mem (show (brTo t k).length - 1 < (brTo t k).length by omega))
              simp; omega
          · have e0 : brTo t k = [] := List.eq_nil_of_length_eq_zero (by omega)
            rw [e0]
            intro x hx
            unfold brStep at hx
            rw [if_neg e] at hx
            simp at hx
      exact key _ (List.getElem_mem hi)
    · have e : brTo t (k + 1) = brTo t k := by
        unfold brTo
        rw [List.take_of_length_le (by simp; omega), List.take_of_length_le (by simp; omega)]
      have := brTo_each t k i (by rw [← e]; exact hi)
      simp only [e]; omega

set_option maxRecDepth 100000 in
set_option maxHeartbeats 1000000 in
theorem c_impl_branchesOf (v : Value) (t : List Int) (w : World) (h : Rd (RS RI) w [v] t) (hl : LevP t) (hsz : t.length ≤ 1000000000) :
    Calls Tryz.prog 92 #[v] w (RetO (RS (RS RI)) w (brs t)) := by
  obtain ⟨oa, c1, I1⟩ := h.ints
  obtain rfl := I1.val
  have m1 := I1.le; have m2 := I1.capLe
  unfold maxLen at m2
  have hp := hl.pos
  obtain ⟨b, off, rfl, hb, hc⟩ := I1.get hp
  obtain ⟨ao, hao, haoc⟩ : ∃ ao, (if c1 = 1 then some (⟨b, off, none⟩ : Addr) else some ⟨b, off + 1, none⟩) = ao ∧ ∀ j, j + 1 < t.length → ao = some ⟨b, off + 1, none⟩ := by
    refine ⟨_, rfl, fun j hj => ?_⟩
    rw [if_neg (by omega)]
  go_enter Tryz.func92, Tryz.ntmps92
  go_wp2_with fail
  go_loopw [3, 10] (fun o i wr => ∃ k : Nat, k + 1 ≤ t.length ∧ i = .int .i64 k ∧ (∃ oa cap, o = .slice oa (brTo t k).length cap) ∧ Own (RS (RS RI)) w.heap.size wr.heap.size wr [o] (brTo t k) ∧ Below w.heap.size w wr) (fun _ i _ => t.length - (intOf i).toNat)
  case atStart => exact ⟨0, hp, rfl, ⟨_, _, rfl⟩, Own.empty (R := RS RI) (w := w) 48 w.heap.size (Nat.le_refl _) |>.top _ (by simp), (Below.refl _ _).alloc (Nat.le_refl _) _⟩
  case round =>
    obtain ⟨k, hk, rfl, ⟨oa, cap, rfl⟩, hown, hbel⟩ := hrel
    have hsz1 := hbel.size
    by_cases hlt : k + 1 < t.length
    · obtain rfl := haoc k hlt
      have Hao := Lib.hid hao
      have g1 : wr.cell? ⟨b, off + 1 + k, none⟩ = some (.int .i64 t[k + 1]) := by
        have e := (hbel.cell (p := ⟨b, off + (k + 1), none⟩) hb).trans (hc (k + 1) hlt)
        rwa [show off + (k + 1) = off + 1 + k by omega] at e
      have hbd := hl.bd (k + 1) hlt
      obtain ⟨q1, q2⟩ := hbd
      have hs1 := hl.succ hlt
      obtain ⟨q3, q4⟩ := hs1
      have hnl := brTo_len t k
      have hlen1 : k < t.length - 1 := by omega
      by_cases he : t[k + 1] = 1
      · have heb : (t[k + 1] == 1) = true := by simp [he]
        have hnext : brTo t (k + 1) = (brTo t k ++ [[]]).set (brTo t k).length (([] : List Int) ++ [t[k + 1] - 1]) := by
          rw [brTo_succ t k hlt, he, brStep_one]; simp
        have Hn := Lib.hid hnext
        clear hao hc he hnext
        go_wp2_with (at_builtin; refine wpList_snoc (o := ⟨some 18, _, _, _, _, _⟩) rfl _ _ 50 rfl 48 (.slice none 0 0) 1 24 tI64S rfl _ (brTo t k) [] [.slice none 0 0] w.heap.size wr.heap.size wr.heap.size rfl hown (Own.nil _ _) (Nat.le_refl _) hsz1 48 rfl rfl (by omega) (by omega) ?_; intro oa1 cap1 w1 hown1 c1a c1b hbel1; refine Stop.out ?_)
        have hbel2 := hbel.trans hbel1
        have hsz2 := hbel2.size
        have g2 := (hbel1.cell (p := ⟨b, off + 1 + k, none⟩) hb).trans g1
        obtain ⟨g, cap2, h0, m, ds, og, hv, hg1, hg2, hcell, hr0, hm, hog, hK⟩ := Own.inner hown1 (brTo t k).length (by simp) ((brTo t k).length + 1) (by simp)
        simp only [Value.slice.injEq, true_and] at hv
        obtain ⟨rfl, rfl⟩ := hv
        have hm0 : m = 0 := by rw [hm]; simp
        subst hm0
        have HK := Lib.hid hK
        clear hK hm g1 hbel1 hbel
        refine Stop.go ?_
        go_wp2_with (refine wpList_append1 (o := ⟨some 32, _, _, _, _, _⟩) rfl _ _ 48 rfl 2 (.int .i64 0) 1 8 tI64 h0 0 ds og rfl hr0 2 [.int .i64 (t[k + 1] - 1)] rfl rfl rfl (by simp [Value.oneCell']) (by omega) (by unfold maxLen; omega) ?_; intro h' w2 og' happ; refine Stop.out ?_)
        obtain ⟨f1, f2, f3, f4⟩ := HK.out (t[k + 1] - 1) [.int .i64 (t[k + 1] - 1)] w1.heap.size w1.heap.size h' w2 og' (Own.int ⟨by omega, by omega⟩) (Nat.le_refl _) happ
        obtain ⟨oa', cap', rfl, _⟩ := happ.1.val
        have f5 := hbel2.trans (f4 hsz2)
        clear f4 happ
        simp only [List.getElem_append_right (Nat.le_refl _), Nat.sub_self, List.getElem_singleton] at f3
        rw [← Hn.out] at f3
        simp only [Nat.zero_add] at f1 f2 f3 f5
        refine Stop.go ?_
        go_wp2_with fail
        go_roundw
        case rel => exact ⟨k + 1, by omega, by go_num, ⟨some ⟨g, 0, none⟩, cap1, by rw [Hn.out]; simp⟩, f3, f5⟩
        case measure => simp [intOf]; omega
      · have heb : (t[k + 1] == 1) = false := by simp [he]
        have hk0 : 0 < k := by
          rcases Nat.eq_zero_or_pos k with rfl | h
          · have h0 := hl.zero hp
            simp only [Nat.zero_add] at q3 q4 he
            omega
          · exact h
        have hpos : 0 < (brTo t k).length := by
          obtain ⟨k', rfl⟩ : ∃ k', k = k' + 1 := ⟨k - 1, by omega⟩
          exact brTo_pos hl k' (by omega)
        have hnext : brTo t (k + 1) = (brTo t k).set ((brTo t k).length - 1) ((brTo t k)[(brTo t k).length - 1] ++ [t[k + 1] - 1]) := by
          rw [brTo_succ t k hlt, brStep_more _ _ he hpos]
        have Hn := Lib.hid hnext
        have hidx : (brTo t k).length - 1 < (brTo t k).length := by omega
        have hea := brTo_each t k ((brTo t k).length - 1) hidx
        clear hao hc he hnext
        obtain ⟨g, cap2, h0, m, ds, og, hv, hg1, hg2, hcell, hr0, hm, hog, hK⟩ := Own.inner hown ((brTo t k).length - 1) hidx _ rfl
        obtain ⟨n, hn⟩ : ∃ n, (brTo t k).length = n + 1 := ⟨(brTo t k).length - 1, by omega⟩
        simp only [Value.slice.injEq, true_and] at hv
        obtain ⟨rfl, rfl⟩ := hv
        have HK := Lib.hid hK
        have Hnn := Lib.hid hn
        have hml : m ≤ k := by omega
        have en : (brTo t k).length - 1 = n := by omega
        rw [en] at hcell
        rw [hn]
        have Hen := Lib.hid en
        have hnb : n < 1000000000 := by omega
        clear hK hm hn en hea
        go_wp2_with (refine wpList_append1 (o := ⟨some 32, _, _, _, _, _⟩) rfl _ _ 48 rfl 2 (.int .i64 0) 1 8 tI64 h0 m ds og rfl hr0 2 [.int .i64 (t[k + 1] - 1)] rfl rfl rfl (by simp [Value.oneCell']) (by omega) (by unfold maxLen; omega) ?_; intro h' w2 og' happ; refine Stop.out ?_)
        obtain ⟨f1, f2, f3, f4⟩ := HK.out (t[k + 1] - 1) [.int .i64 (t[k + 1] - 1)] wr.heap.size wr.heap.size h' w2 og' (Own.int ⟨by omega, by omega⟩) (Nat.le_refl _) happ
        obtain ⟨oa', cap', rfl, _⟩ := happ.1.val
        have f5 := hbel.trans (f4 hsz1)
        clear f4 happ
        rw [← Hn.out] at f3
        rw [Hen.out] at f1 f2 f3 f5
        refine Stop.go ?_
        go_wp2_with fail
        go_roundw
        case rel => exact ⟨k + 1, by omega, by go_num, ⟨some ⟨g, 0, none⟩, cap, by rw [Hn.out]; simp [Hnn.out]⟩, by rw [← Hnn.out]; exact f3, f5⟩
        case measure => simp [intOf]; omega
    · have hfin : brTo t k = brs t := brTo_all t k (by omega)
      rw [hfin] at hown
      have Hfin := Lib.hid hfin
      have hke : ¬ k < t.length - 1 := by omega
      clear hfin
      go_wp2_with fail
      go_ret
      exact ⟨_, rfl, by rw [Hfin.out]; exact hown, hbel⟩
end Go.Proofs.YtacbkjmkjpjhoaaGreat
