/- Numberings: what both programs count. -/
import Derived.Test.YtbpicjmfbaaabaaBranch2
import Derived.Test.YtbpicjmfbaaabaaPureNum
import Derived.Test.YtbpicjmfbaaabaaMarks
namespace Go.Proofs.Ytbpicjmfbaaabaa
open Go.RowKit

/-- The reference's product over the first branches. -/
def numSTo (f : Nat) (t : List Int) (root k gap j : Nat) : Int := ((brs t).take j).foldl (fun out b => wrap64 (out * sumW ((List.range (k + 1 - (root + gap))).map fun i => numS f b (root + gap + i) k gap))) 1

theorem numSTo_succ (f : Nat) (t : List Int) (root k gap j : Nat) (h : j < (brs t).length) :
    numSTo f t root k gap (j + 1) = wrap64 (numSTo f t root k gap j * sumW ((List.range (k + 1 - (root + gap))).map fun i => numS f (brs t)[j] (root + gap + i) k gap)) := by
  unfold numSTo
  rw [List.take_succ_eq_append_getElem h, List.foldl_append]; rfl

theorem numSTo_all (f : Nat) (t : List Int) (root k gap j : Nat) (h : (brs t).length ≤ j) : numSTo f t root k gap j = numS (f + 1) t root k gap := by
  unfold numSTo
  rw [List.take_of_length_le h]; rfl

set_option maxHeartbeats 1000000 in
theorem c_spec_l05Numberings (k gap : Nat) (hk : k ≤ 10) (hg : gap ≤ 1) : ∀ (f : Nat) (t : List Int) (v : Value) (root : Nat) (w : World), Rd (RS RI) w [v] t → LevP t → t.length ≤ f → f ≤ 1000 → root ≤ 20 →
    Calls Try.prog 36 #[v, .int .i64 root, .int .i64 k, .int .i64 gap] w (RetV w (.int .i64 (numS f t root k gap))) := by
  intro f
  induction f with
  | zero => intro t v root w h hl hf; have := hl.pos; omega
  | succ f ih =>
    intro t v root w h hl hf hf1 hr
    obtain ⟨oa, c1, hv, _, _⟩ := h.val
    subst hv
    have IH := Lib.hid ih
    clear ih
    go_enter Try.func36, Try.ntmps36
    go_wp2_with fail
    refine (c_spec_l03Parts _ t _ h hl (by omega)).mono ?_
    rintro e w1 ⟨vb, rfl, ob, B1⟩
    have s1 := B1.size
    obtain ⟨oa2, c2, rfl, hc2, hc3⟩ := ob.val
    have hnb := brs_many (t := t)
    go_wp2_with fail
    go_loopw [9, 11] (fun o i wr => ∃ j : Nat, j ≤ (brs t).length ∧ i = .int .i64 j ∧ o = .int .i64 (numSTo f t root k gap j) ∧ Own (RS (RS RI)) w.heap.size w1.heap.size wr [.slice oa2 (brs t).length c2] (brs t) ∧ Below w.heap.size w wr ∧ w1.heap.size ≤ wr.heap.size) (fun _ i _ => (brs t).length - (intOf i).toNat)
    case atStart => exact ⟨0, Nat.zero_le _, rfl, rfl, ob, B1, Nat.le_refl _⟩
    case round =>
      obtain ⟨j, hj, rfl, rfl, hob, hbel, hsz⟩ := hrel
      by_cases hlt : j < (brs t).length
      · have hsucc := Lib.hid (numSTo_succ f t root k gap j hlt)
        have hbl := brs_lev hl _ (List.getElem_mem hlt)
        have hbs := brs_short hl _ (List.getElem_mem hlt)
        obtain ⟨wo, rfl⟩ : ∃ wo : World, wo = wr := ⟨_, rfl⟩
        go_wp2_with fail
        go_loopw [12, 13] (fun s y wr => ∃ m : Nat, y = .int .i64 (root + gap + m) ∧ m ≤ k + 1 - (root + gap) ∧ s = .int .i64 (sumW ((List.range m).map fun i => numS f (brs t)[j] (root + gap + i) k gap)) ∧ Own (RS (RS RI)) w.heap.size w1.heap.size wr [.slice oa2 (brs t).length c2] (brs t) ∧ Below w.heap.size w wr ∧ w1.heap.size ≤ wr.heap.size) (fun _ y _ => 100 - (intOf y).toNat)
        case atStart => exact ⟨0, by simp, Nat.zero_le _, rfl, hob, hbel, hsz⟩
        case round =>
          obtain ⟨m, rfl, hm, rfl, hob, hbel, hsz⟩ := hrel
          by_cases hlm : root + gap + m ≤ k
          · obtain ⟨g, cap, h0, hv, _, _, hg1, hg2, hcell, hel⟩ := hob.elem j hlt
            simp only [Value.slice.injEq, true_and] at hv
            obtain ⟨rfl, rfl⟩ := hv
            have hle : (root : Int) + (gap : Int) + (m : Int) ≤ (k : Int) := by omega
            go_wp2_with fail
            rw [show ((root : Int) + (gap : Int) + (m : Int)) = ((root + gap + m : Nat) : Int) by omega]
            refine (IH.out _ h0 (root + gap + m) _ hel.rd hbl (by omega) (by omega) (by omega)).mono ?_
            rintro e w3 ⟨rfl, B3⟩
            have s3 := B3.size
            rw [show ((root + gap + m : Nat) : Int) = ((root : Int) + (gap : Int) + (m : Int)) by omega]
            go_wp2_with fail
            go_roundw
            case rel =>
              refine ⟨m + 1, by go_num, by omega, ?_, hob.below B3 (by omega), hbel.trans (B3.mono (by omega)), by omega⟩
              rw [List.range_succ, List.map_append, List.map_singleton, sumW_snoc]
            case measure => simp [intOf]; omega
          · have hme : m = k + 1 - (root + gap) := by omega
            have hle : ¬ ((root : Int) + (gap : Int) + (m : Int) ≤ (k : Int)) := by omega
            have Hme := Lib.hid hme
            clear hme
            go_wp2_with fail
            go_roundw
            case rel =>
              refine ⟨j + 1, by omega, by go_num, ?_, hob, hbel, hsz⟩
              rw [hsucc.out, Hme.out]
            case measure => simp [intOf]; omega
      · have hfin : numSTo f t root k gap j = numS (f + 1) t root k gap := numSTo_all f t root k gap j (by omega)
        have Hf := Lib.hid hfin
        clear hfin
        go_wp2_with fail
        go_ret
        exact ⟨by rw [← Hf.out]; rfl, hbel⟩

/-- The program's lists over the first branches. -/
def numITo (f : Nat) (t : List Int) (k step j : Nat) : List Int := ((brs t).take j).foldl (fun out b => numStep k step out (numI f b k step)) (List.replicate k 1)

theorem numITo_succ (f : Nat) (t : List Int) (k step j : Nat) (h : j < (brs t).length) : numITo f t k step (j + 1) = numStep k step (numITo f t k step j) (numI f (brs t)[j] k step) := by
  unfold numITo
  rw [List.take_succ_eq_append_getElem h, List.foldl_append]; rfl

theorem numITo_all (f : Nat) (t : List Int) (k step j : Nat) (h : (brs t).length ≤ j) : numITo f t k step j = numI (f + 1) t k step := by
  unfold numITo
  rw [List.take_of_length_le h]; rfl

theorem numITo_len (f : Nat) (t : List Int) (k step : Nat) : ∀ j, j ≤ (brs t).length → (numITo f t k step j).length = k
  | 0, _ => by simp [numITo]
  | j + 1, h => by rw [numITo_succ f t k step j h, numStep_len]

theorem numITo_in (f : Nat) (t : List Int) (k step : Nat) : ∀ j, j ≤ (brs t).length → ∀ x ∈ numITo f t k step j, In64 x
  | 0, _ => by intro x hx; simp [numITo] at hx; rw [hx.2]; decide
  | j + 1, h => by
    intro x hx
    rw [numITo_succ f t k step j h] at hx
    simp [numStep] at hx
    obtain ⟨_, _, rfl⟩ := hx
    exact in64_wrap _

theorem ones_set (k j : Nat) (h : j < k) : (List.replicate j (1 : Int) ++ List.replicate (k - j) 0).set j 1 = List.replicate (j + 1) 1 ++ List.replicate (k - (j + 1)) 0 := by
  rw [List.set_append_right _ _ (by simp), List.length_replicate, Nat.sub_self]
  obtain ⟨m, hm⟩ : ∃ m, k - j = m + 1 := ⟨k - j - 1, by omega⟩
  rw [hm, show k - (j + 1) = m by omega, List.replicate_succ, List.set_cons_zero, List.replicate_succ', List.append_assoc]
  rfl

set_option maxHeartbeats 2000000 in
theorem c_impl_numberings (k step : Nat) (hk : k ≤ 10) (hg : step ≤ 1) : ∀ (f : Nat) (t : List Int) (v : Value) (w : World), Rd (RS RI) w [v] t → LevP t → t.length ≤ f → f ≤ 1000 →
    Calls Try.prog 39 #[v, .int .i64 k, .int .i64 step] w (RetO (RS RI) w (numI f t k step)) := by
  intro f
  induction f with
  | zero => intro t v w h hl hf; have := hl.pos; omega
  | succ f ih =>
    intro t v w h hl hf hf1
    obtain ⟨oa, c1, hv, _, _⟩ := h.val
    subst hv
    have IH := Lib.hid ih
    clear ih
    have hnb := brs_many (t := t)
    go_enter Try.func39, Try.ntmps39
    go_wp2_with (at_make; refine wpList_makeI rfl _ _ 22 rfl 2 tI64 _ _ _ _ k rfl rfl rfl rfl (by omega) ?_; intro w1 hrow0 hb)
    go_wp2_with fail
    go_loopw [19] (fun i wr => ∃ j : Nat, j ≤ k ∧ i = .int .i64 j ∧ Row wr (.slice (some ⟨w.heap.size, 0, none⟩) k k) 1 k ((List.replicate j (1 : Int) ++ List.replicate (k - j) 0).map (Value.int .i64)) (some w.heap.size) ∧ Below w.heap.size w wr) (fun i _ => k - (intOf i).toNat)
    case atStart => exact ⟨0, Nat.zero_le _, rfl, by simpa using hrow0, hb⟩
    case round =>
      obtain ⟨j, hj, rfl, hrow, hbel⟩ := hrel
      by_cases hlt : j < k
      · have hfz := hrow.frozen j
        have hx : j < (List.replicate j (1 : Int) ++ List.replicate (k - j) 0).length := by simp; omega
        have hcell := hrow.cells j ((List.replicate j (1 : Int) ++ List.replicate (k - j) 0)[j] |> Value.int .i64) (by rw [List.getElem?_map, List.getElem?_eq_getElem hx]; rfl)
        have hst := (hrow.store j (.int .i64 1)).1
        rw [map_set_int, ones_set k j hlt] at hst
        have hbel' : Below w.heap.size w (wr.setCell ⟨w.heap.size, j, none⟩ (.int .i64 1)) := hbel.setCell (Nat.le_refl _) _
        generalize ((List.replicate j (1 : Int) ++ List.replicate (k - j) 0)[j] |> Value.int .i64) = old at hcell
        go_wp2_with fail
        go_roundw
        case rel => exact ⟨j + 1, by omega, by go_num, hst, hbel'⟩
        case measure => simp [intOf]; omega
      · have hje : j = k := by omega
        have hfin : Row wr (.slice (some ⟨w.heap.size, 0, none⟩) k k) 1 k ((numITo f t k step 0).map (Value.int .i64)) (some w.heap.size) := by
          have e : List.replicate j (1 : Int) ++ List.replicate (k - j) 0 = numITo f t k step 0 := by rw [hje]; simp [numITo]
          rw [e] at hrow; exact hrow
        clear hje hrow
        go_wp2_with fail
        obtain ⟨wa, rfl⟩ : ∃ wa : World, wa = wr := ⟨_, rfl⟩
        have hsr := hbel.size
        have hgl := hfin.lt _ rfl
        refine (c_impl_branchesOf _ t wa (h.below hbel (Nat.le_refl _)) hl (by omega)).mono ?_
        rintro e w2 ⟨vb, rfl, ob, B2⟩
        have s2 := B2.size
        obtain ⟨oa2, c2, rfl, hc2, hc3⟩ := ob.val
        have hfin2 := hfin.frame (w' := w2) (fun g hg => by cases hg; exact B2.block _ hgl)
        have hbel2 := hbel.trans (B2.mono hsr)
        go_wp2_with fail
        go_loopw [29] (fun i wq => ∃ q : Nat, q ≤ (brs t).length ∧ i = .int .i64 q ∧ Row wq (.slice (some ⟨w.heap.size, 0, none⟩) k k) 1 k ((numITo f t k step q).map (Value.int .i64)) (some w.heap.size) ∧ Own (RS (RS RI)) wa.heap.size w2.heap.size wq [.slice oa2 (brs t).length c2] (brs t) ∧ Below w.heap.size w wq ∧ w2.heap.size ≤ wq.heap.size) (fun i _ => (brs t).length - (intOf i).toNat)
        case atStart => exact ⟨0, Nat.zero_le _, rfl, hfin2, ob, hbel2, by omega⟩
        case round =>
          obtain ⟨q, hq, rfl, hrowq, hob, hbelq, hszq⟩ := hrel
          obtain ⟨wo, rfl⟩ : ∃ wo : World, wo = wr := ⟨_, rfl⟩
          by_cases hlq : q < (brs t).length
          · have hsucc := Lib.hid (numITo_succ f t k step q hlq)
            have hlen := Lib.hid (numITo_len f t k step q hq)
            have hlen1 := Lib.hid (numITo_len f t k step (q + 1) hlq)
            have hbl := brs_lev hl _ (List.getElem_mem hlq)
            have hbs := brs_short hl _ (List.getElem_mem hlq)
            obtain ⟨g, cap, h0, hv, _, _, hg1, hg2, hcell, hel⟩ := hob.elem q hlq
            simp only [Value.slice.injEq, true_and] at hv
            obtain ⟨rfl, rfl⟩ := hv
            go_wp2_with fail
            refine (IH.out _ h0 _ hel.rd hbl (by omega) (by omega)).mono ?_
            rintro e w3 ⟨vl, rfl, ol, B3⟩
            have s3 := B3.size
            obtain ⟨oa3, c3, hvl, _, _⟩ := ol.val
            rw [numI_len] at hvl
            subst hvl
            have hrow3 := hrowq.frame (w' := w3) (fun g hg => by cases hg; exact B3.block _ (by omega))
            have hob3 := hob.below B3 (by omega)
            have hbel3 := hbelq.trans (B3.mono (by omega))
            go_wp2_with fail
            go_loopw [39] (fun i wx => ∃ x : Nat, x ≤ k ∧ i = .int .i64 x ∧ Row wx (.slice (some ⟨w.heap.size, 0, none⟩) k k) 1 k (((numITo f t k step (q + 1)).take x ++ (numITo f t k step q).drop x).map (Value.int .i64)) (some w.heap.size) ∧ Own (RS RI) wo.heap.size w3.heap.size wx [.slice oa3 k c3] (numI f (brs t)[q] k step) ∧ Own (RS (RS RI)) wa.heap.size w2.heap.size wx [.slice (some ⟨g, 0, none⟩) (brs t).length c2] (brs t) ∧ Below w.heap.size w wx ∧ w3.heap.size ≤ wx.heap.size) (fun i _ => k - (intOf i).toNat)
            case atStart => exact ⟨0, Nat.zero_le _, rfl, by simpa using hrow3, ol, hob3, hbel3, by omega⟩
            case round =>
              obtain ⟨x, hx, rfl, hrowx, holx, hobx, hbelx, hszx⟩ := hrel
              obtain ⟨wo2, rfl⟩ : ∃ wo2 : World, wo2 = wr := ⟨_, rfl⟩
              by_cases hlx : x < k
              · obtain ⟨oai, ci, I⟩ := holx.rd.ints
                have hvi := I.val
                rw [numI_len] at hvi
                simp only [Value.slice.injEq, true_and] at hvi
                obtain ⟨rfl, rfl⟩ := hvi
                have hll := numI_len f (brs t)[q] k step
                obtain ⟨bl, ofl, rfl, hbl1, hcl⟩ := I.get (k := x) (by rw [hll]; exact hlx)
                have Hll := Lib.hid hll
                have HCL := Lib.hid hcl
                clear hll hcl
                go_wp2_with fail
                go_loop [13, 14] (fun s y => ∃ m : Nat, y = .int .i64 (x + step + m) ∧ m ≤ k - (x + step) ∧ s = .int .i64 (sumW (((numI f (brs t)[q] k step).drop (x + step)).take m))) (fun _ y => 100 - (intOf y).toNat)
                case atStart => exact ⟨0, by simp, Nat.zero_le _, rfl⟩
                case round =>
                  obtain ⟨m, rfl, hm, rfl⟩ := hrel
                  by_cases hly : x + step + m < k
                  · have hle : (x : Int) + (step : Int) + (m : Int) < (k : Int) := by omega
                    have hge : (0 : Int) ≤ (x : Int) + (step : Int) + (m : Int) := by omega
                    have hc := HCL.out (x + step + m) (by rw [Hll.out]; exact hly)
                    have ht : ((x : Int) + (step : Int) + (m : Int)).toNat = x + step + m := by omega
                    have hxl : x + step + m < (numI f (brs t)[q] k step).length := by rw [Hll.out]; exact hly
                    have hsum : Hid (sumW (((numI f (brs t)[q] k step).drop (x + step)).take (m + 1)) = wrap64 (sumW (((numI f (brs t)[q] k step).drop (x + step)).take m) + (numI f (brs t)[q] k step)[x + step + m])) := by
                      show sumW _ = _
                      rw [List.take_succ_eq_append_getElem (by simp; omega), sumW_snoc]
                      simp
                    go_wp2_with fail
                    go_round
                    case rel => exact ⟨m + 1, by go_num, by omega, by rw [hsum.out]⟩
                    case measure => simp [intOf]; omega
                  · have hle : ¬ ((x : Int) + (step : Int) + (m : Int) < (k : Int)) := by omega
                    have hlenq := hlen.out
                    have hlen1q := hlen1.out
                    have hxq : x < (numITo f t k step q).length := by rw [hlenq]; exact hlx
                    have hxq1 : x < (numITo f t k step (q + 1)).length := by rw [hlen1q]; exact hlx
                    have hxa : x < ((numITo f t k step (q + 1)).take x ++ (numITo f t k step q).drop x).length := by simp; omega
                    have hval : ((numITo f t k step (q + 1)).take x ++ (numITo f t k step q).drop x)[x] = (numITo f t k step q)[x] := by
                      rw [List.getElem_append_right (by simp; omega)]
                      simp
                      congr 1
                      simp; omega
                    have hnew : (numITo f t k step (q + 1))[x] = wrap64 ((numITo f t k step q)[x] * sumW (((numI f (brs t)[q] k step).drop (x + step)).take m)) := by
                      have e := hsucc.out
                      have e2 : (numITo f t k step (q + 1))[x] = (numStep k step (numITo f t k step q) (numI f (brs t)[q] k step))[x]'(by rw [numStep_len]; exact hlx) := by simp only [e]
                      rw [e2]
                      have e3 : ((numI f (brs t)[q] k step).drop (x + step)).take m = (numI f (brs t)[q] k step).drop (x + step) := List.take_of_length_le (by simp; rw [Hll.out]; omega)
                      rw [e3]
                      simp [numStep, hxq]
                    have hcell2 := hrowx.cells x (.int .i64 (numITo f t k step q)[x]) (by rw [List.getElem?_map, List.getElem?_eq_getElem hxa, hval]; rfl)
                    have hfz := hrowx.frozen x
                    have hst := (hrowx.store x (.int .i64 (numITo f t k step (q + 1))[x])).1
                    rw [map_set_int, set_take _ _ _ hxq1 hxq] at hst
                    have hch : Chg w.heap.size (w.heap.size + 1) wo2 (wo2.setCell ⟨w.heap.size, x, none⟩ (.int .i64 (numITo f t k step (q + 1))[x])) := Chg.of_grown (hrowx.store x (.int .i64 (numITo f t k step (q + 1))[x])).2 (fun g hg => by cases hg; omega)
                    have hol' := holx.apart hch (by omega)
                    have hob' := hobx.apart hch (by omega)
                    have hbel' : Below w.heap.size w (wo2.setCell ⟨w.heap.size, x, none⟩ (.int .i64 (numITo f t k step (q + 1))[x])) := hbelx.setCell (Nat.le_refl _) _
                    have hsz' := hch.size
                    rw [hnew] at hst hol' hob' hbel' hsz'
                    clear hch hval hnew hlenq hlen1q
                    go_wp2_with fail
                    go_roundw
                    case rel => exact ⟨x + 1, by omega, by go_num, hst, hol', hob', hbel', by omega⟩
                    case measure => simp [intOf]; omega
              · have hxe : x = k := by omega
                have hfinx : Row wo2 (.slice (some ⟨w.heap.size, 0, none⟩) k k) 1 k ((numITo f t k step (q + 1)).map (Value.int .i64)) (some w.heap.size) := by
                  have e : (numITo f t k step (q + 1)).take x ++ (numITo f t k step q).drop x = numITo f t k step (q + 1) := by
                    rw [List.take_of_length_le (by rw [hlen1.out]; omega), List.drop_of_length_le (by rw [hlen.out]; omega), List.append_nil]
                  rw [e] at hrowx; exact hrowx
                clear hxe hrowx
                go_wp2_with fail
                go_roundw
                case rel => exact ⟨q + 1, by omega, by go_num, hfinx, hobx, hbelx, by omega⟩
                case measure => simp [intOf]; omega
          · have hfinq : Own (RS RI) w.heap.size wo.heap.size wo [.slice (some ⟨w.heap.size, 0, none⟩) k k] (numI (f + 1) t k step) := by
              have e := numITo_all f t k step q (by omega)
              rw [← e]
              have hl2 := numITo_len f t k step q hq
              have hr : Row wo (.slice (some ⟨w.heap.size, 0, none⟩) k k) 1 (numITo f t k step q).length ((numITo f t k step q).map (Value.int .i64)) (some w.heap.size) := by rw [hl2]; exact hrowq
              exact hr.OwnI (numITo_in f t k step q hq) (fun g hg => by cases hg; exact Nat.le_refl _)
            go_wp2_with fail
            go_ret
            exact ⟨_, rfl, hfinq, hbelq⟩

end Go.Proofs.Ytbpicjmfbaaabaa
