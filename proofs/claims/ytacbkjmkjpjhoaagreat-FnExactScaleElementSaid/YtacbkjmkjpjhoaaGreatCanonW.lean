/- The canonical list of a tree: the program's way. -/
import Derived.Test.YtacbkjmkjpjhoaaGreatCanon
import Derived.Test.YtacbkjmkjpjhoaaGreatLists
import Derived.Test.YtacbkjmkjpjhoaaGreatSortFn
import Derived.Test.YtacbkjmkjpjhoaaGreatBranch
set_option linter.unusedSimpArgs false
set_option linter.unusedVariables false
namespace Go.Proofs.YtacbkjmkjpjhoaaGreat
open Go.RowKit

/-- Levels that are small. -/
def Small (bs : List (List Int)) : Prop := ∀ b ∈ bs, ∀ x ∈ b, 0 ≤ x ∧ x ≤ 1000000000

theorem LevP.small {t : List Int} (h : LevP t) (hl : t.length ≤ 1000000000) : ∀ x ∈ t, 0 ≤ x ∧ x ≤ 1000000000 := by
  intro x hx
  obtain ⟨i, hi, rfl⟩ := List.getElem_of_mem hx
  have := h.bd i hi
  omega

theorem Small.of_lev {bs : List (List Int)} (h : ∀ b ∈ bs, LevP b) (hl : sumLen bs ≤ 1000000000) : Small bs := fun b hb => (h b hb).small (Nat.le_trans (sumLen_mem hb) hl)

theorem rootOn_in64 {bs : List (List Int)} (h : Small bs) : ∀ x ∈ rootOn bs, In64 x := by
  intro x hx
  unfold rootOn at hx
  rcases List.mem_cons.1 hx with rfl | hx
  · unfold In64; omega
  · rw [List.mem_flatMap] at hx
    obtain ⟨b, hb, hx⟩ := hx
    obtain ⟨y, hy, rfl⟩ := List.mem_map.1 hx
    have := h b hb y hy
    unfold In64; omega

theorem sumLen_take (bs : List (List Int)) (k : Nat) : sumLen (bs.take k) ≤ sumLen bs := by
  have h : sumLen bs = sumLen (bs.take k) + sumLen (bs.drop k) := by rw [← sumLen_append, List.take_append_drop]
  omega

theorem rootOn_take_succ (bs : List (List Int)) (k : Nat) (h : k < bs.length) : rootOn (bs.take (k + 1)) = rootOn (bs.take k) ++ bs[k].map (· + 1) := by
  rw [List.take_succ_eq_append_getElem h, rootOn_snoc]

theorem sumLen_take_get (bs : List (List Int)) (k : Nat) (h : k < bs.length) : sumLen (bs.take k) + bs[k].length ≤ sumLen bs := by
  have := sumLen_take bs (k + 1)
  rw [List.take_succ_eq_append_getElem h, sumLen_append] at this
  simpa [sumLen] using this

theorem map_take_snoc (b : List Int) (m : Nat) (h : m < b.length) : (b.take (m + 1)).map (· + 1) = (b.take m).map (· + 1) ++ [b[m] + 1] := by
  rw [List.take_succ_eq_append_getElem h, List.map_append]; rfl

/-- A literal of one number. -/
theorem Own.lit1 {w : World} (e : TypeId) (lo : Nat) (x : Int) (hx : In64 x) (h : lo ≤ w.heap.size) : Own (RS RI) lo (w.heap.size + 1) (w.alloc (.cells #[.int .i64 x] e)) [.slice (some ⟨w.heap.size, 0, none⟩) 1 1] [x] :=
  Row.OwnIh (og := some w.heap.size) (by simpa using Row.lit w #[.int .i64 x] e 1 1 (by decide) (by simp)) (by simpa using hx) (fun g hg => by cases hg; omega)

set_option maxRecDepth 100000 in
set_option maxHeartbeats 1000000 in
theorem c_impl_rootOn (v : Value) (bs : List (List Int)) (w : World) (h : Rd (RS (RS RI)) w [v] bs) (hs : Small bs) (hsz : sumLen bs ≤ 1000000000) :
    Calls Tryz.prog 62 #[v] w (RetO (RS RI) w (rootOn bs)) := by
  obtain ⟨oa, cap, L⟩ := h.lists
  obtain rfl := L.val
  have m1 := L.le; have m2 := L.capLe
  have HS := Lib.hid hs
  have HL := Lib.hid L
  clear hs L h
  go_enter Tryz.func62, Tryz.ntmps62
  go_wp2_with fail
  go_loopw [3, 11] (fun o i wr => ∃ (k : Nat) (r : List Int), k ≤ bs.length ∧ i = .int .i64 k ∧ Hid (r = rootOn (bs.take k)) ∧ (∃ oa cap, o = .slice oa r.length cap) ∧ Hid (Own (RS RI) w.heap.size wr.heap.size wr [o] r) ∧ Below w.heap.size w wr) (fun _ i _ => bs.length - (intOf i).toNat)
  case atStart => exact ⟨0, [0], Nat.zero_le _, rfl, Lib.hid rfl, ⟨_, _, rfl⟩, Lib.hid ((Own.lit1 (w := w) 2 w.heap.size 0 (by unfold In64; omega) (Nat.le_refl _)).top _ (by simp)), (Below.refl _ _).alloc (Nat.le_refl _) _⟩
  case round =>
    obtain ⟨k, r, hk, rfl, hr, ⟨o1, cap1, rfl⟩, hown, hbel⟩ := hrel
    have hsz1 := hbel.size
    obtain ⟨wo, hwo⟩ : ∃ wo : World, wo = wr := ⟨_, rfl⟩
    subst hwo
    by_cases hlt : k < bs.length
    · obtain ⟨b, off, rfl, hb, hc⟩ := HL.out.get hlt
      obtain ⟨oi, ci, g1, hrd, q1, q2⟩ := hc k hlt
      have g2 : wo.cell? ⟨b, off + k, none⟩ = some (.slice oi bs[k].length ci) := (hbel.cell (p := ⟨b, off + k, none⟩) hb).trans g1
      obtain ⟨x, hx⟩ : ∃ x, x = bs[k] := ⟨_, rfl⟩
      have hsm : ∀ y ∈ x, 0 ≤ y ∧ y ≤ 1000000000 := by rw [hx]; exact HS.out _ (List.getElem_mem hlt)
      have hlen := sumLen_take_get bs k hlt
      have hrl := rootOn_len (bs.take k)
      have hnx := rootOn_take_succ bs k hlt
      rw [← hx] at g2 hrd q1 hlen hnx
      obtain ⟨oa2, c2, I⟩ := hrd.ints
      rw [← hr.out] at hrl hnx
      have hval := I.val
      simp only [Value.slice.injEq, true_and] at hval
      obtain ⟨rfl, rfl⟩ := hval
      have HI := Lib.hid I
      have HN := Lib.hid hnx
      have HX := Lib.hid hx
      have hrb : r.length + x.length ≤ 1000000001 := by omega
      clear hc g1 hx hrd I hnx hrl hlen
      go_wp2_with fail
      go_loopw [3, 17] (fun o i wr => ∃ (m : Nat) (z : List Int), m ≤ x.length ∧ i = .int .i64 m ∧ Hid (z = r ++ (x.take m).map (· + 1)) ∧ (∃ oa cap, o = .slice oa z.length cap) ∧ Hid (Own (RS RI) w.heap.size wr.heap.size wr [o] z) ∧ Below w.heap.size w wr) (fun _ i _ => x.length - (intOf i).toNat)
      case atStart => exact ⟨0, r, Nat.zero_le _, rfl, Lib.hid (by simp), ⟨o1, cap1, rfl⟩, hown, hbel⟩
      case round =>
        obtain ⟨m, z, hm, rfl, hz, ⟨o2, cap2, rfl⟩, hown2, hbel2⟩ := hrel
        have hsz2 := hbel2.size
        by_cases hlt2 : m < x.length
        · obtain ⟨b2, off2, rfl, hb2, hc2⟩ := HI.out.get hlt2
          have g3 : wr.cell? ⟨b2, off2 + m, none⟩ = some (.int .i64 x[m]) := (hbel2.cell (p := ⟨b2, off2 + m, none⟩) hb2).trans (hc2 m hlt2)
          have hy := hsm x[m] (List.getElem_mem hlt2)
          obtain ⟨y1, y2⟩ := hy
          have hms := map_take_snoc x m hlt2
          obtain ⟨y, hy⟩ : ∃ y, y = x[m] := ⟨_, rfl⟩
          rw [← hy] at g3 y1 y2 hms
          have hll : z.length ≤ 1000000002 := by rw [hz.out]; simp; omega
          have hw1 : IntKind.i64.wrap (y + 1) = y + 1 := IntWalk.i64_in _ (by omega)
          have HM := Lib.hid hms
          clear hc2 hy hms hsm
          go_wp2_with (at_builtin; refine StopAt (o := ⟨some 25, _, _, _, _, _⟩) ?_)
          refine Stop.go ?_
          refine wpList_snoc (o := ⟨some 25, _, _, _, _, _⟩) (w := wr) (R := RI) rfl _ _ 48 rfl 2 (.int .i64 0) 1 8 tI64 rfl (.slice o2 z.length cap2) z (y + 1) [.int .i64 (y + 1)] w.heap.size wr.heap.size wr.heap.size rfl hown2.out (Own.int ⟨by omega, by omega⟩) (Nat.le_refl _) hsz2 2 rfl rfl (by omega) (by omega) ?_
          intro oa1 cap1 w1 hown1 c1a c1b hbel1
          have hb3 := hbel2.trans hbel1
          obtain ⟨z', hz'⟩ : ∃ z', z' = z ++ [y + 1] := ⟨_, rfl⟩
          have HZ : Hid (z' = r ++ (x.take (m + 1)).map (· + 1)) := Lib.hid (by rw [hz', hz.out, HM.out, List.append_assoc])
          have e1 : z.length + 1 = z'.length := by rw [hz']; simp
          rw [← hz', e1] at hown1
          have HO1 : Hid (Own (RS RI) w.heap.size w1.heap.size w1 [.slice oa1 z'.length cap1] z') := hown1
          rw [e1]
          clear hown1 hbel1 hown2 hown e1 hz'
          go_wp2_with fail
          go_roundw
          case rel => exact ⟨m + 1, z', by omega, by go_num, HZ, ⟨_, _, rfl⟩, HO1, hb3⟩
          case measure => simp [intOf]; omega
        · have HZ : Hid (z = rootOn (bs.take (k + 1))) := Lib.hid (by rw [HN.out, hz.out, List.take_of_length_le (by omega)])
          go_wp2_with fail
          go_roundw
          case rel => exact ⟨k + 1, z, by omega, by go_num, HZ, ⟨_, _, rfl⟩, hown2, hbel2⟩
          case measure => simp [intOf]; omega
    · have hfin : bs.take k = bs := List.take_of_length_le (by omega)
      go_wp2_with fail
      go_ret
      exact ⟨_, rfl, by rw [← hfin, ← hr.out]; exact hown.out, hbel⟩

theorem map_take_drop_set {t : List (List Int)} (f : List Int → List Int) (k : Nat) (h : k < t.length) : ((t.take k).map f ++ t.drop k).set k (f t[k]) = (t.take (k + 1)).map f ++ t.drop (k + 1) := by
  rw [List.set_append_right _ _ (by simp; omega)]
  have e : k - ((t.take k).map f).length = 0 := by simp; omega
  rw [e, List.drop_eq_getElem_cons h, List.set_cons_zero, List.take_succ_eq_append_getElem h, List.map_append]
  simp

theorem brs_few {t : List Int} (h : LevP t) : (brs t).length + 1 ≤ t.length := by
  have h1 := sumLen_brs h
  have : ∀ bs : List (List Int), (∀ b ∈ bs, LevP b) → bs.length ≤ sumLen bs := by
    intro bs
    induction bs with
    | nil => intro _; simp [sumLen]
    | cons b bs ih =>
      intro hb
      have := ih (fun c hc => hb c (by simp [hc]))
      have := (hb b (by simp)).pos
      simp only [sumLen, List.map_cons, List.sum_cons, List.length_cons] at *
      omega
  have := this (brs t) (brs_lev h)
  omega

set_option maxRecDepth 100000 in
set_option maxHeartbeats 1000000 in
theorem c_impl_canonical : ∀ (n : Nat) (v : Value) (t : List Int) (w : World), Rd (RS RI) w [v] t → LevP t → t.length ≤ n → t.length ≤ 13 →
    Calls Tryz.prog 61 #[v] w (RetO (RS RI) w (canon t)) := by
  intro n
  induction n with
  | zero => intro v t w h hl hn h13; have := hl.pos; omega
  | succ n ih =>
    intro v t w h hl hn h13
    have hb := c_impl_branchesOf v t w h hl (by omega)
    have eg := enters (P := Tryz.prog) (f := 113) Tryz.func113 (by kernel_rfl) rfl
    have hask : CmpAsk Tryz.prog 113 cmpD (fun _ => True) := fun w h1 h2 x y r1 r2 _ _ => c_impl_canonical1 h1 h2 x y w r1 r2
    have EG := Lib.hid eg
    have HA := Lib.hid hask
    have HL := Lib.hid hl
    have IH := Lib.hid ih
    have hfew := brs_few hl
    have hbl : (brs t).length ≤ 12 := by omega
    clear eg hask h hl ih
    go_enter Tryz.func61, Tryz.ntmps61
    go_wp2_with (go_at_call 92; refine hb.mono ?_; rintro e w1 ⟨u, rfl, o1, b1⟩; obtain ⟨oa, cap, rfl, l1, l2⟩ := o1.val)
    clear hb
    have hsz1 := b1.size
    have hO1 : Hid (Own (RS (RS RI)) w.heap.size w1.heap.size w1 [.slice oa (brs t).length cap] (brs t)) := o1
    clear o1
    go_loopw [10] (fun i wr => ∃ k : Nat, k ≤ (brs t).length ∧ i = .int .i64 k ∧ Hid (Own (RS (RS RI)) w.heap.size wr.heap.size wr [.slice oa (brs t).length cap] (((brs t).take k).map canon ++ (brs t).drop k)) ∧ Below w.heap.size w wr) (fun i _ => (brs t).length - (intOf i).toNat)
    case atStart => exact ⟨0, Nat.zero_le _, rfl, by simpa using hO1, b1⟩
    case round =>
      obtain ⟨k, hk, rfl, hown, hbel⟩ := hrel
      have hsz2 := hbel.size
      clear hO1
      by_cases hlt : k < (brs t).length
      · obtain ⟨g, cap', a, hv, _, _, hg1, hg2, hg3, hcell, hel, hK⟩ := hown.out.setElem (R := RS RI) rfl k (by simp; omega)
        have hxk : (((brs t).take k).map canon ++ (brs t).drop k)[k]'(by simp; omega) = (brs t)[k] := by
          rw [List.getElem_append_right (by simp; omega)]
          simp [List.getElem_drop]
          congr 1; omega
        rw [hxk] at hel
        have hlk : ((List.take k (brs t)).map canon ++ (brs t).drop k).length = (brs t).length := by simp; omega
        rw [hlk] at hv
        simp only [Value.slice.injEq, true_and] at hv
        obtain ⟨rfl, rfl⟩ := hv
        obtain ⟨oi, ci, rfl, _⟩ := hel.val
        have hmem := List.getElem_mem hlt
        have hshort := brs_short HL.out _ hmem
        have hc := IH.out (.slice oi (brs t)[k].length ci) (brs t)[k] wr hel.rd (brs_lev HL.out _ hmem) (by omega) (by omega)
        have hset := map_take_drop_set canon k hlt
        have HSET := Lib.hid hset
        have HK := Lib.hid hK
        obtain ⟨x, hx⟩ : ∃ x, x = (brs t)[k] := ⟨_, rfl⟩
        rw [← hx] at hc hcell HSET hshort
        clear hK hset hxk hlk hel hx hmem
        go_wp2_with (go_at_call 61; refine hc.mono ?_; rintro e w2 ⟨u, rfl, o2, b2⟩; obtain ⟨ou, cu, rfl, lu1, lu2⟩ := o2.val; obtain ⟨f1, f2, f3, f4⟩ := HK.out w2 (canon x) (.slice ou (canon x).length cu) wr.heap.size w2.heap.size o2 (Nat.le_refl _) b2.size b2; have HF := Lib.hid (show Own (RS (RS RI)) w.heap.size w2.heap.size (w2.setCell ⟨g, k, none⟩ (.slice ou (canon x).length cu)) [.slice (some ⟨g, 0, none⟩) (brs t).length cap] (((brs t).take (k + 1)).map canon ++ (brs t).drop (k + 1)) by rw [← HSET.out]; exact f3); have hb3 : Below w.heap.size w w2 := hbel.trans (b2.mono hsz2); have hb4 := hb3.setCell (p := ⟨g, k, none⟩) hg1 (.slice ou (canon x).length cu); clear f3 f4 o2 hc)
        go_roundw
        case rel => exact ⟨k + 1, by omega, by go_num, Lib.hid (HF.out.top _ (by simp)), hb4⟩
        case measure => simp [intOf]; omega
      · have hfin : ((brs t).take k).map canon ++ (brs t).drop k = (brs t).map canon := by
          rw [List.take_of_length_le (by omega), List.drop_of_length_le (by omega), List.append_nil]
        rw [hfin] at hown
        have hml : ((brs t).map canon).length = (brs t).length := by simp
        have hs := c_SortFunc 113 cmpD cmpD_cmp (fun _ => True) EG.out HA.out _ ((brs t).map canon) w.heap.size wr.heap.size wr hown.out (fun _ _ => trivial) (by omega)
        have hlev : ∀ b ∈ sortC cmpD ((brs t).map canon), LevP b := by
          intro b hb
          rw [sortC_mem, List.mem_map] at hb
          obtain ⟨c, hc, rfl⟩ := hb
          exact canon_lev (brs_lev HL.out c hc)
        have hsum : sumLen (sortC cmpD ((brs t).map canon)) ≤ 1000000000 := by
          have := rootOn_len (sortC cmpD ((brs t).map canon))
          rw [← canon_eq HL.out, canon_len HL.out] at this
          omega
        have HV := Lib.hid hlev
        have HCE := Lib.hid (canon_eq HL.out)
        clear hlev hfin hown
        go_wp2_with (go_at_call 112; refine hs.mono ?_; rintro e w3 ⟨rfl, o3, ch3⟩)
        have hb3 : Below w.heap.size w w3 := hbel.trans (ch3.below (Nat.le_refl _) hsz2)
        have hr := c_impl_rootOn _ _ w3 o3.rd (Small.of_lev HV.out hsum) hsum
        have hsz3 := hb3.size
        clear hs o3 ch3
        go_wp2_with (go_at_call 62; refine hr.mono ?_; rintro e w4 ⟨u, rfl, o4, b4⟩)
        go_ret
        refine ⟨_, rfl, ?_, hb3.trans (b4.mono hsz3)⟩
        rw [HCE.out]
        exact o4.mono hsz3 (Nat.le_refl _)
end Go.Proofs.YtacbkjmkjpjhoaaGreat
