/- The canonical list of a tree: the reference's way. -/
import Derived.Test.YtacbkjmkjpjhoaaGreatCanonW
import Derived.Test.YtacbkjmkjpjhoaaGreatBranch2
set_option linter.unusedSimpArgs false
set_option linter.unusedVariables false
namespace Go.Proofs.YtacbkjmkjpjhoaaGreat
open Go.RowKit

theorem cmpD_less (x y : List Int) : decide (cmpL y x < 0) = decide (cmpD x y < 0) := rfl

theorem sortC_take_succ {t : List (List Int)} (f : List Int → List Int) (k : Nat) (h : k < t.length) : sortC cmpD ((t.take (k + 1)).map f) = ins cmpD (f t[k]) (sortC cmpD ((t.take k).map f)) := by
  rw [List.take_succ_eq_append_getElem h, List.map_append, List.map_cons, List.map_nil, sortC_snoc]

set_option maxRecDepth 100000 in
set_option maxHeartbeats 2000000 in
theorem c_spec_l03Canon : ∀ (n : Nat) (v : Value) (t : List Int) (w : World), Rd (RS RI) w [v] t → LevP t → t.length ≤ n → t.length ≤ 1000000 →
    Calls Tryz.prog 111 #[v] w (RetO (RS RI) w (canon t)) := by
  intro n
  induction n with
  | zero => intro v t w h hl hn h13; have := hl.pos; omega
  | succ n ih =>
    intro v t w h hl hn h13
    have hb := c_spec_l03Parts v t w h hl (by omega)
    have HL := Lib.hid hl
    have IH := Lib.hid ih
    have hfew := brs_few hl
    have hbl : (brs t).length ≤ 1000000 := by omega
    clear h hl ih
    go_enter Tryz.func111, Tryz.ntmps111
    go_wp2_with (go_at_call 154; refine hb.mono ?_; rintro e w1 ⟨u, rfl, o1, b1⟩; obtain ⟨oa, cap, rfl, l1, l2⟩ := o1.val)
    clear hb
    have hsz1 := b1.size
    have hO1 : Hid (Own (RS (RS RI)) w.heap.size w1.heap.size w1 [.slice oa (brs t).length cap] (brs t)) := o1
    clear o1
    go_loopw [4, 5] (fun o i wr => ∃ (k : Nat) (ys : List (List Int)), k ≤ (brs t).length ∧ i = .int .i64 k ∧ Hid (ys = sortC cmpD (((brs t).take k).map canon)) ∧ Hid (ys.length = k) ∧ (∃ g cap, o = .slice (some ⟨g, 0, none⟩) ys.length cap) ∧ Hid (Own (RS (RS RI)) w1.heap.size wr.heap.size wr [o] ys) ∧ Below w1.heap.size w1 wr) (fun _ i _ => (brs t).length - (intOf i).toNat)
    case atStart => exact ⟨0, [], Nat.zero_le _, rfl, Lib.hid (by simp [sortC]), Lib.hid rfl, ⟨_, _, rfl⟩, Lib.hid ((Own.empty (R := RS RI) (w := w1) 48 w1.heap.size (Nat.le_refl _)).top _ (by simp)), (Below.refl _ _).alloc (Nat.le_refl _) _⟩
    case round =>
      obtain ⟨k, ys, hk, rfl, hys, Hyl, ⟨g0, cap0, rfl⟩, hown, hbel⟩ := hrel
      have hsz2 := hbel.size
      obtain ⟨wo, hwo⟩ : ∃ wo : World, wo = wr := ⟨_, rfl⟩
      subst hwo
      by_cases hlt : k < (brs t).length
      · have hO2 := hO1.out.below hbel (Nat.le_refl _)
        obtain ⟨g, cap', h0, hv, q1, q2, hg1, hg2, hcell, hel⟩ := hO2.elem k hlt
        simp only [Value.slice.injEq, true_and] at hv
        obtain ⟨rfl, rfl⟩ := hv
        obtain ⟨oi, ci, rfl, _⟩ := hel.val
        have hmem := List.getElem_mem hlt
        have hshort := brs_short HL.out _ hmem
        have hc := IH.out (.slice oi (brs t)[k].length ci) (brs t)[k] wo hel.rd (brs_lev HL.out _ hmem) (by omega) (by omega)
        have hst := sortC_take_succ canon k hlt
        rw [← hys.out] at hst
        have HST := Lib.hid hst
        obtain ⟨x, hx⟩ : ∃ x, x = canon (brs t)[k] := ⟨_, rfl⟩
        rw [← hx] at hc HST
        obtain ⟨xl, hxl⟩ : ∃ xl, xl = (brs t)[k].length := ⟨_, rfl⟩
        rw [← hxl] at hc hcell hshort
        have HX := Lib.hid hx
        clear hst hel hmem hO2 hxl hx
        go_wp2_with (go_at_call 111; refine hc.mono ?_; rintro e w2 ⟨u, rfl, o2, b2⟩; obtain ⟨ou, cu, rfl, lu1, lu2⟩ := o2.val)
        have hown2 := hown.out.below b2 (Nat.le_refl _)
        have HO2 := Lib.hid hown2
        have HP := Lib.hid o2
        have hbel2 := hbel.trans (b2.mono hsz2)
        have hsz3 := b2.size
        clear hown2 o2 hc hcell hown b2
        go_loopw [7] (fun i wr => ∃ (j : Nat), j ≤ ys.length ∧ i = .int .i64 j ∧ Hid (∀ q (h : q < ys.length), q < j → ¬ cmpD x ys[q] < 0) ∧ ∃ n, wr = w2.drewN n) (fun i _ => ys.length - (intOf i).toNat)
        case atStart => exact ⟨0, Nat.zero_le _, rfl, Lib.hid (fun q _ h => by omega), 0, rfl⟩
        case round =>
          obtain ⟨j, hj, rfl, hall, nd, rfl⟩ := hrel
          have HO3 : Hid (Own (RS (RS RI)) w1.heap.size wo.heap.size (w2.drewN nd) [.slice (some ⟨g0, 0, none⟩) ys.length cap0] ys) := HO2.out.of_heap rfl
          have HP3 : Hid (Own (RS RI) wo.heap.size w2.heap.size (w2.drewN nd) [.slice ou x.length cu] x) := HP.out.of_heap rfl
          have hbel3 : Below w1.heap.size w1 (w2.drewN nd) := hbel2.trans (Below.drewN _ _ _)
          have hsz4 : w2.heap.size = (w2.drewN nd).heap.size := rfl
          by_cases hjl : j < ys.length
          · obtain ⟨g', cap', h0, hv, q1', q2', hg1', hg2', hcell, hel⟩ := HO3.out.elem j hjl
            simp only [Value.slice.injEq, true_and] at hv
            obtain ⟨e1, e2⟩ := hv
            simp only [Option.some.injEq, Addr.mk.injEq, and_true] at e1
            subst e1; subst e2
            obtain ⟨oj, cj, rfl, _⟩ := hel.val
            have hls := c_spec_l01Less _ _ ys[j] x (w2.drewN nd) hel.rd HP3.out.rd
            obtain ⟨yl, hyl'⟩ : ∃ yl, yl = ys[j].length := ⟨_, rfl⟩
            rw [← hyl'] at hls hcell
            clear hel hyl'
            by_cases hle : cmpL ys[j] x < 0
            · have hd : decide (cmpL ys[j] x < 0) = true := decide_eq_true hle
              rw [hd] at hls
              have HE : Hid (ins cmpD x ys = ys.take j ++ x :: ys.drop j) := Lib.hid (ins_at hj hall.out (fun _ => hle))
              clear hd hle
              go_wp2_with (first | (go_at_call 155; refine hls.mono ?_; rintro e w' ⟨rfl, nn, rfl⟩) | (at_builtin; refine StopAt (o := ⟨some 46, _, _, _, _, _⟩) ?_))
              refine Stop.go ?_
              have HO4 : Own (RS (RS RI)) w1.heap.size wo.heap.size (w2.drewN (nd + nn)) [.slice (some ⟨g0, 0, none⟩) ys.length cap0] ys := HO2.out.of_heap rfl
              have HP4 : Own (RS RI) wo.heap.size w2.heap.size (w2.drewN (nd + nn)) [.slice ou x.length cu] x := HP.out.of_heap rfl
              have hbel4 : Below w1.heap.size w1 (w2.drewN (nd + nn)) := hbel2.trans (Below.drewN _ _ _)
              have hsz5 : wo.heap.size ≤ (w2.drewN (nd + nn)).heap.size := hsz3
              have hle4 := HO4.val
              obtain ⟨d1, d2, t1l, t2l, t1, t2, t3, hcl, hmk⟩ := HO4.insRow (R := RS RI) rfl hsz5 hsz2 HP4 j hj
              rw [← HE.out, ← HST.out] at hmk
              obtain ⟨_, _, ev, le4, _⟩ := hle4
              simp only [Value.slice.injEq, true_and] at ev
              obtain ⟨rfl, rfl⟩ := ev
              have hyb : ys.length ≤ 1000000 := by rw [Hyl.out]; omega
              have T1L := Lib.hid t1l
              have T2L := Lib.hid t2l
              have ELN : 1 + (ys.length - j) = 1 + d2.length := by omega
              clear hls hcell HO3 HP3 hbel3 hsz4 t1l t2l

              -- [x], then what stands behind
              refine wpList_appendS rfl _ _ 50 rfl 48 (.slice none 0 0) 1 24 tI64S (.slice (some ⟨(w2.drewN (nd + nn)).heap.size, 0, none⟩) 1 1) 1 [(.slice ou x.length cu)] (some (w2.drewN (nd + nn)).heap.size) rfl (by simpa using Row.lit (w2.drewN (nd + nn)) #[(.slice ou x.length cu)] 48 1 1 (by decide) (by simp)) _ _ _ d2 rfl (by have := T2L.out; omega) (by intro h; cases h) (by intro a ha i u hi; cases ha; rw [Addr.add_lit]; exact (hcl ((w2.drewN (nd + nn)).alloc _) ((Below.refl _ _).alloc (Nat.le_refl _) _)).2 i u hi) t2 (by have := T2L.out; omega) (by unfold maxLen; omega) ?_
              intro vA wA ogA happA
              rw [ELN] at happA
              obtain ⟨oA, capA, rfl, pA1, pA2⟩ := happA.1.val
              unfold maxLen at pA2
              have lowA := happA.low (B := (w2.drewN (nd + nn)).heap.size) (by simp) (fun g hg => by cases hg; exact Nat.le_refl _)
              have belA : Below (w2.drewN (nd + nn)).heap.size (w2.drewN (nd + nn)) wA := ((Below.refl _ _).alloc (Nat.le_refl _) _).trans lowA.2
              have sA := belA.size
              have HA := Lib.hid happA.1
              have HogA := Lib.hid lowA.1
              have CA := (hcl wA belA).1
              clear happA lowA ELN
              -- what stands ahead
              go_wp2_with (at_builtin; refine StopAt (o := ⟨some 51, _, _, _, _, _⟩) ?_)
              refine Stop.go ?_
              refine wpList_appendS rfl _ _ 50 rfl 48 (.slice none 0 0) 1 24 tI64S (.slice (some ⟨wA.heap.size, 0, none⟩) 0 0) 0 [] (some wA.heap.size) rfl (by simpa using Row.lit wA #[] 48 1 0 (by decide) (by simp)) (some ⟨g0, 0, none⟩) j _ d1 rfl (by have := T1L.out; omega) (fun h => by cases h) (by intro a ha i u hi; cases ha; rw [Addr.add_lit, Nat.zero_add]; have := (hcl (wA.alloc (.cells #[] 48)) (belA.alloc sA _)).1 i u hi; exact this) t1 (by have := T1L.out; omega) (by unfold maxLen; omega) ?_
              intro vB wB ogB happB
              rw [Nat.zero_add, List.nil_append] at happB
              obtain ⟨oB, capB, rfl, pB1, pB2⟩ := happB.1.val
              unfold maxLen at pB2
              have lowB := happB.low (B := (w2.drewN (nd + nn)).heap.size) (Nat.le_trans sA (by simp)) (fun g hg => by cases hg; exact sA)
              have lowB2 := happB.low (B := wA.heap.size) (by simp) (fun g hg => by cases hg; exact Nat.le_refl _)
              have belB2 : Below wA.heap.size wA wB := ((Below.refl _ _).alloc (Nat.le_refl _) _).trans lowB2.2
              have belB : Below (w2.drewN (nd + nn)).heap.size (w2.drewN (nd + nn)) wB := belA.trans (belB2.mono sA)
              have sB := belB.size
              have hrA : Row wB (.slice oA (1 + d2.length) capA) 1 (1 + d2.length) ([(.slice ou x.length cu)] ++ d2) ogA := HA.out.frame (fun g hg => belB2.block g (HA.out.lt g hg))
              obtain ⟨gA, hgA⟩ := hrA.some_of (j := 0) (by omega)
              subst hgA
              obtain ⟨oA', cA', eA, _, _, _, eA2⟩ := hrA.value
              simp only [Value.slice.injEq, true_and] at eA
              obtain ⟨rfl, rfl⟩ := eA
              simp only [Option.map_some] at eA2
              subst eA2
              have HRA := Lib.hid hrA
              have HB := Lib.hid happB.1
              have HogB := Lib.hid lowB.1
              clear hrA happB lowB lowB2 CA
              go_wp2_with (at_builtin; refine StopAt (o := ⟨some 53, _, _, _, _, _⟩) ?_)
              refine Stop.go ?_
              refine wpList_appendS rfl _ _ 50 rfl 48 (.slice none 0 0) 1 24 tI64S (.slice oB j capB) j d1 ogB rfl HB.out (some ⟨gA, 0, none⟩) _ _ ([(.slice ou x.length cu)] ++ d2) rfl (by simp <;> omega) (fun h => by cases h) (by intro a ha i u hi; cases ha; rw [Addr.add_lit, Nat.zero_add]; exact HRA.out.cells i u hi) (fun u hu => (List.mem_append.1 hu).elim (fun h => by simp at h; subst h; exact t3) (t2 u)) (by have := T2L.out; omega) (by have := T2L.out; unfold maxLen; omega) ?_
              intro vC wC ogC happC
              have lowC := happC.low (B := (w2.drewN (nd + nn)).heap.size) sB HogB.out
              have belC : Below (w2.drewN (nd + nn)).heap.size (w2.drewN (nd + nn)) wC := belB.trans lowC.2
              have hrC := happC.1
              have eN : j + (1 + d2.length) = ys.length + 1 := by have := T1L.out; have := T2L.out; omega
              rw [eN, List.singleton_append] at hrC
              have hfin := hmk wC vC ogC belC hrC lowC.1
              obtain ⟨gC, hgC⟩ := hrC.some_of (j := 0) (by omega)
              subst hgC
              obtain ⟨capC, hvC, _, _⟩ := hrC.slice
              subst hvC
              have HFIN := Lib.hid hfin
              clear hfin hrC happC lowC HA HB HRA HogA HogB eN
              have hfl : (sortC cmpD (((brs t).take (k + 1)).map canon)).length = ys.length + 1 := by rw [sortC_length]; simp; rw [Hyl.out]; omega
              obtain ⟨zs, hzs⟩ : ∃ zs, zs = sortC cmpD (((brs t).take (k + 1)).map canon) := ⟨_, rfl⟩
              rw [← hzs] at HFIN hfl
              have hkz : zs.length = k + 1 := by rw [hfl, Hyl.out]
              rw [← hfl] at HFIN
              rw [← hfl]
              have HZ := Lib.hid hzs
              have HKZ := Lib.hid hkz
              clear hzs hfl hkz
              go_wp2_with fail
              go_roundw
              case rel => exact ⟨k + 1, zs, by omega, by go_num, HZ, HKZ, ⟨_, _, rfl⟩, HFIN, hbel4.trans (belC.mono (by omega))⟩
              case measure => simp [intOf]; omega
            · have hd : decide (cmpL ys[j] x < 0) = false := decide_eq_false hle
              rw [hd] at hls
              have HN : Hid (¬ cmpD x ys[j] < 0) := Lib.hid hle
              clear hd hle
              go_wp2_with (go_at_call 155; refine hls.mono ?_; rintro e w' ⟨rfl, nn, rfl⟩)
              go_roundw
              case rel =>
                refine ⟨j + 1, by omega, by go_num, Lib.hid (fun q h hq => ?_), (by first | exact drewN1 _ _ | exact drewN2 _ _ _)⟩
                by_cases hqj : q = j
                · subst hqj; have := HN.out; omega
                · have := hall.out q h (by omega); omega
              case measure => simp [intOf]; omega
          · obtain rfl : j = ys.length := by omega
            have HE : Hid (ins cmpD x ys = ys.take ys.length ++ x :: ys.drop ys.length) := Lib.hid (ins_at hj hall.out (fun h => by omega))
            go_wp2_with (at_builtin; refine StopAt (o := ⟨some 46, _, _, _, _, _⟩) ?_)
            all_goals
              refine Stop.go ?_
              have HO4 : Own (RS (RS RI)) w1.heap.size wo.heap.size (w2.drewN nd) [.slice (some ⟨g0, 0, none⟩) ys.length cap0] ys := HO2.out.of_heap rfl
              have HP4 : Own (RS RI) wo.heap.size w2.heap.size (w2.drewN nd) [.slice ou x.length cu] x := HP.out.of_heap rfl
              have hbel4 : Below w1.heap.size w1 (w2.drewN nd) := hbel2.trans (Below.drewN _ _ _)
              have hsz5 : wo.heap.size ≤ (w2.drewN nd).heap.size := hsz3
              have hle4 := HO4.val
              obtain ⟨d1, d2, t1l, t2l, t1, t2, t3, hcl, hmk⟩ := HO4.insRow (R := RS RI) rfl hsz5 hsz2 HP4 ys.length hj
              rw [← HE.out, ← HST.out] at hmk
              obtain ⟨_, _, ev, le4, _⟩ := hle4
              simp only [Value.slice.injEq, true_and] at ev
              obtain ⟨rfl, rfl⟩ := ev
              have hyb : ys.length ≤ 1000000 := by rw [Hyl.out]; omega
              have T1L := Lib.hid t1l
              have T2L := Lib.hid t2l
              have hd2 : d2 = [] := List.eq_nil_of_length_eq_zero (by omega)
              subst hd2
              clear HO3 HP3 hbel3 hsz4 t1l t2l

              -- [x], then what stands behind
              refine wpList_appendS rfl _ _ 50 rfl 48 (.slice none 0 0) 1 24 tI64S (.slice (some ⟨(w2.drewN nd).heap.size, 0, none⟩) 1 1) 1 [(.slice ou x.length cu)] (some (w2.drewN nd).heap.size) rfl (by simpa using Row.lit (w2.drewN nd) #[(.slice ou x.length cu)] 48 1 1 (by decide) (by simp)) _ _ _ ([] : List Value) rfl (by simp) (fun _ => rfl) (by intro a ha i u hi; simp at hi) t2 (by have := T2L.out; omega) (by unfold maxLen; omega) ?_
              intro vA wA ogA happA
              rw [show 1 + (0 : Nat) = 1 + ([] : List Value).length by rfl] at happA
              obtain ⟨oA, capA, rfl, pA1, pA2⟩ := happA.1.val
              unfold maxLen at pA2
              have lowA := happA.low (B := (w2.drewN nd).heap.size) (by simp) (fun g hg => by cases hg; exact Nat.le_refl _)
              have belA : Below (w2.drewN nd).heap.size (w2.drewN nd) wA := ((Below.refl _ _).alloc (Nat.le_refl _) _).trans lowA.2
              have sA := belA.size
              have HA := Lib.hid happA.1
              have HogA := Lib.hid lowA.1
              have CA := (hcl wA belA).1
              clear happA lowA
              -- what stands ahead
              go_wp2_with (at_builtin; refine StopAt (o := ⟨some 51, _, _, _, _, _⟩) ?_)
              refine Stop.go ?_
              refine wpList_appendS rfl _ _ 50 rfl 48 (.slice none 0 0) 1 24 tI64S (.slice (some ⟨wA.heap.size, 0, none⟩) 0 0) 0 [] (some wA.heap.size) rfl (by simpa using Row.lit wA #[] 48 1 0 (by decide) (by simp)) (some ⟨g0, 0, none⟩) ys.length _ d1 rfl (by have := T1L.out; omega) (fun h => by cases h) (by intro a ha i u hi; cases ha; rw [Addr.add_lit, Nat.zero_add]; have := (hcl (wA.alloc (.cells #[] 48)) (belA.alloc sA _)).1 i u hi; exact this) t1 (by have := T1L.out; omega) (by unfold maxLen; omega) ?_
              intro vB wB ogB happB
              rw [Nat.zero_add, List.nil_append] at happB
              obtain ⟨oB, capB, rfl, pB1, pB2⟩ := happB.1.val
              unfold maxLen at pB2
              have lowB := happB.low (B := (w2.drewN nd).heap.size) (Nat.le_trans sA (by simp)) (fun g hg => by cases hg; exact sA)
              have lowB2 := happB.low (B := wA.heap.size) (by simp) (fun g hg => by cases hg; exact Nat.le_refl _)
              have belB2 : Below wA.heap.size wA wB := ((Below.refl _ _).alloc (Nat.le_refl _) _).trans lowB2.2
              have belB : Below (w2.drewN nd).heap.size (w2.drewN nd) wB := belA.trans (belB2.mono sA)
              have sB := belB.size
              have hrA : Row wB (.slice oA (1 + ([] : List Value).length) capA) 1 (1 + ([] : List Value).length) ([(.slice ou x.length cu)] ++ ([] : List Value)) ogA := HA.out.frame (fun g hg => belB2.block g (HA.out.lt g hg))
              obtain ⟨gA, hgA⟩ := hrA.some_of (j := 0) (by omega)
              subst hgA
              obtain ⟨oA', cA', eA, _, _, _, eA2⟩ := hrA.value
              simp only [Value.slice.injEq, true_and] at eA
              obtain ⟨rfl, rfl⟩ := eA
              simp only [Option.map_some] at eA2
              subst eA2
              have HRA := Lib.hid hrA
              have HB := Lib.hid happB.1
              have HogB := Lib.hid lowB.1
              clear hrA happB lowB lowB2 CA
              go_wp2_with (at_builtin; refine StopAt (o := ⟨some 53, _, _, _, _, _⟩) ?_)
              refine Stop.go ?_
              refine wpList_appendS rfl _ _ 50 rfl 48 (.slice none 0 0) 1 24 tI64S (.slice oB ys.length capB) ys.length d1 ogB rfl HB.out (some ⟨gA, 0, none⟩) _ _ ([(.slice ou x.length cu)] ++ ([] : List Value)) rfl (by simp <;> omega) (fun h => by cases h) (by intro a ha i u hi; cases ha; rw [Addr.add_lit, Nat.zero_add]; exact HRA.out.cells i u hi) (fun u hu => (List.mem_append.1 hu).elim (fun h => by simp at h; subst h; exact t3) (t2 u)) (by have := T2L.out; omega) (by have := T2L.out; unfold maxLen; omega) ?_
              intro vC wC ogC happC
              have lowC := happC.low (B := (w2.drewN nd).heap.size) sB HogB.out
              have belC : Below (w2.drewN nd).heap.size (w2.drewN nd) wC := belB.trans lowC.2
              have hrC := happC.1
              have eN : ys.length + (1) = ys.length + 1 := by have := T1L.out; have := T2L.out; omega
              rw [eN, List.singleton_append] at hrC
              have hfin := hmk wC vC ogC belC hrC lowC.1
              obtain ⟨gC, hgC⟩ := hrC.some_of (j := 0) (by omega)
              subst hgC
              obtain ⟨capC, hvC, _, _⟩ := hrC.slice
              subst hvC
              have HFIN := Lib.hid hfin
              clear hfin hrC happC lowC HA HB HRA HogA HogB eN
              have hfl : (sortC cmpD (((brs t).take (k + 1)).map canon)).length = ys.length + 1 := by rw [sortC_length]; simp; rw [Hyl.out]; omega
              obtain ⟨zs, hzs⟩ : ∃ zs, zs = sortC cmpD (((brs t).take (k + 1)).map canon) := ⟨_, rfl⟩
              rw [← hzs] at HFIN hfl
              have hkz : zs.length = k + 1 := by rw [hfl, Hyl.out]
              rw [← hfl] at HFIN
              rw [← hfl]
              have HZ := Lib.hid hzs
              have HKZ := Lib.hid hkz
              clear hzs hfl hkz
              go_wp2_with fail
              go_roundw
              case rel => exact ⟨k + 1, zs, by omega, by go_num, HZ, HKZ, ⟨_, _, rfl⟩, HFIN, hbel4.trans (belC.mono (by omega))⟩
              case measure => simp [intOf]; omega
      · have hfin : (brs t).take k = brs t := List.take_of_length_le (by omega)
        have hyc : rootOn ys = canon t := by rw [canon_eq HL.out, hys.out, hfin]
        have hylev : ∀ b ∈ ys, LevP b := by
          intro b hb
          rw [hys.out, sortC_mem, List.mem_map] at hb
          obtain ⟨c, hc, rfl⟩ := hb
          exact canon_lev (brs_lev HL.out c (List.mem_of_mem_take hc))
        have hsum : sumLen ys ≤ 1000000 := by
          have := rootOn_len ys
          rw [hyc, canon_len HL.out] at this
          omega
        have hyb : ys.length ≤ 1000000 := by rw [Hyl.out]; omega
        have HYC := Lib.hid hyc
        have HS : Hid (Small ys) := Lib.hid (Small.of_lev hylev (by omega))
        obtain ⟨oa9, cap9, L⟩ := hown.out.rd.lists
        have hval := L.val
        simp only [Value.slice.injEq, true_and] at hval
        obtain ⟨rfl, rfl⟩ := hval
        have HLs := Lib.hid L
        have hkb : ¬ ((k : Int) < ((brs t).length : Int)) := by omega
        clear hfin hyc hylev L hown hlt
        go_wp2_with fail
        go_loopw [9, 10] (fun o i wr => ∃ (q : Nat) (r : List Int), q ≤ ys.length ∧ i = .int .i64 q ∧ Hid (r = rootOn (ys.take q)) ∧ (∃ oa cap, o = .slice oa r.length cap) ∧ Hid (Own (RS RI) wo.heap.size wr.heap.size wr [o] r) ∧ Below wo.heap.size wo wr) (fun _ i _ => ys.length - (intOf i).toNat)
        case atStart => exact ⟨0, [0], Nat.zero_le _, rfl, Lib.hid rfl, ⟨_, _, rfl⟩, Lib.hid ((Own.lit1 (w := wo) 2 wo.heap.size 0 (by unfold In64; omega) (Nat.le_refl _)).top _ (by simp)), (Below.refl _ _).alloc (Nat.le_refl _) _⟩
        case round =>
          obtain ⟨q, r, hq, rfl, hr, ⟨o1, cap1, rfl⟩, hown, hbelq⟩ := hrel
          have hszq := hbelq.size
          by_cases hlt : q < ys.length
          · obtain ⟨b, off, e9, hb, hc⟩ := HLs.out.get hlt
            simp only [Option.some.injEq, Addr.mk.injEq, and_true] at e9
            obtain ⟨rfl, rfl⟩ := e9
            obtain ⟨oi, ci, g1, hrd, q1, q2⟩ := hc q hlt
            have g1' : wo.cell? ⟨g0, q, none⟩ = some (.slice oi ys[q].length ci) := by rw [← g1, Nat.zero_add]
            obtain ⟨x, hx⟩ : ∃ x, x = ys[q] := ⟨_, rfl⟩
            have hsm : ∀ y ∈ x, 0 ≤ y ∧ y ≤ 1000000000 := by rw [hx]; exact HS.out _ (List.getElem_mem hlt)
            have hlen := sumLen_take_get ys q hlt
            have hrl := rootOn_len (ys.take q)
            have hnx := rootOn_take_succ ys q hlt
            rw [← hx] at g1' hrd q1 hlen hnx
            obtain ⟨oa2, c2, I⟩ := hrd.ints
            rw [← hr.out] at hrl hnx
            have hval := I.val
            simp only [Value.slice.injEq, true_and] at hval
            obtain ⟨rfl, rfl⟩ := hval
            have HI := Lib.hid I
            have HN := Lib.hid hnx
            have hrb : r.length + x.length ≤ 1000000001 := by omega
            clear hc g1 hx hrd I hnx hrl hlen
            go_wp2_with fail
            go_loopw [9, 11] (fun o i wr => ∃ (m : Nat) (z : List Int), m ≤ x.length ∧ i = .int .i64 m ∧ Hid (z = r ++ (x.take m).map (· + 1)) ∧ (∃ oa cap, o = .slice oa z.length cap) ∧ Hid (Own (RS RI) wo.heap.size wr.heap.size wr [o] z) ∧ Below wo.heap.size wo wr) (fun _ i _ => x.length - (intOf i).toNat)
            case atStart => exact ⟨0, r, Nat.zero_le _, rfl, Lib.hid (by simp), ⟨o1, cap1, rfl⟩, hown, hbelq⟩
            case round =>
              obtain ⟨m, z, hm, rfl, hz, ⟨o2, cap2, rfl⟩, hown2, hbel2⟩ := hrel
              have hsz2' := hbel2.size
              have g2 : wr.cell? ⟨g0, q, none⟩ = some (.slice oi x.length ci) := (hbel2.cell (p := ⟨g0, q, none⟩) hb).trans g1'
              by_cases hlt2 : m < x.length
              · obtain ⟨b2, off2, rfl, hb2, hc2⟩ := HI.out.get hlt2
                have g3 : wr.cell? ⟨b2, off2 + m, none⟩ = some (.int .i64 x[m]) := (hbel2.cell (p := ⟨b2, off2 + m, none⟩) hb2).trans (hc2 m hlt2)
                have hy := hsm x[m] (List.getElem_mem hlt2)
                obtain ⟨y1, y2⟩ := hy
                have hms := map_take_snoc x m hlt2
                obtain ⟨y, hy⟩ : ∃ y, y = x[m] := ⟨_, rfl⟩
                rw [← hy] at g3 y1 y2 hms
                have hll : z.length ≤ 1000000002 := by rw [hz.out]; simp; omega
                have hw1 : IntKind.i64.wrap (y + 1) = y + 1 := IntWalk.i64_in _ (by omega)
                have HM := Lib.hid hms
                clear hc2 hy hms hsm
                go_wp2_with (at_builtin; refine StopAt (o := ⟨some 80, _, _, _, _, _⟩) ?_)
                refine Stop.go ?_
                refine wpList_snoc (w := wr) (R := RI) rfl _ _ 48 rfl 2 (.int .i64 0) 1 8 tI64 rfl (.slice o2 z.length cap2) z (y + 1) [.int .i64 (y + 1)] wo.heap.size wr.heap.size wr.heap.size rfl hown2.out (Own.int ⟨by omega, by omega⟩) (Nat.le_refl _) hsz2' 2 rfl rfl (by omega) (by omega) ?_
                intro oa1 cap1 w1' hown1 c1a c1b hbel1
                have hb3 := hbel2.trans hbel1
                obtain ⟨z', hz'⟩ : ∃ z', z' = z ++ [y + 1] := ⟨_, rfl⟩
                have HZ : Hid (z' = r ++ (x.take (m + 1)).map (· + 1)) := Lib.hid (by rw [hz', hz.out, HM.out, List.append_assoc])
                have e1 : z.length + 1 = z'.length := by rw [hz']; simp
                rw [← hz', e1] at hown1
                have HO1' : Hid (Own (RS RI) wo.heap.size w1'.heap.size w1' [.slice oa1 z'.length cap1] z') := hown1
                rw [e1]
                clear hown1 hbel1 hown2 hown e1 hz'
                go_wp2_with fail
                go_roundw
                case rel => exact ⟨m + 1, z', by omega, by go_num, HZ, ⟨_, _, rfl⟩, HO1', hb3⟩
                case measure => simp [intOf]; omega
              · have HZ : Hid (z = rootOn (ys.take (q + 1))) := Lib.hid (by rw [HN.out, hz.out, List.take_of_length_le (by omega)])
                go_wp2_with fail
                go_roundw
                case rel => exact ⟨q + 1, z, by omega, by go_num, HZ, ⟨_, _, rfl⟩, hown2, hbel2⟩
                case measure => simp [intOf]; omega
          · have hfin : ys.take q = ys := List.take_of_length_le (by omega)
            have HF : Hid (r = canon t) := Lib.hid (by rw [hr.out, hfin, HYC.out])
            clear hfin
            go_wp2_with fail
            go_ret
            exact ⟨_, rfl, by rw [← HF.out]; exact hown.out.mono (Nat.le_trans hsz1 hsz2) (Nat.le_refl _), b1.trans ((hbel.trans (hbelq.mono hsz2)).mono hsz1)⟩
end Go.Proofs.YtacbkjmkjpjhoaaGreat
