/- Lemmas (8). -/
import Derived.BigQuiet
import Derived.Ground.SlsfProg
import Derived.Shelf.SlSortCmp.NoneTotal
import Derived.Shelf.SlSortCmp.WholeK
import Derived.Test.YtfhmonacgmakbaaGreatZA0
import Derived.Test.YtfhmonacgmakbaaGreatZA4
import Derived.Test.YtfhmonacgmakbaaGreatZA6
import Derived.Test.YtfhmonacgmakbaaGreatZA7
set_option linter.unusedSimpArgs false
set_option linter.unusedVariables false
namespace Go.Proofs.YtfhmonacgmakbaaGreat
open Go.RowKit
theorem sortC_take_succ' {c : List Int → List Int → Int} {t : List (List Int)} (k : Nat) (h : k < t.length) : sortC c (t.take (k + 1)) = ins c t[k] (sortC c (t.take k)) := by
  rw [List.take_succ_eq_append_getElem h, sortC_snoc]
theorem own_step {W : World} {ops : Array Oper} {o : Oper} {a : Act} {K : Act → World → Prop} {Q : Exit → Act → World → Prop} {E : Prop} (hgd : o.guard = none) (args : Array Operand) (ts : Array TypeId)
    (ho : o.op = .call { callee := .value (.func 155), args := args, argTypes := ts }) (v : Value) (x : List Int) (hv : args.map a.eval = #[v]) (wb : World) (hW : W.heap = wb.heap) (hr : Rd (RS RI) wb [v] x) (hxl : x.length ≤ 1000000000)
    (h : ∀ ou cu w2, Own (RS RI) wb.heap.size w2.heap.size w2 [.slice ou x.length cu] x → Below wb.heap.size W w2 → wb.heap.size ≤ w2.heap.size → K (a.put o.dst (.slice ou x.length cu)) w2) :
    if Region.wanted o (yielded ops a.tmps) = true then Oper.wp Tryz.prog o a W K Q else E := by
  refine step_call hgd 155 args ts ho (enters (P := Tryz.prog) (f := 155) Tryz.func155 (by kernel_rfl) rfl) #[v] hv ?_
  refine (c_spec_l01Own v x W (hr.of_heap hW) hxl).mono ?_
  rintro e w2 ⟨u, rfl, o2, b2⟩
  obtain ⟨ou, cu, rfl, _⟩ := o2.val
  rw [hW] at o2 b2
  exact ⟨_, rfl, h ou cu w2 o2 b2 (by have := b2.size; rw [hW] at this; exact this)⟩
set_option maxRecDepth 100000 in
set_option maxHeartbeats 4000000 in
theorem c_spec_l03Sort (v : Value) (bs : List (List Int)) (w : World) (h : Rd (RS (RS RI)) w [v] bs) (hsz : bs.length ≤ 1000000) (hsl : ∀ b ∈ bs, b.length ≤ 1000000000) :
    Calls Tryz.prog 147 #[v] w (RetO (RS (RS RI)) w (forest bs)) := by
  obtain ⟨oa, cap, L⟩ := h.lists
  obtain rfl := L.val
  have m1 := L.le; have m2 := L.capLe
  have HL := Lib.hid L
  have HS := Lib.hid hsl
  have EGL := Lib.hid (enters (P := Tryz.prog) (f := 155) Tryz.func155 (by kernel_rfl) rfl)
  clear L h hsl
  go_enter Tryz.func147, Tryz.ntmps147
  go_wp2_with fail
  go_loopw [3, 4] (fun o i wr => ∃ (k : Nat) (ys : List (List Int)), k ≤ bs.length ∧ i = .int .i64 k ∧ Hid (ys = sortC cmpT (bs.take k)) ∧ Hid (ys.length = k) ∧ (∃ g cap, o = .slice (some ⟨g, 0, none⟩) ys.length cap) ∧ Hid (Own (RS (RS RI)) w.heap.size wr.heap.size wr [o] ys) ∧ Below w.heap.size w wr) (fun _ i _ => bs.length - (intOf i).toNat)
  case atStart => exact ⟨0, [], Nat.zero_le _, rfl, Lib.hid (by simp [sortC]), Lib.hid rfl, ⟨_, _, rfl⟩, Lib.hid ((Own.empty (R := RS RI) (w := w) 22 w.heap.size (Nat.le_refl _)).top _ (by simp)), (Below.refl _ _).alloc (Nat.le_refl _) _⟩
  case round =>
    obtain ⟨k, ys, hk, rfl, hys, Hyl, ⟨g0, cap0, rfl⟩, hown, hbel⟩ := hrel
    have hsz2 := hbel.size
    obtain ⟨wo, hwo⟩ : ∃ wo : World, wo = wr := ⟨_, rfl⟩
    subst hwo
    by_cases hlt : k < bs.length
    · obtain ⟨b, off, rfl, hb, hc⟩ := HL.out.get hlt
      obtain ⟨oi, ci, g1, hrd, q1, q2⟩ := hc k hlt
      have g2 : wo.cell? ⟨b, off + k, none⟩ = some (.slice oi bs[k].length ci) := (hbel.cell (p := ⟨b, off + k, none⟩) hb).trans g1
      have hst := sortC_take_succ' (c := cmpT) k hlt
      rw [← hys.out] at hst
      obtain ⟨x, hx⟩ : ∃ x, x = bs[k] := ⟨_, rfl⟩
      have hxl : x.length ≤ 1000000000 := by rw [hx]; exact HS.out _ (List.getElem_mem hlt)
      rw [← hx] at g2 hrd q1 hst
      have HST := Lib.hid hst
      have HR := Lib.hid (hrd.below hbel (Nat.le_refl _))
      have HOO : Hid (∀ (W' w2 : World), W'.heap = wo.heap → Below wo.heap.size W' w2 → Own (RS (RS RI)) w.heap.size wo.heap.size w2 [.slice (some ⟨g0, 0, none⟩) ys.length cap0] ys) := Lib.hid (fun W' w2 e b => (hown.out.of_heap e).below b (Nat.le_refl _))
      have ik1 : (0 : Int) ≤ (k : Int) := by omega
      have ik2 : (k : Int) < (bs.length : Int) := by omega
      clear hst hc g1 hx hrd
      go_wp2_with fail
      go_loopw [5] (fun i wr => ∃ (j : Nat), j ≤ ys.length ∧ i = .int .i64 j ∧ Hid (∀ q (h : q < ys.length), q < j → ¬ cmpT x ys[q] < 0) ∧ ∃ n, wr = wo.drewN n) (fun i _ => ys.length - (intOf i).toNat)
      case atStart => exact ⟨0, Nat.zero_le _, rfl, Lib.hid (fun q _ h => by omega), 0, rfl⟩
      case round =>
        obtain ⟨j, hj, rfl, hall, nd, rfl⟩ := hrel
        have HO3 : Hid (Own (RS (RS RI)) w.heap.size wo.heap.size (wo.drewN nd) [.slice (some ⟨g0, 0, none⟩) ys.length cap0] ys) := hown.out.of_heap rfl
        have g3 : (wo.drewN nd).cell? ⟨b, off + k, none⟩ = some (.slice oi x.length ci) := g2
        have hyb : ys.length ≤ 1000000 := by rw [Hyl.out]; omega
        have hle4 := hown.out.val
        obtain ⟨_, _, ev, le4, _⟩ := hle4
        simp only [Value.slice.injEq, true_and] at ev
        obtain ⟨rfl, rfl⟩ := ev
        by_cases hjl : j < ys.length
        · obtain ⟨g', cap', h0, hv, q1', q2', hg1', hg2', hcell, hel⟩ := HO3.out.elem j hjl
          simp only [Value.slice.injEq, true_and] at hv
          obtain ⟨e1, e2⟩ := hv
          simp only [Option.some.injEq, Addr.mk.injEq, and_true] at e1
          subst e1; subst e2
          obtain ⟨oj, cj, rfl, _⟩ := hel.val
          have hls : ∀ a, Calls Tryz.prog 100 #[.slice oi x.length ci, .slice oj ys[j].length cj] (wo.drewN (nd + a)) (RetQ (wo.drewN (nd + a)) (.bool (decide (cmpT x ys[j] < 0)))) := fun a => c_spec_l03Before _ _ x ys[j] _ (HR.out.of_heap rfl) (hel.rd.of_heap rfl)
          obtain ⟨yl, hyl'⟩ : ∃ yl, yl = ys[j].length := ⟨_, rfl⟩
          rw [← hyl'] at hls hcell
          replace hcell : wo.cell? ⟨g0, j, none⟩ = some (.slice oj yl cj) := hcell
          have ij1 : (0 : Int) ≤ (j : Int) := by omega
          have ij2 : (j : Int) < (ys.length : Int) := by omega
          have ij3 : decide ((j : Int) < (ys.length : Int)) = true := decide_eq_true ij2
          clear hel hyl'
          by_cases hle : cmpT x ys[j] < 0
          · have hd : decide (cmpT x ys[j] < 0) = true := decide_eq_true hle
            rw [hd] at hls
            have HLS := Lib.hid hls
            have HE : Hid (ins cmpT x ys = ys.take j ++ x :: ys.drop j) := Lib.hid (ins_at hj hall.out (fun _ => hle))
            clear hd hle hls
            go_wp2_with fail
            go_quiet ((go_at_call 100; exact Calls.qQ' (HLS.out _)))
            clear HLS hcell
            have hcj : ¬ cap0 = j := by omega
            go_wp2_with fail
            go_region_law (first
              | (refine own_step rfl _ _ rfl (.slice oi x.length ci) x (by simp [Act.eval]) wo (by rfl) HR.out hxl ?_; intro ou cu w2 o2 b2 hsz5; have HO4 := HOO.out _ _ (by rfl) b2; obtain ⟨d1, d2, t1l, t2l, t1, t2, t3, hcl, hmk⟩ := HO4.insRow (R := RS RI) rfl hsz5 hsz2 o2 j hj; rw [← HE.out, ← HST.out] at hmk; have T1L := Lib.hid t1l; have T2L := Lib.hid t2l; have hbel4 : Below w.heap.size w w2 := (hbel.trans (Below.drewN _ _ _)).trans (b2.mono hsz2); clear t1l t2l o2 HO4)
              | (refine step_appendS rfl _ _ 29 rfl 22 (.slice none 0 0) 1 24 tI64S (.slice (some ⟨w2.heap.size, 0, none⟩) 1 1) 1 [.slice ou x.length cu] (some w2.heap.size) rfl (by simpa using Row.lit w2 #[.slice ou x.length cu] 22 1 1 (by decide) (by simp)) _ _ _ d2 rfl (by have := T2L.out; omega) (by intro h; cases h) (by intro a ha i u hi; cases ha; rw [Addr.add_lit]; exact (hcl (w2.alloc _) ((Below.refl _ _).alloc (Nat.le_refl _) _)).2 i u hi) t2 (by have := T2L.out; omega) (by have := T2L.out; unfold maxLen; omega) ?_; intro vA wA ogA happA))
            all_goals
              replace happA : Appended (w2.alloc (.cells #[.slice ou x.length cu] 22)) wA vA 1 (1 + d2.length) ([.slice ou x.length cu] ++ d2) (some w2.heap.size) ogA := by have e := T2L.out; first | exact happA | (rw [e]; simpa using happA)
              obtain ⟨oA, capA, rfl, pA1, pA2⟩ := happA.1.val
              unfold maxLen at pA2
              have lowA := happA.low (B := (w2).heap.size) (by simp) (fun g hg => by cases hg; exact Nat.le_refl _)
              have belA : Below (w2).heap.size (w2) wA := ((Below.refl _ _).alloc (Nat.le_refl _) _).trans lowA.2
              have sA := belA.size
              have HA := Lib.hid happA.1
              have HogA := Lib.hid lowA.1
              have CA := (hcl wA belA).1
              clear happA lowA
              go_wp2_with (at_builtin; refine StopAt (o := ⟨some 46, _, _, _, _, _⟩) ?_)
              refine Stop.go ?_
              refine wpList_appendS rfl _ _ 29 rfl 22 (.slice none 0 0) 1 24 tI64S (.slice (some ⟨wA.heap.size, 0, none⟩) 0 0) 0 [] (some wA.heap.size) rfl (by simpa using Row.lit wA #[] 22 1 0 (by decide) (by simp)) (some ⟨g0, 0, none⟩) j _ d1 rfl (by have := T1L.out; omega) (fun h => by cases h) (by intro a ha i u hi; cases ha; rw [Addr.add_lit, Nat.zero_add]; have := (hcl (wA.alloc (.cells #[] 22)) (belA.alloc sA _)).1 i u hi; exact this) t1 (by have := T1L.out; omega) (by unfold maxLen; omega) ?_
              intro vB wB ogB happB
              rw [Nat.zero_add, List.nil_append] at happB
              obtain ⟨oB, capB, rfl, pB1, pB2⟩ := happB.1.val
              unfold maxLen at pB2
              have lowB := happB.low (B := (w2).heap.size) (Nat.le_trans sA (by simp)) (fun g hg => by cases hg; exact sA)
              have lowB2 := happB.low (B := wA.heap.size) (by simp) (fun g hg => by cases hg; exact Nat.le_refl _)
              have belB2 : Below wA.heap.size wA wB := ((Below.refl _ _).alloc (Nat.le_refl _) _).trans lowB2.2
              have belB : Below (w2).heap.size (w2) wB := belA.trans (belB2.mono sA)
              have sB := belB.size
              have hrA : Row wB (.slice oA (1 + d2.length) capA) 1 (1 + d2.length) ([(.slice ou x.length cu)] ++ d2) ogA := HA.out.frame (fun g hg => belB2.block g (HA.out.lt g hg))
              obtain ⟨gA, hgA⟩ := hrA.some_of (j := 0) (by omega)
              subst hgA
              obtain ⟨oA', cA', eA, _, _, _, eA2⟩ := hrA.value
              simp only [Value.slice.injEq, true_and] at eA
              obtain ⟨rfl, rfl⟩ := eA
              simp only [Option.map_some] at eA2
              subst eA2
              have HRA := Lib.hid hrA
              have HB := Lib.hid happB.1
              have HogB := Lib.hid lowB.1
              clear hrA happB lowB lowB2 CA
              go_wp2_with (at_builtin; refine StopAt (o := ⟨some 48, _, _, _, _, _⟩) ?_)
              refine Stop.go ?_
              refine wpList_appendS rfl _ _ 29 rfl 22 (.slice none 0 0) 1 24 tI64S (.slice oB j capB) j d1 ogB rfl HB.out (some ⟨gA, 0, none⟩) _ _ ([(.slice ou x.length cu)] ++ d2) rfl (by simp <;> omega) (fun h => by cases h) (by intro a ha i u hi; cases ha; rw [Addr.add_lit, Nat.zero_add]; exact HRA.out.cells i u hi) (fun u hu => (List.mem_append.1 hu).elim (fun h => by simp at h; subst h; exact t3) (t2 u)) (by have := T2L.out; omega) (by have := T2L.out; unfold maxLen; omega) ?_
              intro vC wC ogC happC
              have lowC := happC.low (B := (w2).heap.size) sB HogB.out
              have belC : Below (w2).heap.size (w2) wC := belB.trans lowC.2
              have hrC := happC.1
              have eN : j + (1 + d2.length) = ys.length + 1 := by have := T1L.out; have := T2L.out; omega
              rw [eN, List.singleton_append] at hrC
              have hfin := hmk wC vC ogC belC hrC lowC.1
              obtain ⟨gC, hgC⟩ := hrC.some_of (j := 0) (by omega)
              subst hgC
              obtain ⟨capC, hvC, _, _⟩ := hrC.slice
              subst hvC
              have HFIN := Lib.hid hfin
              clear hfin hrC happC lowC HA HB HRA HogA HogB eN
              have hfl : (sortC cmpT (bs.take (k + 1))).length = ys.length + 1 := by rw [sortC_length]; simp; rw [Hyl.out]; omega
              obtain ⟨zs, hzs⟩ : ∃ zs, zs = sortC cmpT (bs.take (k + 1)) := ⟨_, rfl⟩
              rw [← hzs] at HFIN hfl
              have hkz : zs.length = k + 1 := by rw [hfl, Hyl.out]
              rw [← hfl] at HFIN
              rw [← hfl]
              have HZ := Lib.hid hzs
              have HKZ := Lib.hid hkz
              clear hzs hfl hkz
              go_wp2_with fail
              go_roundw
              case rel => exact ⟨k + 1, zs, by omega, by go_num, HZ, HKZ, ⟨_, _, rfl⟩, HFIN, hbel4.trans (belC.mono (Nat.le_trans hsz2 hsz5))⟩
              case measure => simp [intOf]; omega
          · have hd : decide (cmpT x ys[j] < 0) = false := decide_eq_false hle
            rw [hd] at hls
            have HLS := Lib.hid hls
            have HN : Hid (¬ cmpT x ys[j] < 0) := Lib.hid hle
            clear hd hle hls
            go_wp2_with fail
            go_quiet ((go_at_call 100; exact Calls.qQ' (HLS.out _)))
            go_wp2_with fail
            go_roundw
            case rel =>
              refine ⟨j + 1, by omega, by go_num, Lib.hid (fun q h hq => ?_), (by first | exact drewN1 _ _ | exact drewN2 _ _ _ | exact drewN3 _ _ _ _)⟩
              by_cases hqj : q = j
              · subst hqj; have := HN.out; omega
              · have := hall.out q h (by omega); omega
            case measure => simp [intOf]; omega
        · obtain rfl : j = ys.length := by omega
          have HE : Hid (ins cmpT x ys = ys.take ys.length ++ x :: ys.drop ys.length) := Lib.hid (ins_at hj hall.out (fun h => by omega))
          have ij3 : decide ((ys.length : Int) < (ys.length : Int)) = false := by simp
          go_wp2_with fail
          go_quiet (fail)
          by_cases hcj : cap0 = ys.length
          all_goals
            go_wp2_with fail
            go_region_law (first
              | (refine own_step rfl _ _ rfl (.slice oi x.length ci) x (by simp [Act.eval]) wo (by rfl) HR.out hxl ?_; intro ou cu w2 o2 b2 hsz5; have HO4 := HOO.out _ _ (by rfl) b2; obtain ⟨d1, d2, t1l, t2l, t1, t2, t3, hcl, hmk⟩ := HO4.insRow (R := RS RI) rfl hsz5 hsz2 o2 ys.length hj; rw [← HE.out, ← HST.out] at hmk; have T1L := Lib.hid t1l; have T2L := Lib.hid t2l; have hbel4 : Below w.heap.size w w2 := (hbel.trans (Below.drewN _ _ _)).trans (b2.mono hsz2); clear t1l t2l o2 HO4)
              | (refine step_appendS rfl _ _ 29 rfl 22 (.slice none 0 0) 1 24 tI64S (.slice (some ⟨w2.heap.size, 0, none⟩) 1 1) 1 [.slice ou x.length cu] (some w2.heap.size) rfl (by simpa using Row.lit w2 #[.slice ou x.length cu] 22 1 1 (by decide) (by simp)) _ _ _ d2 rfl (by have := T2L.out; omega) (by intro h; simp) (by intro a ha i u hi; rw [List.eq_nil_of_length_eq_zero (l := d2) (by have := T2L.out; omega)] at hi; simp at hi) t2 (by have := T2L.out; omega) (by have := T2L.out; unfold maxLen; omega) ?_; intro vA wA ogA happA))
            all_goals
              replace happA : Appended (w2.alloc (.cells #[.slice ou x.length cu] 22)) wA vA 1 (1 + d2.length) ([.slice ou x.length cu] ++ d2) (some w2.heap.size) ogA := by have e := T2L.out; first | exact happA | (rw [e]; simpa using happA)
              obtain ⟨oA, capA, rfl, pA1, pA2⟩ := happA.1.val
              unfold maxLen at pA2
              have lowA := happA.low (B := (w2).heap.size) (by simp) (fun g hg => by cases hg; exact Nat.le_refl _)
              have belA : Below (w2).heap.size (w2) wA := ((Below.refl _ _).alloc (Nat.le_refl _) _).trans lowA.2
              have sA := belA.size
              have HA := Lib.hid happA.1
              have HogA := Lib.hid lowA.1
              have CA := (hcl wA belA).1
              clear happA lowA
              go_wp2_with (at_builtin; refine StopAt (o := ⟨some 46, _, _, _, _, _⟩) ?_)
              refine Stop.go ?_
              refine wpList_appendS rfl _ _ 29 rfl 22 (.slice none 0 0) 1 24 tI64S (.slice (some ⟨wA.heap.size, 0, none⟩) 0 0) 0 [] (some wA.heap.size) rfl (by simpa using Row.lit wA #[] 22 1 0 (by decide) (by simp)) (some ⟨g0, 0, none⟩) ys.length _ d1 rfl (by have := T1L.out; omega) (fun h => by cases h) (by intro a ha i u hi; cases ha; rw [Addr.add_lit, Nat.zero_add]; have := (hcl (wA.alloc (.cells #[] 22)) (belA.alloc sA _)).1 i u hi; exact this) t1 (by have := T1L.out; omega) (by unfold maxLen; omega) ?_
              intro vB wB ogB happB
              rw [Nat.zero_add, List.nil_append] at happB
              obtain ⟨oB, capB, rfl, pB1, pB2⟩ := happB.1.val
              unfold maxLen at pB2
              have lowB := happB.low (B := (w2).heap.size) (Nat.le_trans sA (by simp)) (fun g hg => by cases hg; exact sA)
              have lowB2 := happB.low (B := wA.heap.size) (by simp) (fun g hg => by cases hg; exact Nat.le_refl _)
              have belB2 : Below wA.heap.size wA wB := ((Below.refl _ _).alloc (Nat.le_refl _) _).trans lowB2.2
              have belB : Below (w2).heap.size (w2) wB := belA.trans (belB2.mono sA)
              have sB := belB.size
              have hrA : Row wB (.slice oA (1 + d2.length) capA) 1 (1 + d2.length) ([(.slice ou x.length cu)] ++ d2) ogA := HA.out.frame (fun g hg => belB2.block g (HA.out.lt g hg))
              obtain ⟨gA, hgA⟩ := hrA.some_of (j := 0) (by omega)
              subst hgA
              obtain ⟨oA', cA', eA, _, _, _, eA2⟩ := hrA.value
              simp only [Value.slice.injEq, true_and] at eA
              obtain ⟨rfl, rfl⟩ := eA
              simp only [Option.map_some] at eA2
              subst eA2
              have HRA := Lib.hid hrA
              have HB := Lib.hid happB.1
              have HogB := Lib.hid lowB.1
              clear hrA happB lowB lowB2 CA
              go_wp2_with (at_builtin; refine StopAt (o := ⟨some 48, _, _, _, _, _⟩) ?_)
              refine Stop.go ?_
              refine wpList_appendS rfl _ _ 29 rfl 22 (.slice none 0 0) 1 24 tI64S (.slice oB ys.length capB) ys.length d1 ogB rfl HB.out (some ⟨gA, 0, none⟩) _ _ ([(.slice ou x.length cu)] ++ d2) rfl (by simp <;> omega) (fun h => by cases h) (by intro a ha i u hi; cases ha; rw [Addr.add_lit, Nat.zero_add]; exact HRA.out.cells i u hi) (fun u hu => (List.mem_append.1 hu).elim (fun h => by simp at h; subst h; exact t3) (t2 u)) (by have := T2L.out; omega) (by have := T2L.out; unfold maxLen; omega) ?_
              intro vC wC ogC happC
              have lowC := happC.low (B := (w2).heap.size) sB HogB.out
              have belC : Below (w2).heap.size (w2) wC := belB.trans lowC.2
              have hrC := happC.1
              have eN : ys.length + (1 + d2.length) = ys.length + 1 := by have := T1L.out; have := T2L.out; omega
              rw [eN, List.singleton_append] at hrC
              have hfin := hmk wC vC ogC belC hrC lowC.1
              obtain ⟨gC, hgC⟩ := hrC.some_of (j := 0) (by omega)
              subst hgC
              obtain ⟨capC, hvC, _, _⟩ := hrC.slice
              subst hvC
              have HFIN := Lib.hid hfin
              clear hfin hrC happC lowC HA HB HRA HogA HogB eN
              have hfl : (sortC cmpT (bs.take (k + 1))).length = ys.length + 1 := by rw [sortC_length]; simp; rw [Hyl.out]; omega
              obtain ⟨zs, hzs⟩ : ∃ zs, zs = sortC cmpT (bs.take (k + 1)) := ⟨_, rfl⟩
              rw [← hzs] at HFIN hfl
              have hkz : zs.length = k + 1 := by rw [hfl, Hyl.out]
              rw [← hfl] at HFIN
              rw [← hfl]
              have HZ := Lib.hid hzs
              have HKZ := Lib.hid hkz
              clear hzs hfl hkz
              go_wp2_with fail
              go_roundw
              case rel => exact ⟨k + 1, zs, by omega, by go_num, HZ, HKZ, ⟨_, _, rfl⟩, HFIN, hbel4.trans (belC.mono (Nat.le_trans hsz2 hsz5))⟩
              case measure => simp [intOf]; omega
    · have hfin : Hid (ys = forest bs) := Lib.hid (by rw [hys.out, List.take_of_length_le (by omega)]; rfl)
      have hkb : ¬ ((k : Int) < (bs.length : Int)) := by omega
      clear hlt
      go_wp2_with fail
      go_ret
      exact ⟨_, rfl, by rw [← hfin.out]; exact hown.out, hbel⟩
end Go.Proofs.YtfhmonacgmakbaaGreat
namespace Go.Proofs.YtfhmonacgmakbaaGreat
open Go.RowKit
theorem AFn.val1 {P : Program} {f : FuncId} {ds : List (List D)} {k : Nat} {xs : List (List D)} (h : AFn P f ds (· = [.own k xs false])) : AFn P f ds (· = [.val (.sl k xs)]) := by
  refine ⟨h.call, fun A w vs hA hr => (h.fn A w vs hA hr).mono ?_⟩
  rintro e w' ⟨v, rs, rfl, rfl, hb, us, G, X, rfl, hG1, hG2, v1, us1, G1, G2, Y1, Y2, rfl, rfl, rfl, ho, ⟨og, cap, F, dd, rfl, hrow, hk, rfl, rfl, hel⟩, rfl, rfl, rfl⟩
  refine ⟨_, _, rfl, rfl, hb, [_], [], [], rfl, List.nodup_nil, (fun b hb => nomatch hb), _, [], [], [], [], [], rfl, rfl, rfl, ho, ⟨?_, rfl, rfl⟩, rfl, rfl, rfl⟩
  have hel : rdR k (fun b => (A b ∨ w.heap.size ≤ b) ∧ b ∉ og.toList ++ []) w' dd xs := hel
  obtain ⟨oa, c, e, h1, h2, h3, h4⟩ := slv_len hrow
  refine rdV_sl.2 ⟨oa, c, dd, e, h1, h2, h3, hel.mono (fun b hb _ => ⟨hb.1, by simp⟩), ?_⟩
  cases og with
  | none =>
    left
    have := hrow.len0
    exact List.eq_nil_of_length_eq_zero (by rw [hrow.1, this, Nat.zero_mul])
  | some g =>
    refine .inr ⟨g, 0, h4, ⟨.inr (hG2 g (by simp)), by simp⟩, fun j u hj => ?_⟩
    rw [Nat.zero_add]
    exact hrow.cells j u hj
def SmF (f : List (List Int)) : Prop := f.length ≤ 19 ∧ sumLen f ≤ 100
instance (f : List (List Int)) : Decidable (SmF f) := inferInstanceAs (Decidable (_ ∧ _))
theorem AFn.valT {P : Program} {f : FuncId} {ds : List (List D)} {k : Nat} {xs : List (List D)} (h : AFn P f ds (· = [.own k xs true])) : AFn P f ds (· = [.val (.sl k xs)]) := by
  refine ⟨h.call, fun A w vs hA hr => (h.fn A w vs hA hr).mono ?_⟩
  rintro e w' ⟨v, rs, rfl, rfl, hb, us, G, X, rfl, hG1, hG2, v1, us1, G1, G2, Y1, Y2, rfl, rfl, rfl, ho, ⟨og, cap, F, dd, rfl, hrow, hk, rfl, rfl, hel⟩, rfl, rfl, rfl⟩
  refine ⟨_, _, rfl, rfl, hb, [_], [], [], rfl, List.nodup_nil, (fun b hb => nomatch hb), _, [], [], [], [], [], rfl, rfl, rfl, ho, ⟨?_, rfl, rfl⟩, rfl, rfl, rfl⟩
  have hel : ownR k w' dd xs F := hel
  have hv := ownV_sl.2 ⟨og, dd, F, hrow, hel, rfl⟩
  exact hv.rd.mono (fun b hb _ => ⟨.inr (hG2 b (by simpa using hb)), by simp⟩)
theorem a_forestOf (f : List (List Int)) (hl : f.length ≤ 19) (hs : sumLen f ≤ 1000000000) : AFn Tryz.prog 135 [eLL f] (· = [.own 1 ((forest f).map eL) true]) :=
  afn_LLL_oo (enters_of Tryz.func135 rfl rfl) (fun u w h => c_impl_forestOf u f w h hl (fun b hb => Nat.le_trans (sumLen_mem hb) hs))
theorem a_l03Sort (f : List (List Int)) (hl : f.length ≤ 1000) (hs : ∀ b ∈ f, b.length ≤ 1000) : AFn Tryz.prog 147 [eLL f] (· = [.own 1 ((forest f).map eL) true]) :=
  afn_LLL_oo (enters_of Tryz.func147 rfl rfl) (fun u w h => c_spec_l03Sort u f w h (by omega) (fun b hb => by have := hs b hb; omega))
theorem a_canonical13 (t : List Int) (h : LevP t) (hl : t.length ≤ 13) : AFn Tryz.prog 71 [eL t] (· = [.own 1 ((canon t).map eI) true]) :=
  afn_L_o (enters_of Tryz.func71 rfl rfl) (fun u w h' => c_impl_canonical 13 u t w h' h hl (by omega))
theorem a_rootOn (f : List (List Int)) (hs : Small f) (hsz : sumLen f ≤ 1000000000) : AFn Tryz.prog 119 [eLL f] (· = [.own 1 ((rootOn f).map eI) true]) :=
  afn_LLL_o (enters_of Tryz.func119 rfl rfl) (fun u w h => c_impl_rootOn u f w h hs hsz)
theorem a_l03CanonB (t : List Int) (h : LevP t) (hl : t.length ≤ 1000) : AFn Tryz.prog 149 [eL t] (· = [.own 1 ((canon t).map eI) true]) :=
  afn_L_o (enters_of Tryz.func149 rfl rfl) (fun u w h' => c_spec_l03Canon 1000 u t w h' h hl (by omega))
end Go.Proofs.YtfhmonacgmakbaaGreat
namespace Go.Proofs.YtfhmonacgmakbaaGreat
open Go.RowKit
theorem lexC_step {α : Type} {c : α → α → Int} {f g : List α} {k : Nat} (h1 : k < f.length) (h2 : k < g.length) : lexC c (f.drop k) (g.drop k) = if c f[k] g[k] = 0 then lexC c (f.drop (k + 1)) (g.drop (k + 1)) else c f[k] g[k] := by
  rw [List.drop_eq_getElem_cons h1, List.drop_eq_getElem_cons h2]; rfl
theorem lexC_endL {α : Type} {c : α → α → Int} {f g : List α} {k : Nat} (h1 : ¬ k < f.length) (h2 : k < g.length) : lexC c (f.drop k) (g.drop k) = -1 := by
  rw [List.drop_eq_nil_of_le (Nat.not_lt.1 h1), List.drop_eq_getElem_cons h2]; rfl
theorem lexC_endR {α : Type} {c : α → α → Int} {f g : List α} {k : Nat} (h1 : k < f.length) (h2 : ¬ k < g.length) : lexC c (f.drop k) (g.drop k) = 1 := by
  rw [List.drop_eq_getElem_cons h1, List.drop_eq_nil_of_le (Nat.not_lt.1 h2)]; rfl
theorem lexC_end0 {α : Type} {c : α → α → Int} {f g : List α} {k : Nat} (h1 : ¬ k < f.length) (h2 : ¬ k < g.length) : lexC c (f.drop k) (g.drop k) = 0 := by
  rw [List.drop_eq_nil_of_le (Nat.not_lt.1 h1), List.drop_eq_nil_of_le (Nat.not_lt.1 h2)]; rfl
set_option maxRecDepth 100000 in
set_option maxHeartbeats 2000000 in
theorem c_CompareFunc (v1 v2 : Value) (f g : List (List Int)) (w : World) (h1 : Rd (RS (RS RI)) w [v1] f) (h2 : Rd (RS (RS RI)) w [v2] g) :
    Calls Tryz.prog 177 #[v1, v2, .func (.func 107) #[] #[]] w (RetS w (.int .i64 (lexC cmpT f g))) := by
  obtain ⟨oa, ca, L1⟩ := h1.lists
  obtain ⟨ob, cb, L2⟩ := h2.lists
  obtain rfl := L1.val
  obtain rfl := L2.val
  have m1 := L1.le; have m2 := L1.capLe; have m3 := L2.le; have m4 := L2.capLe
  unfold maxLen at m2 m4
  have HL1 := Lib.hid L1
  have HL2 := Lib.hid L2
  clear L1 L2 h1 h2
  go_enter Tryz.func177, Tryz.ntmps177
  go_wp2_with fail
  go_loop [13] (fun i => ∃ k : Nat, k ≤ f.length ∧ k ≤ g.length ∧ i = .int .i64 k ∧ lexC cmpT f g = lexC cmpT (f.drop k) (g.drop k)) (fun i => f.length - (intOf i).toNat)
  case atStart => exact ⟨0, Nat.zero_le _, Nat.zero_le _, rfl, by simp⟩
  case round =>
    obtain ⟨k, hk, hk2, rfl, he⟩ := hrel
    have He := Lib.hid he
    clear he
    by_cases hlt : k < f.length
    · obtain ⟨b1, o1, rfl, hb1, hc1⟩ := HL1.out.get hlt
      obtain ⟨oi, ci, g1, hrd1, q1, q2⟩ := hc1 k hlt
      clear hc1
      by_cases hlt2 : k < g.length
      · obtain ⟨b2, o2, rfl, hb2, hc2⟩ := HL2.out.get hlt2
        obtain ⟨oj, cj, g2, hrd2, q3, q4⟩ := hc2 k hlt2
        clear hc2
        have hs := lexC_step (c := cmpT) hlt hlt2
        by_cases h0 : cmpT f[k] g[k] = 0
        · rw [if_pos h0] at hs
          have hcall := c_impl_compareTrees _ _ _ _ w hrd1 hrd2
          rw [h0] at hcall
          have HC := Lib.hid hcall
          have Hs := Lib.hid hs
          obtain ⟨x1, hx1⟩ : ∃ x, x = f[k].length := ⟨_, rfl⟩
          obtain ⟨x2, hx2⟩ : ∃ x, x = g[k].length := ⟨_, rfl⟩
          rw [← hx1] at g1 q1 HC
          rw [← hx2] at g2 q3 HC
          clear hs h0 hcall hrd1 hrd2 hx1 hx2
          go_wp2_with (go_at_call 107; refine HC.out.mono ?_; rintro e w' ⟨rfl, rfl⟩)
          go_round
          case rel => exact ⟨k + 1, by omega, by omega, by go_num, by rw [He.out, Hs.out]⟩
          case measure => simp [intOf]; omega
        · rw [if_neg h0] at hs
          have hcall := c_impl_compareTrees _ _ _ _ w hrd1 hrd2
          have hb : (cmpT f[k] g[k] != 0) = true := by simp [h0]
          obtain ⟨z, hz⟩ : ∃ z, z = cmpT f[k] g[k] := ⟨_, rfl⟩
          rw [← hz] at hcall hb hs
          have HC := Lib.hid hcall
          have Hs := Lib.hid hs
          obtain ⟨x1, hx1⟩ : ∃ x, x = f[k].length := ⟨_, rfl⟩
          obtain ⟨x2, hx2⟩ : ∃ x, x = g[k].length := ⟨_, rfl⟩
          rw [← hx1] at g1 q1 HC
          rw [← hx2] at g2 q3 HC
          clear hs h0 hcall hrd1 hrd2 hx1 hx2 hz
          go_wp2_with (go_at_call 107; refine HC.out.mono ?_; rintro e w' ⟨rfl, rfl⟩)
          go_ret
          exact ⟨by (rw [He.out, Hs.out] <;> rfl), rfl⟩
      · have HE := Lib.hid (lexC_endR (c := cmpT) hlt hlt2)
        go_wp2_with fail
        go_ret
        exact ⟨by (rw [He.out, HE.out] <;> rfl), rfl⟩
    · by_cases hlt2 : k < g.length
      · have HE := Lib.hid (lexC_endL (c := cmpT) hlt hlt2)
        go_wp2_with fail
        go_ret
        exact ⟨by (rw [He.out, HE.out] <;> rfl), rfl⟩
      · have HE := Lib.hid (lexC_end0 (c := cmpT) hlt hlt2)
        go_wp2_with fail
        go_ret
        exact ⟨by (rw [He.out, HE.out] <;> rfl), rfl⟩
set_option maxRecDepth 100000 in
set_option maxHeartbeats 400000 in
theorem c_compareTrunks (v1 v2 : Value) (f g : List (List Int)) (w : World) (h1 : Rd (RS (RS RI)) w [v1] f) (h2 : Rd (RS (RS RI)) w [v2] g) :
    Calls Tryz.prog 137 #[v1, v2] w (RetS w (.int .i64 (cmpN f g))) := by
  obtain ⟨oa, c1, e1, m1, m2⟩ := h1.val
  obtain ⟨ob, c2, e2, m3, m4⟩ := h2.val
  subst e1; subst e2
  unfold maxLen at m2 m4
  rw [cmpN_eq]
  by_cases hl : f.length = g.length
  · have hlb : ((f.length : Int) != (g.length : Int)) = false := by simp [hl]
    have hcall := c_CompareFunc _ _ _ _ w h1 h2
    rw [if_pos (by rw [hl])]
    have HC := Lib.hid hcall
    clear hl hcall h1 h2
    go_enter Tryz.func137, Tryz.ntmps137
    go_wp2_with (go_at_call 177; refine HC.out.mono ?_; rintro e w' ⟨rfl, rfl⟩)
    go_ret
    exact ⟨rfl, rfl⟩
  · have hlb : ((f.length : Int) != (g.length : Int)) = true := by simp; omega
    have hw : IntKind.i64.wrap ((f.length : Int) - (g.length : Int)) = (f.length : Int) - (g.length : Int) := IntWalk.i64_in _ (by omega)
    rw [if_neg (by omega)]
    clear h1 h2
    go_enter Tryz.func137, Tryz.ntmps137
    go_wp2_with fail
    go_ret
    exact ⟨rfl, rfl⟩
set_option maxRecDepth 100000 in
set_option maxHeartbeats 400000 in
theorem c_compareForests (v1 v2 : Value) (f g : List (List Int)) (w : World) (h1 : Rd (RS (RS RI)) w [v1] f) (h2 : Rd (RS (RS RI)) w [v2] g) (hf : sumLen f ≤ 1000000000000000000) (hg : sumLen g ≤ 1000000000000000000) :
    Calls Tryz.prog 87 #[v1, v2] w (RetS w (.int .i64 (cmpF f g))) := by
  have hn1 := c_impl_nodesIn _ _ w h1
  have hn2 := c_impl_nodesIn _ _ w h2
  rw [nodesB_eq f hf] at hn1
  rw [nodesB_eq g hg] at hn2
  have ht := c_compareTrunks _ _ _ _ w h1 h2
  rw [cmpF_N]
  obtain ⟨p, hp⟩ : ∃ p, p = sumLen f := ⟨_, rfl⟩
  obtain ⟨q, hq⟩ : ∃ q, q = sumLen g := ⟨_, rfl⟩
  rw [← hp] at hf hn1 ⊢
  rw [← hq] at hg hn2 ⊢
  have hw : IntKind.i64.wrap ((p : Int) - (q : Int)) = (p : Int) - (q : Int) := IntWalk.i64_in _ (by omega)
  obtain ⟨Rl, hR⟩ : ∃ R : Value → Int → Prop, ∀ v n, R v n ↔ Calls Tryz.prog 105 #[v] w (RetS w (.int .i64 n)) := ⟨_, fun _ _ => Iff.rfl⟩
  have r1 : Rl v1 p := (hR _ _).2 hn1
  have r2 : Rl v2 q := (hR _ _).2 hn2
  have HN : Hid (∀ v n, Rl v n → Calls Tryz.prog 105 #[v] w (RetS w (.int .i64 n))) := Lib.hid (fun v n => (hR v n).1)
  have H3 := Lib.hid ht
  clear hp hq h1 h2 hn1 hn2 ht hR
  by_cases hl : (p : Int) = q
  · have hlb : (((p : Int) - (q : Int)) != 0) = false := by rw [hl]; simp
    rw [if_pos hl]
    clear hl
    go_enter Tryz.func87, Tryz.ntmps87
    go_wp2_with (first | (go_at_call 105; refine (HN.out _ _ (by assumption)).mono ?_; rintro e w' ⟨rfl, rfl⟩) | (go_at_call 137; refine H3.out.mono ?_; rintro e w' ⟨rfl, rfl⟩))
    go_ret
    exact ⟨rfl, rfl⟩
  · have hlb : (((p : Int) - (q : Int)) != 0) = true := by simp; omega
    rw [if_neg hl]
    clear hl
    go_enter Tryz.func87, Tryz.ntmps87
    go_wp2_with (go_at_call 105; refine (HN.out _ _ (by assumption)).mono ?_; rintro e w' ⟨rfl, rfl⟩)
    go_ret
    exact ⟨rfl, rfl⟩
theorem lexC_in64 : ∀ (f g : List (List Int)), (∀ t ∈ f, t.length ≤ maxLen) → (∀ t ∈ g, t.length ≤ maxLen) → In64 (lexC cmpT f g) := by
  intro f
  induction f with
  | nil => intro g _ _; cases g <;> (unfold lexC In64; omega)
  | cons x xs ih => intro g h3 h4; cases g with
    | nil => unfold lexC In64; omega
    | cons y bs =>
      unfold lexC
      split
      · exact ih bs (fun t ht => h3 t (by simp [ht])) (fun t ht => h4 t (by simp [ht]))
      · exact cmpT_in64 (h3 x (by simp)) (h4 y (by simp))
theorem cmpF_in64 {f g : List (List Int)} (hf : sumLen f ≤ 1000000000000000000) (hg : sumLen g ≤ 1000000000000000000) (h1 : f.length ≤ maxLen) (h2 : g.length ≤ maxLen) (h3 : ∀ t ∈ f, t.length ≤ maxLen) (h4 : ∀ t ∈ g, t.length ≤ maxLen) : In64 (cmpF f g) := by
  rw [cmpF_N, cmpN_eq]
  unfold maxLen at h1 h2
  split
  · split
    · exact lexC_in64 f g h3 h4
    · unfold In64; omega
  · unfold In64; omega
end Go.Proofs.YtfhmonacgmakbaaGreat
namespace Go.Proofs.YtfhmonacgmakbaaGreat
open Go.RowKit
theorem a_compareForests (f g : List (List Int)) (hf : sumLen f ≤ 1000000000) (hg : sumLen g ≤ 1000000000) : AFn Tryz.prog 87 [eLL f, eLL g] (· = [.val (.int (cmpF f g))]) := by
  refine ⟨enters_of Tryz.func87 rfl rfl, fun A w vs hA ⟨v1, _, e1, h1, v2, _, e2, h2, e3⟩ => ?_⟩
  subst e3; subst e2; subst e1
  have r1 := Rd.of (rdLL h1)
  have r2 := Rd.of (rdLL h2)
  obtain ⟨oa, c1, k1, m1, m2⟩ := r1.val
  obtain ⟨ob, c2, k2, m3, m4⟩ := r2.val
  refine (c_compareForests v1 v2 f g w r1 r2 (by omega) (by omega)).mono ?_
  rintro e w' ⟨rfl, rfl⟩
  have hle : ∀ {f : List (List Int)}, sumLen f ≤ 1000000000 → ∀ t ∈ f, t.length ≤ maxLen := fun h t ht => Nat.le_trans (sumLen_mem ht) (Nat.le_trans h (by decide))
  exact ⟨_, _, rfl, rfl, Below.refl _ _, [_], [], [], rfl, List.nodup_nil, by simp, _, [], [], [], [], [], rfl, rfl, rfl, rfl, ⟨rdV_int.2 ⟨rfl, cmpF_in64 (by omega) (by omega) (by omega) (by omega) (hle hf) (hle hg)⟩, rfl, rfl⟩, rfl, rfl, rfl⟩
end Go.Proofs.YtfhmonacgmakbaaGreat
namespace Go.Proofs.YtfhmonacgmakbaaGreat
open Go.RowKit
def eSp (z : Spl × Int) : List D := [.sl 1 (z.1.1.map eL), .sl 1 (z.1.2.map eL), .int z.2]
def codF2 : Cod Spl := codP 1 codLL codLL (fun _ => rfl)
def codSp : Cod (Spl × Int) := codP 2 codF2 codI (fun _ => rfl)
theorem codSp_d (f g : List (List Int)) (n : Int) : codSp.d [.sl 1 (f.map eL), .sl 1 (g.map eL), .int n] = some ((f, g), n) := codSp.de ((f, g), n)
def SmS (s : Spl) : Prop := SmF s.1 ∧ SmF s.2
instance (s : Spl) : Decidable (SmS s) := inferInstanceAs (Decidable (_ ∧ _))
def HaF (f : List (List Int)) : Prop := f.length ≤ 9 ∧ sumLen f ≤ 50
instance (f : List (List Int)) : Decidable (HaF f) := inferInstanceAs (Decidable (_ ∧ _))
def HaS (s : Spl) : Prop := HaF s.1 ∧ HaF s.2
theorem HaF.mul {f g : List (List Int)} (hf : HaF f) (hg : HaF g) : SmF (mulF f g) := by
  obtain ⟨h1, h2⟩ := hf
  obtain ⟨h3, h4⟩ := hg
  exact ⟨by rw [mulF_len]; omega, by rw [mulF_sum]; omega⟩
theorem HaS.mul {s c : Spl} (hs : HaS s) (hc : HaS c) : SmS (mulS s c) := ⟨hs.1.mul hc.1, hs.2.mul hc.2⟩
theorem HaF.sm {f : List (List Int)} (hf : HaF f) : SmF f := ⟨by have := hf.1; omega, by have := hf.2; omega⟩
theorem HaS.sm {s : Spl} (hs : HaS s) : SmS s := ⟨hs.1.sm, hs.2.sm⟩
structure PutNI (L : List (Spl × Int)) (k : Int) (x : Spl) (y : Nat × Bool × List (Spl × Int)) : Prop where
  le : y.1 ≤ L.length
  no : y.2.1 = false → y.2.2 = L.take y.1 ∧ ∀ q ∈ L.take y.1, 0 < cmpS x q.1
  yes : y.2.1 = true → y.2.2 ++ L.drop y.1 = putN cmpS L k x
  len : y.2.2.length ≤ y.1 + 1
end Go.Proofs.YtfhmonacgmakbaaGreat
namespace Go.Proofs.YtfhmonacgmakbaaGreat
open Go.RowKit
theorem Row.take {w : World} {k n m cap : Nat} {ds : List Value} {og : Option Nat} (h : Row w (slv og n cap) k n ds og) (hm : m ≤ n) : Row w (slv og m cap) k m (ds.take (m * k)) og := by
  refine ⟨by rw [List.length_take, h.1]; exact Nat.min_eq_left (Nat.mul_le_mul_right k hm), ?_⟩
  rcases h.2 with ⟨h1, h2, h3⟩ | ⟨g, c, cur, e, h1, h2, h3, h4, h5, h6, h7⟩
  · subst h3
    exact .inl ⟨rfl, by omega, rfl⟩
  · subst h2
    have hc : cap = c := by
      unfold slv at h1
      simp only [Value.slice.injEq] at h1
      exact h1.2.2
    subst hc
    refine .inr ⟨g, cap, cur, e, rfl, rfl, h3, by omega, h5, h6, ?_⟩
    rw [← h7, List.take_take, Nat.min_eq_left (Nat.mul_le_mul_right k hm)]
section
variable {P : Program} {cfg : Cfg} {M : Nat → Prop} {w0 : W0} {w w' : World} {Ok : Nat → Prop} {N : Nat} {σ : Asg} {s : St} {a : Act} {ops : Array Oper}
theorem RunK.regCut (C : CfgOK P cfg) (T : Tab P) {fs : List Fr} {Q : Exit → St → Prop} {id : Nat} (n : Nat) {s1 : St} (ha : Work (aopsT cfg T ops (ops.toList.take n) s) (some s1))
    (h : ROps P cfg M ops (ops.toList.drop n) (outK P cfg M fs Q .normal) s1) : RunK P cfg M (.region id ops false) fs Q s := by
  refine Runs.region ?_
  have e : ops.toList = ops.toList.take n ++ ops.toList.drop n := (List.take_append_drop n _).symm
  have cut : ∀ (l m : List Oper) (s : St), aopsT cfg T ops l s = some s1 → ROps P cfg M ops m (outK P cfg M fs Q .normal) s1 → ROps P cfg M ops (l ++ m) (outK P cfg M fs Q .normal) s := by
    intro l
    induction l with
    | nil => intro m s h1 h2; simp only [aopsT, Option.some.injEq] at h1; subst h1; exact h2
    | cons o l ih =>
      intro m s h1 h2
      simp only [aopsT] at h1
      obtain ⟨s2, h3, h4⟩ := bind_some h1
      exact ROps.stepT C h3 (ih m s2 h4 h2)
  rw [e]
  exact cut _ _ s ha h
end
end Go.Proofs.YtfhmonacgmakbaaGreat
namespace Go.Proofs.YtfhmonacgmakbaaGreat
open Go.RowKit
section
variable {P : Program} {cfg : Cfg} {w0 : W0} {w w' : World} {Ok : Nat → Prop} {N : Nat} {σ σ' : Asg} {s s' : St} {a : Act} {M : Nat → Prop}
theorem relArgs.split {A : Nat → Prop} : ∀ {pre : List (List D)} {ds : List (List D)} {vs : List Value}, relArgs A w (pre ++ ds) vs → ∃ vs1 vs2, vs = vs1 ++ vs2 ∧ relArgs A w pre vs1 ∧ relArgs A w ds vs2
  | [], ds, vs, h => ⟨[], vs, rfl, rfl, h⟩
  | d :: pre, ds, vs, ⟨v, us, e, h1, h2⟩ => by
    obtain ⟨us1, us2, e2, h3, h4⟩ := relArgs.split h2
    subst e2; subst e
    exact ⟨v :: us1, us2, rfl, ⟨v, us1, rfl, h1, h3⟩, h4⟩
theorem relArgs.join {A : Nat → Prop} : ∀ {pre : List (List D)} {ds : List (List D)} {vs1 vs2 : List Value}, relArgs A w pre vs1 → relArgs A w ds vs2 → relArgs A w (pre ++ ds) (vs1 ++ vs2)
  | [], ds, vs1, vs2, h, k => by rw [show vs1 = [] from h]; exact k
  | d :: pre, ds, vs1, vs2, ⟨v, us, e, h1, h2⟩, k => by
    subst e
    exact ⟨v, us ++ vs2, rfl, h1, relArgs.join h2 k⟩
theorem Bel.nil (h : Bel ⟨w, fun b => (none : Option Nat) = some b⟩ w') : Below w.heap.size w w' :=
  ⟨h.os, h.tape, h.output, h.size, fun i hi => h.block i hi (fun e => nomatch e)⟩
theorem AOw.nil {g : FuncId} {pre post : List (List D)} {k : Nat} {Q : List Res → Prop} (h : AOw P g pre k [] post Q) (hk : 0 < k) : AFn P g (pre ++ [.raw (.slice none 0 0)] :: post) Q := by
  refine ⟨h.call, fun A w vs hA hr => ?_⟩
  obtain ⟨vs1, vs2, e, h1, v, us, e2, h2, h3⟩ := relArgs.split hr
  subst e2; subst e
  obtain ⟨rfl, _⟩ := rdV_raw.1 (show rdV A w v (.raw (.slice none 0 0)) from h2)
  refine (h.fn A w vs1 us none 0 [] hA h1 h3 ⟨(Nat.zero_mul k).symm, .inl ⟨rfl, rfl, rfl⟩⟩ hk (by first | exact ⟨0, hk, rfl⟩ | exact ⟨0, hk, trivial⟩ | exact ⟨0, hk, by simp [rdL]⟩) (fun b e => nomatch e)).mono ?_
  rintro e w' ⟨v, rs, rfl, hQ, hb, ho⟩
  have e : (W0.mine ⟨w, fun b => (none : Option Nat) = some b⟩) = fun b => w.heap.size ≤ b := by funext b; simp [W0.mine]
  rw [e] at ho
  exact ⟨v, rs, rfl, hQ, hb.nil, ho⟩
theorem n_callR (C : CfgOK P cfg) (h : Sim w0 Ok N σ s a w) {o : Oper} {f : Operand} {args : Array Operand} {ts : Array TypeId} {g : FuncId} (ho : o.op = .call ⟨.value f, args, ts⟩) (hf : ((opv s.regs f).bind avD).bind fnId = some g)
    {ds : List (List D)} (hd : relArgs (Zn σ s.heap w) w ds (args.toList.map a.eval)) {Q0 : List Res → Prop} (hfn : AFn P g ds Q0)
    {K : Act → World → Prop} {Q : Exit → Act → World → Prop} {key : Nat} (hfr : ∀ rs, Q0 rs → ∀ q ob, look q (resACs key rs).2 = some ob → Free s q)
    (hK : ∀ rs, Q0 rs → ∀ v w' σ', relAV σ' ((resACs key rs).2 ++ s.heap) w' (outAV (resACs key rs).1) v → Sim w0 Ok N σ' ⟨s.regs, (resACs key rs).2 ++ s.heap⟩ a w' → K (a.put o.dst v) w') : o.wp P a w K Q := by
  have hfv : a.eval f = .func (.func g) #[] #[] := fnId_rel h hf
  have hrun : (execOp a.eval o).run P w = .ok (.enter g (args.map a.eval)) w := by
    unfold execOp
    rw [ho]
    simp [resolve, Deferred.ofValue, hfv, invoke, hfn.call]
  obtain ⟨A, hA, hAa, hAz⟩ : ∃ A : Nat → Prop, (∀ b, A b → b < w.heap.size) ∧ relArgs A w ds (args.toList.map a.eval) ∧ ((∃ rs, Q0 rs ∧ rs.all Res.scalar = false) → ∀ b, A b → Zn σ s.heap w b) := by
    exact ⟨Zn σ s.heap w, fun _ h => h.1, hd, fun _ b hb => hb⟩
  have hcall := hfn.fn A w (args.toList.map a.eval) hA hAa
  unfold Oper.wp
  rw [hrun, Oper.upon_enter]
  have e : (args.toList.map a.eval).toArray = args.map a.eval := by rw [← Array.toList_map, Array.toArray_toList]
  rw [← e]
  refine hcall.mono ?_
  rintro e w' ⟨v, rs, rfl, hQ, hw, us, G, X, rfl, hG1, hG2, hrel⟩
  obtain ⟨σ', k0, k1, k2, k3, k4⟩ := outs_asg key σ hrel hG1
  have hgn : ∀ q u, look q (resACs key rs).2 = some u → ∀ b, σ'.g q = some b → w.heap.size ≤ b := fun q u hq b hb => hG2 b ((k2 q u hq).2.2.1 b (fp_out hb))
  have hZ1 : (∀ b, A b → Zn σ s.heap w b) → ∀ b, ((A b ∨ w.heap.size ≤ b) ∧ b ∉ X) → b < w'.heap.size → Zn σ' ((resACs key rs).2 ++ s.heap) w' b := by
    intro hAz b hb hlt
    have hz := Kept.grown hw h hAz b hb.1 hlt
    refine ⟨hlt, by rw [k0]; exact hz.2.1, fun q u hq e => ?_⟩
    rw [look_append] at hq
    cases hn : look q (resACs key rs).2 with
    | some o' => exact hb.2 ((k2 q o' hn).2.2.2 b e)
    | none =>
      rw [hn] at hq
      rw [(k1 q hn).1] at e
      exact hz.2.2 q u hq e
  refine hK rs hQ _ w' σ' (out_rel ?_) ?_
  · by_cases hsc : rs.all Res.scalar = true
    · exact k4.relS hsc
    · exact k4.rel (hZ1 (hAz ⟨rs, hQ, by simpa using hsc⟩))
  · refine h.news k0 hw (hfr rs hQ) k1 (fun q o' hq => ?_) (fun q o' hq => ?_) k3
    · obtain ⟨⟨dd, k, xs, d, b1, b2, b3, b4⟩, _⟩ := k2 q o' hq
      subst b1
      refine ⟨dd, b2, b3, ?_⟩
      show if d = true then ownR k w' dd xs (σ'.F q) else rdR k (Zn σ' ((resACs key rs).2 ++ s.heap) w') w' dd xs
      cases d with
      | true => rw [if_pos rfl]; exact b4
      | false =>
        rw [if_neg (by decide)]
        have b4' : rdR k (fun b => (A b ∨ w.heap.size ≤ b) ∧ b ∉ X) w' dd xs := b4
        have hsc : rs.all Res.scalar = false := by
          have key : ∀ {rs : List Res} {key : Nat} {q : Nat}, look q (resACs key rs).2 = some (.row k xs false) → rs.all Res.scalar = false := by
            intro rs
            induction rs with
            | nil => intro key q hq; cases hq
            | cons r rs ih =>
              intro key q hq
              cases r with
              | val d => rw [List.all_cons, ih (by simpa [resACs, resAC] using hq), Bool.and_false]
              | own kk ys d =>
                simp only [resACs, resAC, List.singleton_append, look] at hq
                split at hq
                · cases hq; rfl
                · rw [List.all_cons, ih hq, Bool.and_false]
          exact key hq
        exact b4'.mono (fun b hb hlt => hZ1 (hAz ⟨rs, hQ, hsc⟩) b hb hlt)
    · obtain ⟨_, b5, b6, _⟩ := k2 q o' hq
      exact ⟨fun b hb => hG2 b (b6 b hb), b5⟩
theorem ROps.callNil (C : CfgOK P cfg) {ops : Array Oper} {o : Oper} {l : List Oper} {Q : St → Prop} {d : Nat} {f : Operand} {args : Array Operand} {ts : Array TypeId} {g : FuncId} (hb : awanted ops s.regs o = some true) (hdN : d < cfg.N)
    (ho : o.op = .call ⟨.value f, args, ts⟩) (hod : o.dst = some d) (hf : ((opv s.regs f).bind avD).bind fnId = some g)
    {xs : List Operand} {tx : List TypeId} {pre : List (List D)} (ha : args.toList = xs ++ [.const (.slice none 0 0)]) (hpre : aargs cfg (fun k => look k s.heap) s.regs xs tx = some pre) (hr : opRefs s.regs xs = [])
    {rs : List Res} (hfn : AFn P g (pre ++ [[.raw (.slice none 0 0)]]) (· = rs)) (hfr : (resACs d rs).2.all (fun p => fresh s p.1) = true)
    (h : ROps P cfg M ops l Q (s.got d rs)) : ROps P cfg M ops (o :: l) Q s := by
  intro w0 Ok σ a w Q' hM hS hQ
  refine wpList_step (fun K hK => ?_)
  rw [awanted_spec hS hb]
  simp only [if_true]
  have hrel : relArgs (Zn σ s.heap w) w (pre ++ [[.raw (.slice none 0 0)]]) (args.toList.map a.eval) := by
    rw [ha, List.map_append]
    exact relArgs.join ((aargs_rel C hS hpre).2 hr) ⟨_, [], rfl, rdV_raw.2 ⟨rfl, rfl⟩, rfl⟩
  refine n_callR C hS (key := d) ho hf hrel hfn (fun rs' e => e ▸ fun q ob hq => fresh_free (List.all_eq_true.1 hfr _ (look_all hq))) (fun rs' e v w' σ' hv hS' => ?_)
  subst e
  rw [hod]
  have hsub : ∀ k o', look k (insAll (resACs d rs').2 s.heap) = some o' → look k ((resACs d rs').2 ++ s.heap) = some o' := fun k o' ho' => by rw [look_insAll] at ho'; exact ho'
  exact hK _ _ (h w0 Ok σ' _ _ Q' hM (Sim.ins (hS'.forget (fun _ _ h => h) hsub) hdN (hv.sub hsub)) hQ)
theorem ROps.callNilP (C : CfgOK P cfg) {ops : Array Oper} {o : Oper} {l : List Oper} {Q : St → Prop} {d : Nat} {f : Operand} {args : Array Operand} {ts : Array TypeId} {g : FuncId} (hb : awanted ops s.regs o = some true) (hdN : d < cfg.N)
    (ho : o.op = .call ⟨.value f, args, ts⟩) (hod : o.dst = some d) (hf : ((opv s.regs f).bind avD).bind fnId = some g)
    {xs : List Operand} {tx : List TypeId} {pre : List (List D)} {ys : List Operand} {ty : List TypeId} {post : List (List D)} (ha : args.toList = xs ++ .const (.slice none 0 0) :: ys) (hpre : aargs cfg (fun k => look k s.heap) s.regs xs tx = some pre) (hr : opRefs s.regs xs = []) (hpost : aargs cfg (fun k => look k s.heap) s.regs ys ty = some post) (hr2 : opRefs s.regs ys = [])
    {rs : List Res} (hfn : AFn P g (pre ++ [.raw (.slice none 0 0)] :: post) (· = rs)) (hfr : (resACs d rs).2.all (fun p => fresh s p.1) = true)
    (h : ROps P cfg M ops l Q (s.got d rs)) : ROps P cfg M ops (o :: l) Q s := by
  intro w0 Ok σ a w Q' hM hS hQ
  refine wpList_step (fun K hK => ?_)
  rw [awanted_spec hS hb]
  simp only [if_true]
  have hrel : relArgs (Zn σ s.heap w) w (pre ++ [.raw (.slice none 0 0)] :: post) (args.toList.map a.eval) := by
    rw [ha, List.map_append]
    exact relArgs.join ((aargs_rel C hS hpre).2 hr) ⟨_, _, rfl, rdV_raw.2 ⟨rfl, rfl⟩, (aargs_rel C hS hpost).2 hr2⟩
  refine n_callR C hS (key := d) ho hf hrel hfn (fun rs' e => e ▸ fun q ob hq => fresh_free (List.all_eq_true.1 hfr _ (look_all hq))) (fun rs' e v w' σ' hv hS' => ?_)
  subst e
  rw [hod]
  have hsub : ∀ k o', look k (insAll (resACs d rs').2 s.heap) = some o' → look k ((resACs d rs').2 ++ s.heap) = some o' := fun k o' ho' => by rw [look_insAll] at ho'; exact ho'
  exact hK _ _ (h w0 Ok σ' _ _ Q' hM (Sim.ins (hS'.forget (fun _ _ h => h) hsub) hdN (hv.sub hsub)) hQ)
end
noncomputable def atOwn (A : List (List D)) (k : Nat) (X : List (List D)) (B : List (List D)) (R : List Res) (a : List (List D)) (k' : Nat) (x : List (List D)) (b : List (List D)) : Option (List Res × Option (List (List D))) := by
  classical
  exact if a = A ∧ k' = k ∧ x = X ∧ b = B then some (R, Option.none) else Option.none
theorem atOwn_eq (A : List (List D)) (k : Nat) (X : List (List D)) (B : List (List D)) (R : List Res) : atOwn A k X B R A k X B = some (R, Option.none) := by
  unfold atOwn; rw [if_pos ⟨rfl, rfl, rfl, rfl⟩]
theorem atOwn_some {A : List (List D)} {k : Nat} {X : List (List D)} {B : List (List D)} {R : List Res} {a : List (List D)} {k' : Nat} {x b : List (List D)} {r : List Res × Option (List (List D))} (h : atOwn A k X B R a k' x b = some r) : a = A ∧ k' = k ∧ x = X ∧ b = B ∧ r = (R, Option.none) := by
  unfold atOwn at h
  split at h
  · rename_i h1
    exact ⟨h1.1, h1.2.1, h1.2.2.1, h1.2.2.2, (Option.some.inj h).symm⟩
  · exact nomatch h
noncomputable def Tab.own' {P : Program} (T : Tab P) (g : FuncId) (n : Nat) {A : List (List D)} {k : Nat} {X B : List (List D)} {R : List Res} (h : AOw P g A k X B (· = R)) : Tab P :=
  T.own g ⟨false, n, atOwn A k X B R⟩ (fun pre k' xs post r _ e => by
    obtain ⟨rfl, rfl, rfl, rfl, rfl⟩ := atOwn_some e
    exact h.toEf)
end Go.Proofs.YtfhmonacgmakbaaGreat
namespace Go.Proofs.YtfhmonacgmakbaaGreat
open Go.RowKit
theorem foldS_len {α : Type} (f : α → List Spl) (m : α → Nat) : ∀ (bs : List α) (A : List Spl), (∀ b ∈ bs, (f b).length ≤ 2 ^ m b) → (foldS A (bs.map f)).length ≤ A.length * 2 ^ (bs.map m).sum
  | [], A, _ => by simp [foldS]
  | b :: bs, A, h => by
    have h1 := foldS_len f m bs (A.flatMap fun s => (f b).map (catS s)) (fun x hx => h x (by simp [hx]))
    have h2 : (A.flatMap fun s => (f b).map (catS s)).length = A.length * (f b).length := by
      clear h1
      induction A with
      | nil => simp
      | cons a A ih => rw [List.flatMap_cons, List.length_append, ih, List.length_map, List.length_cons, Nat.succ_mul, Nat.add_comm]
    rw [h2] at h1
    have e : ((b :: bs).map m).sum = m b + (bs.map m).sum := by simp
    rw [e, Nat.pow_add]
    refine Nat.le_trans h1 ?_
    rw [← Nat.mul_assoc]
    exact Nat.mul_le_mul_right _ (Nat.mul_le_mul_left _ (h b (by simp)))
theorem split_len : ∀ (n : Nat) {t : List Int}, t.length ≤ n → LevP t → (split t).length ≤ 2 ^ t.length
  | 0, t, hn, h => by have := h.pos; omega
  | n + 1, t, hn, h => by
    rw [split_eq h, List.length_append, List.length_map, List.length_singleton]
    have h1 := foldS_len split List.length (brs t) [([], [])] (fun b hb => split_len n (by have := brs_short h b hb; omega) (brs_lev h b hb))
    have hb := sumLen_brs h
    have h2 : (prodS ((brs t).map split)).length ≤ 2 ^ sumLen (brs t) := by
      have : (foldS [([], [])] ((brs t).map split)).length ≤ 1 * 2 ^ sumLen (brs t) := h1
      rw [Nat.one_mul] at this; exact this
    rw [← hb, Nat.pow_succ]
    have : 0 < 2 ^ sumLen (brs t) := Nat.pow_pos (by decide)
    omega
theorem prod_len {bs : List (List Int)} (h : ∀ b ∈ bs, LevP b) (h8 : sumLen bs ≤ 8) : (prodS (bs.map split)).length ≤ 256 := by
  have h1 := foldS_len split List.length bs [([], [])] (fun b hb => split_len _ (Nat.le_refl _) (h b hb))
  have h2 : (prodS (bs.map split)).length ≤ 2 ^ sumLen bs := by
    have : (foldS [([], [])] (bs.map split)).length ≤ 1 * 2 ^ sumLen bs := h1
    rw [Nat.one_mul] at this; exact this
  exact Nat.le_trans h2 (Nat.pow_le_pow_right (by decide) h8)
theorem prod_good {bs : List (List Int)} (h : ∀ b ∈ bs, LevP b) : ∀ s ∈ prodS (bs.map split), GoodS (sumLen bs) s := fun s hs => by
  have := foldS_good split List.length bs [([], [])] 0 (fun b hb => split_good _ (Nat.le_refl _) (h b hb)) (fun s hs => by
    obtain rfl := List.mem_singleton.1 hs
    exact ⟨by simp, rfl⟩) s hs
  rw [Nat.zero_add] at this
  exact this
theorem GoodS.nrm {n : Nat} {s : Spl} (h : GoodS n s) : GoodS n (nrmS s) := by
  refine ⟨fun t ht => h.1 t ?_, ?_⟩
  · unfold nrmS at ht
    simp only [List.mem_append, sortC_mem] at ht ⊢
    exact ht
  · unfold nrmS
    simp only
    rw [sumLen_perm (sortC_perm _), sumLen_perm (sortC_perm _)]
    exact h.2
theorem len_sum : ∀ {f : List (List Int)}, (∀ t ∈ f, LevP t) → f.length ≤ sumLen f
  | [], _ => Nat.le_refl _
  | t :: f, h => by
    have h1 := (h t (by simp)).pos
    have h2 := len_sum (f := f) (fun x hx => h x (by simp [hx]))
    have : sumLen (t :: f) = t.length + sumLen f := rfl
    rw [this, List.length_cons]; omega
theorem GoodS.ha {n : Nat} {s : Spl} (h : GoodS n s) (hn : n ≤ 9) : HaS s := by
  have h1 := len_sum (f := s.1) (fun t ht => (h.1 t (by simp [ht])).1)
  have h2 := len_sum (f := s.2) (fun t ht => (h.1 t (by simp [ht])).1)
  have h3 := h.2
  exact ⟨⟨by omega, by omega⟩, ⟨by omega, by omega⟩⟩
theorem gath_good {L : List Spl} {n : Nat} (hL : ∀ s ∈ L, GoodS n s) : ∀ p ∈ gathS L, 1 ≤ p.2 ∧ p.2 ≤ L.length ∧ GoodS n p.1 := fun p hp => by
  have h := gathS_is L
  have hc := h.cnt p hp
  rw [List.length_map] at hc
  refine ⟨hc.1, hc.2, ?_⟩
  obtain ⟨s, hs, e⟩ := List.mem_map.1 (h.key p hp)
  rw [← e]
  exact (hL s hs).nrm
theorem mem_take {α : Type} {l : List α} {i : Nat} {P : α → Prop} (h : ∀ b ∈ l, P b) : ∀ b ∈ l.take i, P b := fun b hb => h b (List.mem_of_mem_take hb)
theorem sumLen_take' (l : List (List Int)) (i : Nat) : sumLen (l.take i) ≤ sumLen l := by
  conv => rhs; rw [← List.take_append_drop i l, sumLen_append]
  omega
theorem a_l03Parts (t : List Int) (h : LevP t) (hl : t.length ≤ 1000) : AFn Tryz.prog 148 [eL t] (· = [.own 1 ((brs t).map eL) true]) :=
  afn_L_oo (enters_of Tryz.func148 rfl rfl) (fun u w h' => c_spec_l03Parts u t w h' h (by omega))
theorem a_l03Branches (t : List Int) (h : LevP t) (hc : canon t = t) (hl : t.length ≤ 1000) : AFn Tryz.prog 96 [eL t] (· = [.own 1 ((sortC cmpT (brs t)).map eL) true]) := by
  have h1 := a_l03CanonB t h hl
  have h2 := a_l03Parts t h hl
  have hb := sumLen_brs h
  have h3 := a_l03Sort (brs t) (by have := brs_few h; omega) (fun b hb' => by have := sumLen_mem hb'; omega)
  rw [hc] at h1
  simp only [eL, eLL] at h1 h2 h3
  refine AFn.of_runs (cfg_ok 7) Tryz.func96 rfl rfl rfl (by simp only [List.length_cons, List.length_nil]; decide) ?_
  have hres : Tryz.f96.results.toList = [.tmp 2] := rfl
  have hrts : Tryz.f96.resultTypes.toList = [29] := rfl
  simp only [argRegs, argAV1, eL, eI, eLL, eB, Nat.zero_add, Nat.reduceAdd]
  intro M
  refine RunK.of ?_
  repeat' (first | with_reducible (first | refine Q1 ?_ | refine Q2 ?_ | refine Q3 ?_ | refine Q4 ?_ | refine Q5 ?_ | refine Q6 ?_ | refine Q7 ?_ | refine Q8 ?_ | refine Q9 ?_ | refine Qa ?_ | refine Qb ?_ | refine Qc ?_ | refine Qd ?_ | refine Qe ?_ | refine Qf ?_) | ((with_reducible refine Qo ?_ ?_); focus rfl) | ((with_reducible first | refine QT 3 (l := ?_) ?_ ?_ | refine QF 3 (l := ?_) ?_ ?_); rotate_left 1; focus (simp only [Zu, Nat.reduceSub, Nat.reduceBEq]; with_reducible rfl)) | ((with_reducible first | refine QS (cfg_ok 7) (((Tab.none.at' 149 h1).at' 148 h2).at' 147 h3) (s' := ?_) ?_ ?_ | refine QC (b := ?_) ?_ ?_); rotate_left 1; focus ((with_reducible refine QW ?_); simp only [Zg, seval, if_true, if_false, reduceCtorEq, Nat.reduceEqDiff]; with_reducible rfl)))
  (refine Ends.mk (by simp) (rs := ?_) (ks := ?_) hres hrts ?_ ?_ ?_; rotate_left 2; (focus (simp only [Ze, Zg, seval, if_true, if_false, reduceCtorEq, Nat.reduceEqDiff, forest]; with_reducible rfl)); (focus simp); focus (first | with_reducible rfl | (simp only [Zv, forest]; done)))
end Go.Proofs.YtfhmonacgmakbaaGreat
namespace Go.Proofs.YtfhmonacgmakbaaGreat
open Go.RowKit Go.Shelf
theorem flatMap_getG {α β : Type} (enc : α → List β) (k : Nat) (hk : ∀ x, (enc x).length = k) (hp : 0 < k) : ∀ (l : List α) (t : Nat), (l.flatMap enc)[t]? = (l[t / k]?).bind fun x => (enc x)[t % k]?
  | [], t => by simp
  | x :: l, t => by
    rw [List.flatMap_cons]
    by_cases h : t < k
    · rw [List.getElem?_append_left (by rw [hk]; exact h), Nat.div_eq_of_lt h, Nat.mod_eq_of_lt h]; rfl
    · rw [List.getElem?_append_right (by rw [hk]; omega), hk, flatMap_getG enc k hk hp l (t - k)]
      have e1 : t / k = (t - k) / k + 1 := by rw [Nat.div_eq_sub_div hp (by omega)]
      have e2 : t % k = (t - k) % k := Nat.mod_eq_sub_mod (by omega)
      rw [e1, e2, List.getElem?_cons_succ]
theorem flatK_listG {α : Type} [Inhabited α] (enc : α → List Value) (k : Nat) (hk : ∀ x, (enc x).length = k) (hp : 0 < k) (d : Array α) : (Go.Sort.flatK enc k d).toList = d.toList.flatMap enc := by
  have hl : ∀ (l : List α), (l.flatMap enc).length = l.length * k := by
    intro l
    induction l with
    | nil => simp
    | cons x l ih => rw [List.flatMap_cons, List.length_append, hk, ih, List.length_cons, Nat.succ_mul]; omega
  refine List.ext_getElem? fun t => ?_
  by_cases h : t < d.size * k
  · have hs : t < (Go.Sort.flatK enc k d).toList.length := by simpa using h
    have hq : t / k < d.size := Nat.div_lt_of_lt_mul (by rw [Nat.mul_comm]; exact h)
    rw [flatMap_getG enc k hk hp, List.getElem?_eq_getElem hs]
    have e1 := Go.Sort.get_flatK enc k d t h
    rw [getElem!_pos (Go.Sort.flatK enc k d) t (by simpa using h), getElem!_pos d (t / k) hq] at e1
    have hm : t % k < (enc d[t / k]).length := by rw [hk]; exact Nat.mod_lt _ hp
    rw [getElem!_pos (enc d[t / k]) (t % k) hm] at e1
    rw [List.getElem?_eq_getElem (by simpa using hq), Option.bind_some]
    simp only [Array.getElem_toList]
    rw [List.getElem?_eq_getElem hm, e1]
  · rw [List.getElem?_eq_none (by simpa using h), List.getElem?_eq_none (by rw [hl]; simpa using h)]
section
variable {α : Type} [Inhabited α] (enc : α → List Value) (k : Nat) (w : World) (blk m : Nat) (dk : Array α) (os : Array Go.Obj)
theorem sg_block {b : Nat} (hne : b ≠ blk) (hb : b < w.heap.size) : (sortWorldK enc k w blk 0 m dk os).heap[b]? = w.heap[b]? := by
  show ((w.heap.modify blk _) ++ os)[b]? = _
  rw [Array.getElem?_append_left (by simpa using hb), Array.getElem?_modify, if_neg (fun e => hne e.symm)]
theorem sg_size : w.heap.size ≤ (sortWorldK enc k w blk 0 m dk os).heap.size := by
  show _ ≤ ((w.heap.modify blk _) ++ os).size
  simp
theorem sg_row {n cap : Nat} {ds : List Value} (h : Row w (slv (some blk) n cap) k n ds (some blk)) (hs : dk.size = n) (hlt : blk < w.heap.size) :
    Row (sortWorldK enc k w blk 0 m dk os) (slv (some blk) n cap) k n (Go.Sort.flatK enc k dk).toList (some blk) := by
  obtain ⟨h0, h⟩ := h
  rcases h with ⟨_, _, h⟩ | ⟨g, cap', cur, e, hv, hg, hh, hc1, hc2, hc3, hc4⟩
  · cases h
  · cases hg
    refine ⟨by simp [hs], .inr ⟨blk, cap', Sort.putCells id 0 (Go.Sort.flatK enc k dk) cur, e, hv, rfl, ?_, hc1, hc2, by simpa [Sort.putCells] using hc3, ?_⟩⟩
    · show ((w.heap.modify blk _) ++ os)[blk]? = _
      rw [Array.getElem?_append_left (by simpa using hlt), Array.getElem?_modify, if_pos rfl, hh]
      rfl
    · have hle : n * k ≤ cap' * k := Nat.mul_le_mul_right k hc1
      refine List.ext_getElem? fun t => ?_
      by_cases ht : t < n * k
      · rw [List.getElem?_take_of_lt ht, List.getElem?_eq_getElem (by simp [Sort.putCells]; omega), List.getElem?_eq_getElem (by simp [hs]; omega)]
        simp only [Array.getElem_toList, Sort.putCells, Array.getElem_mapIdx, id]
        rw [if_pos ⟨Nat.zero_le _, by simp [hs]; omega⟩, Nat.sub_zero, getElem!_pos _ t (by simp [hs]; omega)]
      · rw [List.getElem?_eq_none (by simp; omega), List.getElem?_eq_none (by simp [hs]; omega)]
end
abbrev ElC {β : Type} (e : β → List D) (ok : β → Prop) (A : Nat → Prop) (w : World) : Type := { x : List Value × β // rdCs A w x.1 (e x.2) ∧ ok x.2 }
theorem elc_of {β : Type} {e : β → List D} {ok : β → Prop} {A : Nat → Prop} {w : World} {k : Nat} : ∀ {zs : List β} {ds : List Value}, rdR k A w ds (zs.map e) → (∀ z ∈ zs, ok z) → ∃ xs : List (ElC e ok A w), ds = xs.flatMap (·.1.1) ∧ zs = xs.map (·.1.2)
  | [], ds, h, _ => ⟨[], by have := h.len; simpa using this, rfl⟩
  | z :: zs, ds, h, hz => by
    obtain ⟨c, e', rfl, hy, hc, k1, k2⟩ := h.cons_inv
    obtain ⟨xs, e1, e2⟩ := elc_of k2 (fun z hz' => hz z (by simp [hz']))
    exact ⟨⟨(c, z), k1, hz z (by simp)⟩ :: xs, by rw [e1]; rfl, congrArg (z :: ·) e2⟩
theorem elc_to {β : Type} {e : β → List D} {ok : β → Prop} {A : Nat → Prop} {w w' : World} {k : Nat} (hkp : 0 < k) (hk : ∀ z, (e z).length = k) (hf : ∀ b, A b → b < w.heap.size → w'.heap[b]? = w.heap[b]?) : ∀ (xs : List (ElC e ok A w)), rdR k A w' (xs.flatMap (·.1.1)) ((xs.map (·.1.2)).map e)
  | [] => rdR.nil hkp
  | x :: xs => by
    have h1 := x.2.1.frame hf
    have h2 := elc_to hkp hk hf xs
    rw [List.flatMap_cons]
    exact (rdR.single hkp (hk x.1.2) h1).append h2
section
variable {P : Program} {ρ : Ren} (L : SlLaysF0.n6 P ρ) {β κ : Type} (e : β → List D) {k : Nat} (hkp : 0 < k) (hk : ∀ z, (e z).length = k) (aE : ∀ w, (isAgg (ρ.t 24)).run P w = .ok true w) (zE : ∀ w, (Go.sizeOf (ρ.t 24)).run P w = .ok k w)
  {c : κ → κ → Int} (hc : Cmp c) (key : β → κ) (ok : β → Prop) (z0 : β) (u0 : List Value) (h0 : ∀ A w, rdCs A w u0 (e z0)) (hz0 : ok z0) (g : Nat) (eg : ∀ args w, (callFunc g args).run P w = .ok (.enter g args) w)
  (hcmp : ∀ (W : World) (A : Nat → Prop) (x y : β) (us vs : List Value), (∀ b, A b → b < W.heap.size) → ok x → ok y → rdCs A W us (e x) → rdCs A W vs (e y) →
      Calls P g #[.agg us.toArray, .agg vs.toArray] W fun e w' => e = .returned (.int .i64 (c (key x) (key y))) ∧ ∃ q os', w' = Sort.grow (W.drewN q) os')
include L hkp hk aE zE hc h0 hz0 eg hcmp
set_option maxHeartbeats 1000000 in
theorem a_SortG (call : ∀ args w, (callFunc (ρ.f 6) args).run P w = .ok (.enter (ρ.f 6) args) w) (zs : List β) (hok : ∀ z ∈ zs, ok z) (hn : zs.length ≤ 1000000000) :
    AEf P (ρ.f 6) false [] k (zs.map e) [[.raw (.func (.func g) #[] #[])]] (fun rs oc => rs = [] ∧ ∃ zs' : List β, oc = some (zs'.map e) ∧ zs'.Perm zs ∧ zs'.Pairwise (fun a b => c (key a) (key b) ≤ 0)) := by
  refine ⟨call, fun A w vs us og cap ds hA hv hu hrow _ hel hog => ?_⟩
  have hv : vs = [] := hv
  subst hv
  obtain ⟨u, us', rfl, hu1, hu2⟩ := hu
  have hu2 : us' = [] := hu2
  subst hu2
  have hu1 : u = .func (.func g) #[] #[] := (rdV_raw.1 hu1).1
  subst hu1
  have fin : ∀ w' (zs' : List β) ds', zs'.Perm zs → zs'.Pairwise (fun a b => c (key a) (key b) ≤ 0) → Row w' (slv og zs.length cap) k zs.length ds' og → rdR k A w' ds' (zs'.map e) → Bel ⟨w, fun b => og = some b⟩ w' →
      ∃ v rs oc, (Ending.returned (.tuple #[]) : Ending) = .returned v ∧ (rs = [] ∧ ∃ zs' : List β, oc = some (zs'.map e) ∧ zs'.Perm zs ∧ zs'.Pairwise (fun a b => c (key a) (key b) ≤ 0)) ∧ Bel ⟨w, fun b => og = some b⟩ w' ∧
        relOut A (fun b => w.heap.size ≤ b ∨ (oc = none ∧ og = some b)) w' rs v ∧ Left A w' og cap k oc ∧ ∀ ys, oc = some ys → ys.length = zs.length := by
    intro w' zs' ds' hp hso hrow' hrd' hb
    have hl : (zs'.map e).length = (zs.map e).length := by rw [List.length_map, List.length_map, hp.length_eq]
    refine ⟨.tuple #[], [], some (zs'.map e), rfl, ⟨rfl, zs', rfl, hp, hso⟩, hb, ⟨[], [], [], rfl, List.nodup_nil, by simp, rfl, rfl, rfl⟩, ⟨ds', ?_, hrd'⟩, fun ys e => by cases e; rw [hl, List.length_map]⟩
    rw [hl, List.length_map]
    exact hrow'
  rw [List.length_map] at hrow ⊢
  cases og with
  | none =>
    have hz : zs = [] := List.eq_nil_of_length_eq_zero hrow.len0
    subst hz
    refine (AnyF.slices_SortFunc_none L none 0 _ w).mono ?_
    rintro e' w' ⟨rfl, rfl⟩
    exact fin w' [] ds (List.Perm.refl _) List.Pairwise.nil hrow hel ⟨rfl, rfl, rfl, Nat.le_refl _, fun _ _ _ => rfl⟩
  | some blk =>
    haveI : Inhabited (ElC e ok A w) := ⟨⟨(u0, z0), h0 A w, hz0⟩⟩
    obtain ⟨xs, e1, e2⟩ := elc_of hel hok
    have hlen : xs.toArray.size = zs.length := by rw [e2]; simp
    have hlt := hrow.lt blk rfl
    have hek : ∀ x : ElC e ok A w, x.1.1.length = k := fun x => by rw [x.2.1.len, hk]
    have hH : Go.Sort.HoldsK (fun x : ElC e ok A w => x.1.1) k w blk 0 xs.toArray := fun j hj => by
      rw [Nat.zero_add]
      refine ⟨?_, hrow.frozen j⟩
      have hf := flatK_listG (fun x : ElC e ok A w => x.1.1) k hek hkp xs.toArray
      rw [List.toList_toArray] at hf
      rw [getElem!_pos _ j hj]
      refine hrow.cells j _ ?_
      rw [e1, ← hf, List.getElem?_eq_getElem (by simpa using hj)]
      simp
    have hswo : Go.Sort.SWO (ltOf fun x y : ElC e ok A w => c (key x.1.2) (key y.1.2)) :=
      { irrefl := fun x => decide_eq_false (by show ¬ c _ _ < 0; rw [hc.refl]; omega)
        trans := fun x y z h1 h2 => decide_eq_true (by
          have h1 : c (key x.1.2) (key y.1.2) < 0 := of_decide_eq_true h1
          have h2 : c (key y.1.2) (key z.1.2) < 0 := of_decide_eq_true h2
          have a1 := hc.anti (key x.1.2) (key y.1.2)
          have a2 := hc.anti (key y.1.2) (key z.1.2)
          have a3 := hc.anti (key z.1.2) (key x.1.2)
          have a4 := hc.anti (key x.1.2) (key z.1.2)
          have t1 := hc.trans (key x.1.2) (key y.1.2) (key z.1.2) (by omega) (by omega)
          rcases Int.lt_or_eq_of_le t1 with t | t
          · exact t
          · have e3 := hc.zero _ _ t
            rw [e3] at h1
            omega)
        ntrans := fun x y z h1 h2 => decide_eq_false (by
          have h1 : ¬ c (key x.1.2) (key y.1.2) < 0 := of_decide_eq_false h1
          have h2 : ¬ c (key y.1.2) (key z.1.2) < 0 := of_decide_eq_false h2
          show ¬ c (key x.1.2) (key z.1.2) < 0
          intro h
          have a1 := hc.anti (key x.1.2) (key y.1.2)
          have a2 := hc.anti (key y.1.2) (key z.1.2)
          have := hc.trans (key z.1.2) (key y.1.2) (key x.1.2) (by have := hc.anti (key y.1.2) (key z.1.2); omega) (by have := hc.anti (key x.1.2) (key y.1.2); omega)
          have a3 := hc.anti (key x.1.2) (key z.1.2)
          omega) }
    have hC : CmpLays P g #[] (fun x : ElC e ok A w => x.1.1) k (fun x y : ElC e ok A w => c (key x.1.2) (key y.1.2)) blk 0 xs.toArray.size w := fun m os dk _ x y => by
      have hfr : ∀ b, A b → b < w.heap.size → (sortWorldK (fun x : ElC e ok A w => x.1.1) k w blk 0 m dk os).heap[b]? = w.heap[b]? := fun b hb hl => sg_block _ k w blk m dk os (fun e => hog b (by rw [e]) hb) hl
      exact hcmp _ A x.1.2 y.1.2 _ _ (fun b hb => Nat.lt_of_lt_of_le (hA b hb) (sg_size _ k w blk m dk os)) x.2.2 y.2.2 (x.2.1.frame hfr) (y.2.1.frame hfr)
    have hs := AnyQ.slices_SortFunc L k aE zE (fun x : ElC e ok A w => x.1.1) hek (fun x v hv => x.2.1.one v hv) (fun x y : ElC e ok A w => c (key x.1.2) (key y.1.2)) hswo g #[] blk 0 cap xs.toArray w eg hC hH hlt (by rw [hlen]; omega)
    rw [hlen] at hs
    have hm := Calls.mono hs (R' := fun e' w' => ∃ v rs oc, e' = .returned v ∧ (rs = [] ∧ ∃ zs' : List β, oc = some (zs'.map e) ∧ zs'.Perm zs ∧ zs'.Pairwise (fun a b => c (key a) (key b) ≤ 0)) ∧ Bel ⟨w, fun b => some blk = some b⟩ w' ∧
        relOut A (fun b => w.heap.size ≤ b ∨ (oc = none ∧ some blk = some b)) w' rs v ∧ Left A w' (some blk) cap k oc ∧ ∀ ys, oc = some ys → ys.length = zs.length) ?_
    · exact hm
    rintro e' w' ⟨rfl, d', n, os, ⟨hp1, _, hp3⟩, hsd, rfl⟩
    have hd : d'.size = zs.length := by rw [hp1, hlen]
    refine fin _ (d'.toList.map (·.1.2)) _ ?_ ?_ (sg_row _ k w blk n d' os hrow hd hlt) ?_ ⟨rfl, rfl, rfl, sg_size _ k w blk n d' os, fun b hb hne => sg_block _ k w blk n d' os (fun e => hne (by rw [e])) hb⟩
    · rw [e2]
      refine List.Perm.map _ ?_
      rw [← hlen] at hp3
      rw [show d'.extract 0 xs.toArray.size = d' by rw [← hp1]; simp, show xs.toArray.extract 0 xs.toArray.size = xs.toArray by simp, List.toList_toArray] at hp3
      exact hp3
    · rw [List.pairwise_iff_getElem]
      intro i j hi hj hij
      have hi' : i < d'.size := by simpa using hi
      have hj' : j < d'.size := by simpa using hj
      have h1 := hsd i j (Nat.zero_le _) hij (by omega)
      rw [getElem!_pos d' i hi', getElem!_pos d' j hj'] at h1
      have h1 : ¬ c (key d'[j].1.2) (key d'[i].1.2) < 0 := of_decide_eq_false h1
      have h2 := hc.anti (key d'[j].1.2) (key d'[i].1.2)
      simp only [List.getElem_map, Array.getElem_toList]
      omega
    · rw [flatK_listG _ k hek hkp]
      exact elc_to hkp hk (fun b hb hl => sg_block _ k w blk n d' os (fun e => hog b (by rw [e]) hb) hl) d'.toList
end
end Go.Proofs.YtfhmonacgmakbaaGreat
namespace Go.Proofs.YtfhmonacgmakbaaGreat
open Go.RowKit
def PlainC : List D → List D → Prop
  | [], x' => x' = []
  | x :: xs, x' => ∃ y ys, x' = y :: ys ∧ (isSl x = false → y = x) ∧ PlainC xs ys
def PlainL : List (List D) → List (List D) → Prop
  | [], x' => x' = []
  | x :: xs, x' => ∃ y ys, x' = y :: ys ∧ PlainC x y ∧ PlainL xs ys
theorem tagC_of' {A : Nat → Prop} {w : World} : ∀ {x : List D} {cs : List Value} {F : List Nat}, ownCs w cs x F → (∀ b ∈ F, A b) → ∃ x', TagC x x' F ∧ PlainC x x' ∧ rdCs A w cs x'
  | [], cs, F, h, _ => by
    obtain ⟨d, h1, h2⟩ := h
    exact ⟨[], ⟨rfl, h2⟩, rfl, by rw [h1]; exact rdCs.nil⟩
  | x :: xs, cs, F, h, hA => by
    obtain ⟨v, us, G, H, rfl, rfl, h1, h2⟩ := h.cons_inv
    obtain ⟨ys, h3, h5, h4⟩ := tagC_of' h2 (fun b hb => hA b (List.mem_append_right _ hb))
    cases hx : isSl x with
    | true =>
      exact ⟨.tag G x :: ys, ⟨_, _, G, H, rfl, rfl, .inl rfl, h3⟩, ⟨_, _, rfl, (fun e => by rw [hx] at e; cases e), h5⟩, rdCs.cons (rdV_tag.2 ⟨fun b hb => hA b (List.mem_append_left _ hb), h1⟩) h4⟩
    | false =>
      have hG := ownV_scal_nil hx h1
      subst hG
      exact ⟨x :: ys, ⟨_, _, [], H, rfl, rfl, .inr ⟨hx, rfl, rfl⟩, h3⟩, ⟨_, _, rfl, (fun _ => rfl), h5⟩, rdCs.cons (h1.rd.mono (fun b hb _ => by cases hb)) h4⟩
theorem tagL_of' {A : Nat → Prop} {w : World} {k : Nat} (hk : 0 < k) : ∀ {xs : List (List D)} {ds : List Value} {F : List Nat}, ownR k w ds xs F → (∀ b ∈ F, A b) → ∃ xs', TagL xs xs' F ∧ PlainL xs xs' ∧ rdR k A w ds xs'
  | [], ds, F, h, _ => by
    obtain ⟨d, _, h1, h2⟩ := h
    exact ⟨[], ⟨rfl, h2⟩, rfl, by rw [h1]; exact rdR.nil hk⟩
  | x :: xs, ds, F, h, hA => by
    obtain ⟨c, e, G, H, rfl, rfl, hx, hc, h1, h2⟩ := h.cons_inv
    obtain ⟨y, k1, k5, k2⟩ := tagC_of' h1 (fun b hb => hA b (List.mem_append_left _ hb))
    obtain ⟨ys, k3, k6, k4⟩ := tagL_of' hk h2 (fun b hb => hA b (List.mem_append_right _ hb))
    exact ⟨y :: ys, ⟨y, ys, G, H, rfl, rfl, k1, k3⟩, ⟨_, _, rfl, k5, k6⟩, (rdR.single hk (by rw [k1.len, hx]) k2).append k4⟩
section
variable {P : Program} {cfg : Cfg} {M : Nat → Prop} {ops : Array Oper} {s : St} {w0 : W0} {w : World} {Ok : Nat → Prop} {N : Nat} {σ : Asg} {a : Act} {fs : List Fr} {Q : Exit → St → Prop}
theorem Sim.tagO' (h : Sim w0 Ok N σ s a w) {key k : Nat} {xs : List (List D)} (hk : look key s.heap = some (.row k xs true)) :
    ∃ xs' F, TagL xs xs' F ∧ PlainL xs xs' ∧ F.Nodup ∧ (∀ b ∈ F, w0.mine b) ∧ Sim w0 Ok N σ ⟨s.regs, insR key (.row k xs' false) s.heap⟩ a w := by
  have hro := h.rows key _ hk
  obtain ⟨ds, hrow, hkp, hel⟩ := hro.row
  have hel : ownR k w ds xs (σ.F key) := hel
  have hfp : fp σ key (.row k xs true) = (σ.g key).toList ++ σ.F key := rfl
  obtain ⟨xs', ht, hpl, hrd⟩ := tagL_of' (A := Zn σ s.heap w) hkp hel (RowOK.Fz h.ok1 h.rows h.disj hk rfl)
  refine ⟨xs', σ.F key, ht, hpl, ?_, fun b hb => hro.fresh b (by rw [hfp]; exact List.mem_append_right _ hb), ?_⟩
  · have := hro.nodup; rw [hfp] at this; exact (List.nodup_append.1 this).2.1
  have hl : ∀ q o', look q (insR key (.row k xs' false) s.heap) = some o' → ∃ o, look q s.heap = some o ∧ o.k = o'.k ∧ o.len = o'.len ∧ (∀ b ∈ fp σ q o', b ∈ fp σ q o) ∧ (q = key ∧ o' = .row k xs' false ∨ q ≠ key ∧ o' = o) := by
    intro q o' ho'
    rw [look_ins] at ho'
    split at ho'
    · rename_i e
      subst e
      cases ho'
      refine ⟨_, hk, rfl, ht.len.symm, fun b hb => ?_, .inl ⟨rfl, rfl⟩⟩
      have hb : b ∈ (σ.g key).toList ++ [] := hb
      rw [hfp]
      rw [List.append_nil] at hb
      exact List.mem_append_left _ hb
    · rename_i e
      exact ⟨o', ho', rfl, rfl, fun _ hb => hb, .inr ⟨fun e' => e e'.symm, rfl⟩⟩
  have hZ : Kept σ σ s.heap (insR key (.row k xs' false) s.heap) w w := fun b hb => ⟨⟨hb.1, hb.2.1, fun q o' ho' => by obtain ⟨o, ho, _⟩ := hl q o' ho'; exact hb.2.2 q o ho⟩, rfl⟩
  have hst : ∀ q, Stays σ σ s.heap (insR key (.row k xs' false) s.heap) q := fun q o' ho' => by obtain ⟨o, ho, h1, h2, _⟩ := hl q o' ho'; exact ⟨o, ho, h1, h2, rfl, rfl⟩
  refine h.step rfl h.below hZ (fun r av hr => ⟨av, hr, .inl ⟨rfl, fun q _ => hst q⟩⟩) (fun q o' ho' => ?_) (fun p o1 q u hp hq hpq b hb hb' => ?_)
  · obtain ⟨o, ho, h1, h2, h3, h4⟩ := hl q o' ho'
    rcases h4 with ⟨rfl, rfl⟩ | ⟨hq, rfl⟩
    · obtain rfl : o = .row k xs true := by rw [hk] at ho; cases ho; rfl
      refine ⟨⟨ds, ?_, hkp, ?_⟩, fun b hb => hro.fresh b (h3 b hb), ?_⟩
      · show Row w (slv (σ.g q) xs'.length (σ.cap q)) k xs'.length ds (σ.g q)
        rw [ht.len]; exact hrow
      · show rdR k _ w ds xs'
        exact hrd.mono (fun b hb _ => (hZ b hb).1)
      · have hn := hro.nodup
        rw [hfp] at hn
        show ((σ.g q).toList ++ []).Nodup
        rw [List.append_nil]
        exact (List.nodup_append.1 hn).1
    · exact RowOK.keep h.ok1 h.rows h.disj ho hZ (fun q' _ => hst q') rfl rfl rfl (fun _ _ => rfl)
  · obtain ⟨o2, ho2, _, _, h3, _⟩ := hl p o1 hp
    obtain ⟨u2, hu2, _, _, h4, _⟩ := hl q u hq
    exact h.disj p o2 q u2 ho2 hu2 hpq b (h3 b hb) (h4 b hb')
theorem RunK.tag' {c : Code} (key : Nat) {k : Nat} {xs : List (List D)} (hk : look key s.heap = some (.row k xs true)) (h : ∀ xs' F, TagL xs xs' F → PlainL xs xs' → F.Nodup → (∀ b ∈ F, M b) → RunK P cfg M c fs Q ⟨s.regs, insR key (.row k xs' false) s.heap⟩) : RunK P cfg M c fs Q s := by
  intro w0 Ok σ a w Q' hM hS hQ
  obtain ⟨xs', F, h1, h5, h2, h3, h4⟩ := Sim.tagO' hS hk
  exact h xs' F h1 h5 h2 (fun b hb => hM ▸ h3 b hb) w0 Ok σ a w Q' hM h4 hQ
end
section
variable {P : Program} {cfg : Cfg} {M : Nat → Prop} {ops : Array Oper} {s : St}
theorem ROps.callEf (C : CfgOK P cfg) {o : Oper} {l : List Oper} {Q : St → Prop} (hg : o.guard = none) {d : Nat} (hod : o.dst = some d) (hdN : d < cfg.N) {f : Operand} {args : Array Operand} {ts : Array TypeId} {g : FuncId}
    (ho : o.op = .call ⟨.value f, args, ts⟩) (hf : ((opv s.regs f).bind avD).bind fnId = some g) {x : Operand} {xpost : List Operand} {tpost : List TypeId} (ha : args.toList = x :: xpost) {t0 : TypeId} (hts : ts.toList = t0 :: tpost) {post : List (List D)}
    (hpost : aargs cfg (fun k => look k s.heap) s.regs xpost tpost = some post) (hr2 : opRefs s.regs xpost = []) {key n k : Nat} {xs : List (List D)} (hxv : opv s.regs x = some (.c (.own key n))) (hk : look key s.heap = some (.row k xs false))
    (hnr : ∀ q u, q ≠ key → look q s.heap = some u → key ∉ u.refs) {Q0 : List Res → Option (List (List D)) → Prop} (hfn : AEf P g false [] k xs post Q0) {R : List (List D) → Prop} (hQ0 : ∀ rs oc, Q0 rs oc → rs = [] ∧ ∃ ys, oc = some ys ∧ R ys)
    (h : ∀ ys, R ys → ROps P cfg M ops l Q ⟨insR d (.tup []) s.regs, insR key (.row k ys false) s.heap⟩) : ROps P cfg M ops (o :: l) Q s := by
  intro w0 Ok σ a w Q' hM hS hQ
  refine wpList_step (fun K hK => ?_)
  have hw : awanted ops s.regs o = some true := by unfold awanted; rw [hg]
  rw [awanted_spec hS hw]
  simp only [if_true]
  refine n_callE C hS ho hf (ptr := false) (xpre := []) (tpre := []) (pre := []) (by rw [ha]; rfl) rfl hpost rfl hr2 hxv hk (fun e => nomatch e) hnr hfn (dk := d) (fun rs oc hq q ob hl => ?_) (fun rs oc hq v w' σ' hv hS' => ?_)
  · obtain ⟨rfl, _⟩ := hQ0 _ _ hq
    cases hl
  · obtain ⟨rfl, ys, rfl, hR⟩ := hQ0 _ _ hq
    rw [hod]
    have hsub : ∀ q o', look q (insR key (.row k ys false) s.heap) = some o' → look q (heapE key k (some ys) [] s.heap) = some o' := by
      intro q o' hq
      rw [look_ins] at hq
      unfold heapE
      rw [List.nil_append, look_append, look_left]
      simp only
      by_cases e : key = q
      · rw [if_pos e]; rw [if_pos e] at hq; exact hq
      · rw [if_neg e]
        rw [if_neg e] at hq
        rw [look_drop, if_neg (fun h => e h.symm)]
        exact hq
    have hR' : Sim w0 Ok cfg.N σ' ⟨s.regs, heapE key k (some ys) [] s.heap⟩ a w' := hS'
    exact hK _ _ (h ys hR w0 Ok σ' _ _ Q' hM (Sim.ins (hR'.forget (fun _ _ h => h) hsub) hdN (hv.sub hsub)) hQ)
end
end Go.Proofs.YtfhmonacgmakbaaGreat
namespace Go.Proofs.YtfhmonacgmakbaaGreat
open Go.RowKit
theorem exists_not {l : List Nat} : ∃ k, k ∉ l := by
  have key : ∀ (l : List Nat), ∀ x ∈ l, x ≤ l.sum := by
    intro l
    induction l with
    | nil => intro x hx; cases hx
    | cons y l ih =>
      intro x hx
      rw [List.sum_cons]
      rcases List.mem_cons.1 hx with rfl | hx
      · omega
      · have := ih x hx; omega
  exact ⟨l.sum + 1, fun h => by have := key l _ h; omega⟩
theorem exists_free (s : St) : ∃ k, Free s k := by
  obtain ⟨k, hk⟩ := exists_not (l := s.heap.map (·.1) ++ s.regs.flatMap (·.2.refs) ++ s.heap.flatMap (·.2.refs))
  simp only [List.mem_append, not_or] at hk
  obtain ⟨⟨h1, h2⟩, h3⟩ := hk
  refine ⟨k, ?_, fun r av hr hm => h2 (List.mem_flatMap.2 ⟨_, look_all hr, hm⟩), fun q u hq hm => h3 (List.mem_flatMap.2 ⟨_, look_all hq, hm⟩)⟩
  cases e : look k s.heap with
  | none => rfl
  | some o => exact absurd (List.mem_map.2 ⟨_, look_all e, rfl⟩) h1
theorem AC.frz_id {key k : Nat} {xs : List (List D)} {x : AC} (h : key ∉ x.refs) : x.frz key k xs = x := by
  cases x with
  | own q n => simp only [AC.refs, List.mem_singleton] at h; simp only [AC.frz]; rw [if_neg (fun e => h e.symm)]
  | view q i n => simp only [AC.refs, List.mem_singleton] at h; simp only [AC.frz]; rw [if_neg (fun e => h e.symm)]
  | _ => rfl
theorem acs_frz_id {key k : Nat} {xs : List (List D)} : ∀ {cs : List AC}, key ∉ cs.flatMap AC.refs → cs.map (AC.frz key k xs) = cs
  | [], _ => rfl
  | c :: cs, h => by
    rw [List.flatMap_cons, List.mem_append, not_or] at h
    rw [List.map_cons, AC.frz_id h.1, acs_frz_id h.2]
theorem AV.frz_id {key k : Nat} {xs : List (List D)} {x : AV} (h : key ∉ x.refs) : x.frz key k xs = x := by
  cases x with
  | c x => simp only [AV.frz]; rw [AC.frz_id h]
  | eptr => rfl
  | optr q i j => simp only [AV.refs, List.mem_singleton] at h; simp only [AV.frz]; rw [if_neg (fun e => h e.symm)]
  | agg cs => simp only [AV.frz]; rw [acs_frz_id h]
  | tup cs => simp only [AV.frz]; rw [acs_frz_id h]
  | dead => rfl
theorem Obj.frz_id {key k : Nat} {xs : List (List D)} {o : Obj} (h : key ∉ o.refs) : o.frz key k xs = o := by
  cases o with
  | row => rfl
  | lit k' css =>
    simp only [Obj.frz]
    congr 1
    have h : key ∉ css.flatMap (·.flatMap AC.refs) := h
    have : ∀ css : List (List AC), key ∉ css.flatMap (·.flatMap AC.refs) → css.map (·.map (AC.frz key k xs)) = css := by
      intro css
      induction css with
      | nil => intro _; rfl
      | cons c css ih =>
        intro h
        rw [List.flatMap_cons, List.mem_append, not_or] at h
        rw [List.map_cons, acs_frz_id h.1, ih h.2]
    exact this css h
section
variable {P : Program} {cfg : Cfg} {M : Nat → Prop} {ops : Array Oper} {s s' : St} {w0 : W0} {w : World} {Ok : Nat → Prop} {N : Nat} {σ : Asg} {a : Act} {fs : List Fr} {Q : Exit → St → Prop} {T : Tab P}
def devalB (cfg : Cfg) (ops : Array Oper) (o : Oper) (s : St) : Option Tel :=
  match o.op with
  | .buildSlice t len parts => if dstOK cfg o = true ∧ awanted ops s.regs o = some true then
      o.dst.bind fun d => (cfg.sl t).bind fun i => if len = parts.size ∧ len * i.z.length ≤ 16777216 then (aparts s.regs 0 parts.toList).bind fun css => (rowsD i.z css).map fun r => ⟨⟨d, .c (.val (.sl i.z.length r.1)), []⟩, opRefs s.regs o.op.operands.toList⟩ else Option.none
    else Option.none
  | _ => Option.none
theorem Does1.lit (C : CfgOK P cfg) {i : Nat} {o : Oper} (hi : ops[i]? = some o) {t : Tel} (h : devalB cfg ops o s = some t) : Does1 P cfg ops i s t := by
  unfold devalB at h
  split at h
  · rename_i ty len parts hop
    split at h
    · rename_i hc
      obtain ⟨d, hd, h⟩ := bind_some h
      obtain ⟨it, hit, h⟩ := bind_some h
      split at h
      · rename_i hsz
        obtain ⟨css, hcss, h⟩ := bind_some h
        obtain ⟨⟨xs, b⟩, hr, rfl⟩ := map_some h
        refine ⟨o, hi, hd, fun s' h1 h2 h3 w0 Ok σ a w K Q hS hK => ?_⟩
        have hw : awanted ops s'.regs o = some true := by rw [awanted_congr h1, hc.2]
        have hopl : o.op.operands.toList = parts.toList.map (·.2) := by rw [hop]; rfl
        have hag := agree_of (xs := o.op.operands.toList) (fun x hx => hx) h1 h2
        rw [hopl] at hag
        have hcss' : aparts s'.regs 0 parts.toList = some css := by rw [aparts_congr hag, hcss]
        obtain ⟨q, hq⟩ := exists_free s'
        have hmk : mkObj it.z css = some (.row it.z.length xs b) := by unfold mkObj; rw [hr]
        have ha : anew cfg (fun k => look k s'.heap) s'.regs q o.op = some (.c (.own q len), [(q, .row it.z.length xs b)]) := by
          rw [hop]
          simp only [anew, hit, Option.bind_some]
          rw [if_pos hsz, hcss']
          simp only [Option.bind_some, hmk, Option.map_some]
        unfold wpOp
        simp only [hi, awanted_spec hS hw, if_true]
        left
        have hdN : d < cfg.N := by have := hc.1; rw [dstOK, hd] at this; simpa using this
        refine anew_doesF C hS (news := [(q, .row it.z.length xs b)]) (av := .c (.own q len)) ha (fun p ob hp => ?_) _ _ (fun v w' σ' hv hS' => ?_)
        · have hp : (if q = p then some (Obj.row it.z.length xs b) else none) = some ob := hp
          split at hp
          · rename_i e; subst e; exact hq
          · cases hp
        · rw [hd]
          have hS1 := Sim.ins hS' hdN hv
          have hS2 := Sim.frz hS1 q
          refine hK σ' _ _ ?_
          have hlq : look q (⟨insR d (.c (.own q len)) s'.regs, [(q, Obj.row it.z.length xs b)] ++ s'.heap⟩ : St).heap = some (.row it.z.length xs b) := by show look q ((q, Obj.row it.z.length xs b) :: s'.heap) = _; rw [look, if_pos rfl]
          have e : (⟨insR d (.c (.own q len)) s'.regs, [(q, Obj.row it.z.length xs b)] ++ s'.heap⟩ : St).frz q = ⟨frzR q it.z.length xs (insR d (.c (.own q len)) s'.regs), frzH q it.z.length xs (drop q ([(q, Obj.row it.z.length xs b)] ++ s'.heap))⟩ := by
            unfold St.frz; rw [hlq]
          rw [e] at hS2
          refine hS2.forget (fun r av hr => ?_) (fun k o' ho' => ?_)
          · have hr : look r (insR d (.c (.val (.sl it.z.length xs))) s'.regs) = some av := hr
            rw [look_ins] at hr
            show look r (frzR q it.z.length xs (insR d (.c (.own q len)) s'.regs)) = _
            rw [look_frzR, look_ins]
            by_cases er : d = r
            · rw [if_pos er] at hr ⊢
              cases hr
              show some (AV.c (if q = q then AC.val (.sl it.z.length xs) else AC.own q len)) = _
              rw [if_pos rfl]
            · rw [if_neg er] at hr ⊢
              rw [hr]
              show some (av.frz q it.z.length xs) = _
              rw [AV.frz_id (hq.2.1 r av hr)]
          · have ho' : look k s'.heap = some o' := ho'
            show look k (frzH q it.z.length xs (drop q ((q, Obj.row it.z.length xs b) :: s'.heap))) = _
            have hkq : k ≠ q := by rintro rfl; rw [hq.1] at ho'; cases ho'
            rw [look_frzH, look_drop, if_neg hkq, look, if_neg (fun e => hkq e.symm), ho']
            show some (o'.frz q it.z.length xs) = _
            rw [Obj.frz_id (hq.2.2 k o' ho')]
      · cases h
    · cases h
  · cases h
def devalF (fz : List Nat) (cfg : Cfg) (T : Tab P) (ops : Array Oper) (o : Oper) (s : St) : Option Tel :=
  bif fz.contains (o.dst.getD 0) then devalB cfg ops o s else devalT cfg T ops o s
def drunF (fz : List Nat) (cfg : Cfg) (T : Tab P) (ops : Array Oper) : List Oper → St → List Tel × St × List Oper
  | [], s => ([], s, [])
  | o :: l, s => match devalF fz cfg T ops o s with
    | some t => ((t :: (drunF fz cfg T ops l (s.add t.e)).1), (drunF fz cfg T ops l (s.add t.e)).2)
    | Option.none => ([], s, o :: l)
theorem drunF_spec {fz : List Nat} (C : CfgOK P cfg) : ∀ {l : List Oper} {i : Nat} {s : St}, (∀ j, l[j]? = ops[i + j]?) → Tr P cfg ops i s (drunF fz cfg T ops l s).1 ∧
    (drunF fz cfg T ops l s).2.1 = (drunF fz cfg T ops l s).1.foldl (fun s t => s.add t.e) s ∧ (drunF fz cfg T ops l s).2.2 = l.drop (drunF fz cfg T ops l s).1.length
  | [], i, s, _ => ⟨trivial, rfl, rfl⟩
  | o :: l, i, s, hl => by
    have hi : ops[i]? = some o := by have := hl 0; simpa using this.symm
    simp only [drunF]
    cases hd : devalF fz cfg T ops o s with
    | none => exact ⟨trivial, rfl, rfl⟩
    | some t =>
      obtain ⟨h1, h2, h3⟩ := drunF_spec (fz := fz) C (l := l) (i := i + 1) (s := s.add t.e) (fun j => by have := hl (j + 1); simpa [Nat.add_assoc, Nat.add_comm 1 j] using this)
      refine ⟨⟨?_, h1⟩, by simpa using h2, by simpa using h3⟩
      unfold devalF at hd
      cases hb : fz.contains (o.dst.getD 0) with
      | true => rw [hb] at hd; exact Does1.lit C hi hd
      | false => rw [hb] at hd; exact Does1.opT C hi hd
def dregF (s : St) : List Tel × St × List Oper → Option (List Tel × St × List Oper)
  | (tr, s1, rest) => if tr.all (fun t => t.e.news.all fun p => fresh s p.1) = true then some (tr, s1, rest) else Option.none
theorem dregF_mk (s : St) (tr : List Tel) (s1 : St) (rest : List Oper) : dregF s (tr, s1, rest) = if tr.all (fun t => t.e.news.all fun p => fresh s p.1) = true then some (tr, s1, rest) else Option.none := rfl
theorem RunK.wFz (C : CfgOK P cfg) (T : Tab P) (hm : P.follows .mixedOrders = true) (fz : List Nat) {id : Nat} {tr : List Tel} {s1 : St} {rest : List Oper} (hr : Work (dregF s (drunF fz cfg T ops ops.toList s)) (some (tr, s1, rest))) (h1 : ChkD ops tr)
    (h : ROps P cfg M ops rest (outK P cfg M fs Q .normal) s1) : RunK P cfg M (.region id ops true) fs Q s := by
  have hr : dregF s (drunF fz cfg T ops ops.toList s) = some (tr, s1, rest) := hr
  obtain ⟨⟨tr0, s10, rest0⟩, e⟩ : ∃ r, r = drunF fz cfg T ops ops.toList s := ⟨_, rfl⟩
  rw [← e, dregF_mk] at hr
  split at hr
  · rename_i hf
    cases hr
    obtain ⟨k1, k2, k3⟩ := drunF_spec (T := T) (fz := fz) C (ops := ops) (l := ops.toList) (i := 0) (s := s) (fun j => by simp)
    rw [← e] at k1 k2 k3
    refine Runs.draw hm k1 h1 hf ?_
    show ROps P cfg M ops (ops.toList.drop tr.length) _ (tr.foldl (fun s t => s.add t.e) s)
    rw [← k2, ← k3]
    exact h
  · cases hr
end
end Go.Proofs.YtfhmonacgmakbaaGreat
