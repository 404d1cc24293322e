/- Forests: the reference's sort. -/
import Derived.Test.YtdjkmjifeekimaaForest
import Derived.BigQuiet
set_option linter.unusedSimpArgs false
set_option linter.unusedVariables false
namespace Go.Proofs.Ytdjkmjifeekimaa
open Go.RowKit

theorem sortC_take_succ' {c : List Int → List Int → Int} {t : List (List Int)} (k : Nat) (h : k < t.length) : sortC c (t.take (k + 1)) = ins c t[k] (sortC c (t.take k)) := by
  rw [List.take_succ_eq_append_getElem h, sortC_snoc]

/-- A copy of a list as a step of a region that draws its order. -/
theorem own_step {W : World} {ops : Array Oper} {o : Oper} {a : Act} {K : Act → World → Prop} {Q : Exit → Act → World → Prop} {E : Prop} (hgd : o.guard = none) (args : Array Operand) (ts : Array TypeId)
    (ho : o.op = .call { callee := .value (.func 95), args := args, argTypes := ts }) (v : Value) (x : List Int) (hv : args.map a.eval = #[v]) (wb : World) (hW : W.heap = wb.heap) (hr : Rd (RS RI) wb [v] x) (hxl : x.length ≤ 1000000000)
    (h : ∀ ou cu w2, Own (RS RI) wb.heap.size w2.heap.size w2 [.slice ou x.length cu] x → Below wb.heap.size W w2 → wb.heap.size ≤ w2.heap.size → K (a.put o.dst (.slice ou x.length cu)) w2) :
    if Region.wanted o (yielded ops a.tmps) = true then Oper.wp Try.prog o a W K Q else E := by
  refine step_call hgd 95 args ts ho (enters (P := Try.prog) (f := 95) Try.func95 (by kernel_rfl) rfl) #[v] hv ?_
  refine (c_spec_l01Own v x W (hr.of_heap hW) hxl).mono ?_
  rintro e w2 ⟨u, rfl, o2, b2⟩
  obtain ⟨ou, cu, rfl, _⟩ := o2.val
  rw [hW] at o2 b2
  exact ⟨_, rfl, h ou cu w2 o2 b2 (by have := b2.size; rw [hW] at this; exact this)⟩

set_option maxRecDepth 100000 in
set_option maxHeartbeats 4000000 in
theorem c_spec_l03Sort (v : Value) (bs : List (List Int)) (w : World) (h : Rd (RS (RS RI)) w [v] bs) (hsz : bs.length ≤ 1000000) (hsl : ∀ b ∈ bs, b.length ≤ 1000000000) :
    Calls Try.prog 69 #[v] w (RetO (RS (RS RI)) w (forest bs)) := by
  obtain ⟨oa, cap, L⟩ := h.lists
  obtain rfl := L.val
  have m1 := L.le; have m2 := L.capLe
  have HL := Lib.hid L
  have HS := Lib.hid hsl
  have EGL := Lib.hid (enters (P := Try.prog) (f := 95) Try.func95 (by kernel_rfl) rfl)
  clear L h hsl
  go_enter Try.func69, Try.ntmps69
  go_wp2_with fail
  go_loopw [3, 4] (fun o i wr => ∃ (k : Nat) (ys : List (List Int)), k ≤ bs.length ∧ i = .int .i64 k ∧ Hid (ys = sortC cmpT (bs.take k)) ∧ Hid (ys.length = k) ∧ (∃ g cap, o = .slice (some ⟨g, 0, none⟩) ys.length cap) ∧ Hid (Own (RS (RS RI)) w.heap.size wr.heap.size wr [o] ys) ∧ Below w.heap.size w wr) (fun _ i _ => bs.length - (intOf i).toNat)
  case atStart => exact ⟨0, [], Nat.zero_le _, rfl, Lib.hid (by simp [sortC]), Lib.hid rfl, ⟨_, _, rfl⟩, Lib.hid ((Own.empty (R := RS RI) (w := w) 28 w.heap.size (Nat.le_refl _)).top _ (by simp)), (Below.refl _ _).alloc (Nat.le_refl _) _⟩
  case round =>
    obtain ⟨k, ys, hk, rfl, hys, Hyl, ⟨g0, cap0, rfl⟩, hown, hbel⟩ := hrel
    have hsz2 := hbel.size
    obtain ⟨wo, hwo⟩ : ∃ wo : World, wo = wr := ⟨_, rfl⟩
    subst hwo
    by_cases hlt : k < bs.length
    · obtain ⟨b, off, rfl, hb, hc⟩ := HL.out.get hlt
      obtain ⟨oi, ci, g1, hrd, q1, q2⟩ := hc k hlt
      have g2 : wo.cell? ⟨b, off + k, none⟩ = some (.slice oi bs[k].length ci) := (hbel.cell (p := ⟨b, off + k, none⟩) hb).trans g1
      have hst := sortC_take_succ' (c := cmpT) k hlt
      rw [← hys.out] at hst
      obtain ⟨x, hx⟩ : ∃ x, x = bs[k] := ⟨_, rfl⟩
      have hxl : x.length ≤ 1000000000 := by rw [hx]; exact HS.out _ (List.getElem_mem hlt)
      rw [← hx] at g2 hrd q1 hst
      have HST := Lib.hid hst
      have HR := Lib.hid (hrd.below hbel (Nat.le_refl _))
      have HOO : Hid (∀ (W' w2 : World), W'.heap = wo.heap → Below wo.heap.size W' w2 → Own (RS (RS RI)) w.heap.size wo.heap.size w2 [.slice (some ⟨g0, 0, none⟩) ys.length cap0] ys) := Lib.hid (fun W' w2 e b => (hown.out.of_heap e).below b (Nat.le_refl _))
      have ik1 : (0 : Int) ≤ (k : Int) := by omega
      have ik2 : (k : Int) < (bs.length : Int) := by omega
      clear hst hc g1 hx hrd
      go_wp2_with fail
      go_loopw [5] (fun i wr => ∃ (j : Nat), j ≤ ys.length ∧ i = .int .i64 j ∧ Hid (∀ q (h : q < ys.length), q < j → ¬ cmpT x ys[q] < 0) ∧ ∃ n, wr = wo.drewN n) (fun i _ => ys.length - (intOf i).toNat)
      case atStart => exact ⟨0, Nat.zero_le _, rfl, Lib.hid (fun q _ h => by omega), 0, rfl⟩
      case round =>
        obtain ⟨j, hj, rfl, hall, nd, rfl⟩ := hrel
        have HO3 : Hid (Own (RS (RS RI)) w.heap.size wo.heap.size (wo.drewN nd) [.slice (some ⟨g0, 0, none⟩) ys.length cap0] ys) := hown.out.of_heap rfl
        have g3 : (wo.drewN nd).cell? ⟨b, off + k, none⟩ = some (.slice oi x.length ci) := g2
        have hyb : ys.length ≤ 1000000 := by rw [Hyl.out]; omega
        have hle4 := hown.out.val
        obtain ⟨_, _, ev, le4, _⟩ := hle4
        simp only [Value.slice.injEq, true_and] at ev
        obtain ⟨rfl, rfl⟩ := ev
        by_cases hjl : j < ys.length
        · obtain ⟨g', cap', h0, hv, q1', q2', hg1', hg2', hcell, hel⟩ := HO3.out.elem j hjl
          simp only [Value.slice.injEq, true_and] at hv
          obtain ⟨e1, e2⟩ := hv
          simp only [Option.some.injEq, Addr.mk.injEq, and_true] at e1
          subst e1; subst e2
          obtain ⟨oj, cj, rfl, _⟩ := hel.val
          have hls : ∀ a, Calls Try.prog 68 #[.slice oi x.length ci, .slice oj ys[j].length cj] (wo.drewN (nd + a)) (RetQ (wo.drewN (nd + a)) (.bool (decide (cmpT x ys[j] < 0)))) := fun a => c_spec_l03Before _ _ x ys[j] _ (HR.out.of_heap rfl) (hel.rd.of_heap rfl)
          obtain ⟨yl, hyl'⟩ : ∃ yl, yl = ys[j].length := ⟨_, rfl⟩
          rw [← hyl'] at hls hcell
          replace hcell : wo.cell? ⟨g0, j, none⟩ = some (.slice oj yl cj) := hcell
          have ij1 : (0 : Int) ≤ (j : Int) := by omega
          have ij2 : (j : Int) < (ys.length : Int) := by omega
          have ij3 : decide ((j : Int) < (ys.length : Int)) = true := decide_eq_true ij2
          clear hel hyl'
          by_cases hle : cmpT x ys[j] < 0
          · have hd : decide (cmpT x ys[j] < 0) = true := decide_eq_true hle
            rw [hd] at hls
            have HLS := Lib.hid hls
            have HE : Hid (ins cmpT x ys = ys.take j ++ x :: ys.drop j) := Lib.hid (ins_at hj hall.out (fun _ => hle))
            clear hd hle hls
            go_wp2_with fail
            go_quiet ((go_at_call 68; exact Calls.qQ' (HLS.out _)))
            clear HLS hcell
            have hcj : ¬ cap0 = j := by omega
            go_wp2_with fail
            go_region_law (first
              | (refine own_step rfl _ _ rfl (.slice oi x.length ci) x (by simp [Act.eval]) wo (by rfl) HR.out hxl ?_; intro ou cu w2 o2 b2 hsz5; have HO4 := HOO.out _ _ (by rfl) b2; obtain ⟨d1, d2, t1l, t2l, t1, t2, t3, hcl, hmk⟩ := HO4.insRow (R := RS RI) rfl hsz5 hsz2 o2 j hj; rw [← HE.out, ← HST.out] at hmk; have T1L := Lib.hid t1l; have T2L := Lib.hid t2l; have hbel4 : Below w.heap.size w w2 := (hbel.trans (Below.drewN _ _ _)).trans (b2.mono hsz2); clear t1l t2l o2 HO4)
              | (refine step_appendS rfl _ _ 22 rfl 28 (.slice none 0 0) 1 24 tI64S (.slice (some ⟨w2.heap.size, 0, none⟩) 1 1) 1 [.slice ou x.length cu] (some w2.heap.size) rfl (by simpa using Row.lit w2 #[.slice ou x.length cu] 28 1 1 (by decide) (by simp)) _ _ _ d2 rfl (by have := T2L.out; omega) (by intro h; cases h) (by intro a ha i u hi; cases ha; rw [Addr.add_lit]; exact (hcl (w2.alloc _) ((Below.refl _ _).alloc (Nat.le_refl _) _)).2 i u hi) t2 (by have := T2L.out; omega) (by have := T2L.out; unfold maxLen; omega) ?_; intro vA wA ogA happA))
            all_goals
              replace happA : Appended (w2.alloc (.cells #[.slice ou x.length cu] 28)) wA vA 1 (1 + d2.length) ([.slice ou x.length cu] ++ d2) (some w2.heap.size) ogA := by have e := T2L.out; first | exact happA | (rw [e]; simpa using happA)
              obtain ⟨oA, capA, rfl, pA1, pA2⟩ := happA.1.val
              unfold maxLen at pA2
              have lowA := happA.low (B := (w2).heap.size) (by simp) (fun g hg => by cases hg; exact Nat.le_refl _)
              have belA : Below (w2).heap.size (w2) wA := ((Below.refl _ _).alloc (Nat.le_refl _) _).trans lowA.2
              have sA := belA.size
              have HA := Lib.hid happA.1
              have HogA := Lib.hid lowA.1
              have CA := (hcl wA belA).1
              clear happA lowA
              -- what stands ahead
              go_wp2_with (at_builtin; refine StopAt (o := ⟨some 46, _, _, _, _, _⟩) ?_)
              refine Stop.go ?_
              refine wpList_appendS rfl _ _ 22 rfl 28 (.slice none 0 0) 1 24 tI64S (.slice (some ⟨wA.heap.size, 0, none⟩) 0 0) 0 [] (some wA.heap.size) rfl (by simpa using Row.lit wA #[] 28 1 0 (by decide) (by simp)) (some ⟨g0, 0, none⟩) j _ d1 rfl (by have := T1L.out; omega) (fun h => by cases h) (by intro a ha i u hi; cases ha; rw [Addr.add_lit, Nat.zero_add]; have := (hcl (wA.alloc (.cells #[] 28)) (belA.alloc sA _)).1 i u hi; exact this) t1 (by have := T1L.out; omega) (by unfold maxLen; omega) ?_
              intro vB wB ogB happB
              rw [Nat.zero_add, List.nil_append] at happB
              obtain ⟨oB, capB, rfl, pB1, pB2⟩ := happB.1.val
              unfold maxLen at pB2
              have lowB := happB.low (B := (w2).heap.size) (Nat.le_trans sA (by simp)) (fun g hg => by cases hg; exact sA)
              have lowB2 := happB.low (B := wA.heap.size) (by simp) (fun g hg => by cases hg; exact Nat.le_refl _)
              have belB2 : Below wA.heap.size wA wB := ((Below.refl _ _).alloc (Nat.le_refl _) _).trans lowB2.2
              have belB : Below (w2).heap.size (w2) wB := belA.trans (belB2.mono sA)
              have sB := belB.size
              have hrA : Row wB (.slice oA (1 + d2.length) capA) 1 (1 + d2.length) ([(.slice ou x.length cu)] ++ d2) ogA := HA.out.frame (fun g hg => belB2.block g (HA.out.lt g hg))
              obtain ⟨gA, hgA⟩ := hrA.some_of (j := 0) (by omega)
              subst hgA
              obtain ⟨oA', cA', eA, _, _, _, eA2⟩ := hrA.value
              simp only [Value.slice.injEq, true_and] at eA
              obtain ⟨rfl, rfl⟩ := eA
              simp only [Option.map_some] at eA2
              subst eA2
              have HRA := Lib.hid hrA
              have HB := Lib.hid happB.1
              have HogB := Lib.hid lowB.1
              clear hrA happB lowB lowB2 CA
              go_wp2_with (at_builtin; refine StopAt (o := ⟨some 48, _, _, _, _, _⟩) ?_)
              refine Stop.go ?_
              refine wpList_appendS rfl _ _ 22 rfl 28 (.slice none 0 0) 1 24 tI64S (.slice oB j capB) j d1 ogB rfl HB.out (some ⟨gA, 0, none⟩) _ _ ([(.slice ou x.length cu)] ++ d2) rfl (by simp <;> omega) (fun h => by cases h) (by intro a ha i u hi; cases ha; rw [Addr.add_lit, Nat.zero_add]; exact HRA.out.cells i u hi) (fun u hu => (List.mem_append.1 hu).elim (fun h => by simp at h; subst h; exact t3) (t2 u)) (by have := T2L.out; omega) (by have := T2L.out; unfold maxLen; omega) ?_
              intro vC wC ogC happC
              have lowC := happC.low (B := (w2).heap.size) sB HogB.out
              have belC : Below (w2).heap.size (w2) wC := belB.trans lowC.2
              have hrC := happC.1
              have eN : j + (1 + d2.length) = ys.length + 1 := by have := T1L.out; have := T2L.out; omega
              rw [eN, List.singleton_append] at hrC
              have hfin := hmk wC vC ogC belC hrC lowC.1
              obtain ⟨gC, hgC⟩ := hrC.some_of (j := 0) (by omega)
              subst hgC
              obtain ⟨capC, hvC, _, _⟩ := hrC.slice
              subst hvC
              have HFIN := Lib.hid hfin
              clear hfin hrC happC lowC HA HB HRA HogA HogB eN
              have hfl : (sortC cmpT (bs.take (k + 1))).length = ys.length + 1 := by rw [sortC_length]; simp; rw [Hyl.out]; omega
              obtain ⟨zs, hzs⟩ : ∃ zs, zs = sortC cmpT (bs.take (k + 1)) := ⟨_, rfl⟩
              rw [← hzs] at HFIN hfl
              have hkz : zs.length = k + 1 := by rw [hfl, Hyl.out]
              rw [← hfl] at HFIN
              rw [← hfl]
              have HZ := Lib.hid hzs
              have HKZ := Lib.hid hkz
              clear hzs hfl hkz
              go_wp2_with fail
              go_roundw
              case rel => exact ⟨k + 1, zs, by omega, by go_num, HZ, HKZ, ⟨_, _, rfl⟩, HFIN, hbel4.trans (belC.mono (Nat.le_trans hsz2 hsz5))⟩
              case measure => simp [intOf]; omega

          · have hd : decide (cmpT x ys[j] < 0) = false := decide_eq_false hle
            rw [hd] at hls
            have HLS := Lib.hid hls
            have HN : Hid (¬ cmpT x ys[j] < 0) := Lib.hid hle
            clear hd hle hls
            go_wp2_with fail
            go_quiet ((go_at_call 68; exact Calls.qQ' (HLS.out _)))
            go_wp2_with fail
            go_roundw
            case rel =>
              refine ⟨j + 1, by omega, by go_num, Lib.hid (fun q h hq => ?_), (by first | exact drewN1 _ _ | exact drewN2 _ _ _ | exact drewN3 _ _ _ _)⟩
              by_cases hqj : q = j
              · subst hqj; have := HN.out; omega
              · have := hall.out q h (by omega); omega
            case measure => simp [intOf]; omega
        · obtain rfl : j = ys.length := by omega
          have HE : Hid (ins cmpT x ys = ys.take ys.length ++ x :: ys.drop ys.length) := Lib.hid (ins_at hj hall.out (fun h => by omega))
          have ij3 : decide ((ys.length : Int) < (ys.length : Int)) = false := by simp
          go_wp2_with fail
          go_quiet (fail)
          by_cases hcj : cap0 = ys.length
          all_goals
            go_wp2_with fail
            go_region_law (first
              | (refine own_step rfl _ _ rfl (.slice oi x.length ci) x (by simp [Act.eval]) wo (by rfl) HR.out hxl ?_; intro ou cu w2 o2 b2 hsz5; have HO4 := HOO.out _ _ (by rfl) b2; obtain ⟨d1, d2, t1l, t2l, t1, t2, t3, hcl, hmk⟩ := HO4.insRow (R := RS RI) rfl hsz5 hsz2 o2 ys.length hj; rw [← HE.out, ← HST.out] at hmk; have T1L := Lib.hid t1l; have T2L := Lib.hid t2l; have hbel4 : Below w.heap.size w w2 := (hbel.trans (Below.drewN _ _ _)).trans (b2.mono hsz2); clear t1l t2l o2 HO4)
              | (refine step_appendS rfl _ _ 22 rfl 28 (.slice none 0 0) 1 24 tI64S (.slice (some ⟨w2.heap.size, 0, none⟩) 1 1) 1 [.slice ou x.length cu] (some w2.heap.size) rfl (by simpa using Row.lit w2 #[.slice ou x.length cu] 28 1 1 (by decide) (by simp)) _ _ _ d2 rfl (by have := T2L.out; omega) (by intro h; simp) (by intro a ha i u hi; rw [List.eq_nil_of_length_eq_zero (l := d2) (by have := T2L.out; omega)] at hi; simp at hi) t2 (by have := T2L.out; omega) (by have := T2L.out; unfold maxLen; omega) ?_; intro vA wA ogA happA))
            all_goals
              replace happA : Appended (w2.alloc (.cells #[.slice ou x.length cu] 28)) wA vA 1 (1 + d2.length) ([.slice ou x.length cu] ++ d2) (some w2.heap.size) ogA := by have e := T2L.out; first | exact happA | (rw [e]; simpa using happA)
              obtain ⟨oA, capA, rfl, pA1, pA2⟩ := happA.1.val
              unfold maxLen at pA2
              have lowA := happA.low (B := (w2).heap.size) (by simp) (fun g hg => by cases hg; exact Nat.le_refl _)
              have belA : Below (w2).heap.size (w2) wA := ((Below.refl _ _).alloc (Nat.le_refl _) _).trans lowA.2
              have sA := belA.size
              have HA := Lib.hid happA.1
              have HogA := Lib.hid lowA.1
              have CA := (hcl wA belA).1
              clear happA lowA
              -- what stands ahead
              go_wp2_with (at_builtin; refine StopAt (o := ⟨some 46, _, _, _, _, _⟩) ?_)
              refine Stop.go ?_
              refine wpList_appendS rfl _ _ 22 rfl 28 (.slice none 0 0) 1 24 tI64S (.slice (some ⟨wA.heap.size, 0, none⟩) 0 0) 0 [] (some wA.heap.size) rfl (by simpa using Row.lit wA #[] 28 1 0 (by decide) (by simp)) (some ⟨g0, 0, none⟩) ys.length _ d1 rfl (by have := T1L.out; omega) (fun h => by cases h) (by intro a ha i u hi; cases ha; rw [Addr.add_lit, Nat.zero_add]; have := (hcl (wA.alloc (.cells #[] 28)) (belA.alloc sA _)).1 i u hi; exact this) t1 (by have := T1L.out; omega) (by unfold maxLen; omega) ?_
              intro vB wB ogB happB
              rw [Nat.zero_add, List.nil_append] at happB
              obtain ⟨oB, capB, rfl, pB1, pB2⟩ := happB.1.val
              unfold maxLen at pB2
              have lowB := happB.low (B := (w2).heap.size) (Nat.le_trans sA (by simp)) (fun g hg => by cases hg; exact sA)
              have lowB2 := happB.low (B := wA.heap.size) (by simp) (fun g hg => by cases hg; exact Nat.le_refl _)
              have belB2 : Below wA.heap.size wA wB := ((Below.refl _ _).alloc (Nat.le_refl _) _).trans lowB2.2
              have belB : Below (w2).heap.size (w2) wB := belA.trans (belB2.mono sA)
              have sB := belB.size
              have hrA : Row wB (.slice oA (1 + d2.length) capA) 1 (1 + d2.length) ([(.slice ou x.length cu)] ++ d2) ogA := HA.out.frame (fun g hg => belB2.block g (HA.out.lt g hg))
              obtain ⟨gA, hgA⟩ := hrA.some_of (j := 0) (by omega)
              subst hgA
              obtain ⟨oA', cA', eA, _, _, _, eA2⟩ := hrA.value
              simp only [Value.slice.injEq, true_and] at eA
              obtain ⟨rfl, rfl⟩ := eA
              simp only [Option.map_some] at eA2
              subst eA2
              have HRA := Lib.hid hrA
              have HB := Lib.hid happB.1
              have HogB := Lib.hid lowB.1
              clear hrA happB lowB lowB2 CA
              go_wp2_with (at_builtin; refine StopAt (o := ⟨some 48, _, _, _, _, _⟩) ?_)
              refine Stop.go ?_
              refine wpList_appendS rfl _ _ 22 rfl 28 (.slice none 0 0) 1 24 tI64S (.slice oB ys.length capB) ys.length d1 ogB rfl HB.out (some ⟨gA, 0, none⟩) _ _ ([(.slice ou x.length cu)] ++ d2) rfl (by simp <;> omega) (fun h => by cases h) (by intro a ha i u hi; cases ha; rw [Addr.add_lit, Nat.zero_add]; exact HRA.out.cells i u hi) (fun u hu => (List.mem_append.1 hu).elim (fun h => by simp at h; subst h; exact t3) (t2 u)) (by have := T2L.out; omega) (by have := T2L.out; unfold maxLen; omega) ?_
              intro vC wC ogC happC
              have lowC := happC.low (B := (w2).heap.size) sB HogB.out
              have belC : Below (w2).heap.size (w2) wC := belB.trans lowC.2
              have hrC := happC.1
              have eN : ys.length + (1 + d2.length) = ys.length + 1 := by have := T1L.out; have := T2L.out; omega
              rw [eN, List.singleton_append] at hrC
              have hfin := hmk wC vC ogC belC hrC lowC.1
              obtain ⟨gC, hgC⟩ := hrC.some_of (j := 0) (by omega)
              subst hgC
              obtain ⟨capC, hvC, _, _⟩ := hrC.slice
              subst hvC
              have HFIN := Lib.hid hfin
              clear hfin hrC happC lowC HA HB HRA HogA HogB eN
              have hfl : (sortC cmpT (bs.take (k + 1))).length = ys.length + 1 := by rw [sortC_length]; simp; rw [Hyl.out]; omega
              obtain ⟨zs, hzs⟩ : ∃ zs, zs = sortC cmpT (bs.take (k + 1)) := ⟨_, rfl⟩
              rw [← hzs] at HFIN hfl
              have hkz : zs.length = k + 1 := by rw [hfl, Hyl.out]
              rw [← hfl] at HFIN
              rw [← hfl]
              have HZ := Lib.hid hzs
              have HKZ := Lib.hid hkz
              clear hzs hfl hkz
              go_wp2_with fail
              go_roundw
              case rel => exact ⟨k + 1, zs, by omega, by go_num, HZ, HKZ, ⟨_, _, rfl⟩, HFIN, hbel4.trans (belC.mono (Nat.le_trans hsz2 hsz5))⟩
              case measure => simp [intOf]; omega

    · have hfin : Hid (ys = forest bs) := Lib.hid (by rw [hys.out, List.take_of_length_le (by omega)]; rfl)
      have hkb : ¬ ((k : Int) < (bs.length : Int)) := by omega
      clear hlt
      go_wp2_with fail
      go_ret
      exact ⟨_, rfl, by rw [← hfin.out]; exact hown.out, hbel⟩
end Go.Proofs.Ytdjkmjifeekimaa

