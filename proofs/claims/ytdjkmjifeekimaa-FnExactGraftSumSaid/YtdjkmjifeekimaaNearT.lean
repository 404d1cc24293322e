/- Neighbours; trees out of neighbours. -/
import Derived.Test.YtdjkmjifeekimaaNearP
import Derived.Test.YtdjkmjifeekimaaLens
import Derived.Test.YtdjkmjifeekimaaCut
set_option linter.unusedSimpArgs false
set_option linter.unusedVariables false
/- Parents and neighbours of nodes; the tree that is seen from a node. -/
namespace Go.Proofs.Ytdjkmjifeekimaa
open Go.RowKit

theorem parents_in64 {t : List Int} (hl : t.length ≤ 1000000) : ∀ x ∈ parents t, In64 x := by
  intro x hx
  unfold parents at hx
  obtain ⟨i, hi, rfl⟩ := List.mem_map.1 hx
  have := parS_lt t (t.getD i 0 - 1) i
  have := List.mem_range.1 hi
  unfold In64 parAt
  omega

theorem parents_take_succ (t : List Int) (k : Nat) (h : k < t.length) : (parents t).take (k + 1) = (parents t).take k ++ [parAt t k] := by
  rw [List.take_succ_eq_append_getElem (by rw [parents_len]; exact h), parents_get t k h]

set_option maxRecDepth 100000 in
set_option maxHeartbeats 1000000 in
theorem c_impl_parentsOf (v : Value) (t : List Int) (w : World) (h : Rd (RS RI) w [v] t) (h8 : lev8 t = true) :
    Calls Try.prog 98 #[v] w (RetO (RS RI) w (parents t)) := by
  have hl8 := lev8_len h8
  have hbd := (lev8_lev h8).bd
  obtain ⟨oa, c1, I1⟩ := h.ints
  obtain rfl := I1.val
  have m1 := I1.le; have m2 := I1.capLe
  unfold maxLen at m2
  have HI := Lib.hid I1
  have HB := Lib.hid hbd
  clear I1 h hbd h8
  go_enter Try.func98, Try.ntmps98
  go_wp2_with fail
  go_loopw [3, 10] (fun o i wr => ∃ (k : Nat) (z : List Int), k ≤ t.length ∧ i = .int .i64 k ∧ Hid (z = (parents t).take k) ∧ Hid (z.length = k) ∧ (∃ oa cap, o = .slice oa z.length cap) ∧ Hid (Own (RS RI) w.heap.size wr.heap.size wr [o] z) ∧ Below w.heap.size w wr) (fun _ i _ => t.length - (intOf i).toNat)
  case atStart => exact ⟨0, [], Nat.zero_le _, rfl, Lib.hid rfl, Lib.hid rfl, ⟨_, _, rfl⟩, Lib.hid ((Own.empty (R := RI) (w := w) 3 w.heap.size (Nat.le_refl _)).top _ (by simp)), (Below.refl _ _).alloc (Nat.le_refl _) _⟩
  case round =>
    obtain ⟨k, z, hk, rfl, hz, hzl, ⟨o1, cap1, rfl⟩, hown, hbel⟩ := hrel
    have hsz1 := hbel.size
    obtain ⟨wo, hwo⟩ : ∃ wo : World, wo = wr := ⟨_, rfl⟩
    subst hwo
    by_cases hlt : k < t.length
    · obtain ⟨b, off, rfl, hb, hc⟩ := HI.out.get hlt
      have HC : Hid (∀ j (h : j < t.length), wo.cell? ⟨b, off + j, none⟩ = some (.int .i64 t[j])) := Lib.hid (fun j hj => (hbel.cell (p := ⟨b, off + j, none⟩) hb).trans (hc j hj))
      have gk := HC.out k hlt
      obtain ⟨x, hx⟩ : ∃ x : Int, x = t[k]'hlt := ⟨_, rfl⟩
      have hxb := HB.out k hlt
      rw [← hx] at gk hxb
      obtain ⟨x1, x2⟩ := hxb
      have hnx := parents_take_succ t k hlt
      have hpa : parAt t k = parS t (x - 1) k := by unfold parAt; rw [getD_get hlt, ← hx]
      rw [hpa, ← hz.out] at hnx
      have HN := Lib.hid hnx
      have hwk : IntKind.i64.wrap ((k : Int) - 1) = (k : Int) - 1 := IntWalk.i64_in _ (by omega)
      have hwx : IntKind.i64.wrap (x - 1) = x - 1 := IntWalk.i64_in _ (by omega)
      have HW : Hid (wo.heap.size = wo.heap.size) := Lib.hid rfl
      clear hc hx hnx hpa
      go_wp2_with fail
      go_loopw [6] (fun i wr => ∃ (q : Nat), q ≤ k ∧ i = .int .i64 ((q : Int) - 1) ∧ Hid (∀ p, q ≤ p → p < k → t.getD p 0 ≠ x - 1) ∧ wr = wo) (fun i _ => (intOf i + 1).toNat)
      case atStart => exact ⟨k, Nat.le_refl _, rfl, Lib.hid (fun p a b => by omega), rfl⟩
      case round =>
        obtain ⟨q, hq, rfl, hall, rfl⟩ := hrel
        by_cases hgo : 0 < q ∧ t.getD (q - 1) 0 ≠ x - 1
        · obtain ⟨hq0, hne⟩ := hgo
          obtain ⟨p, rfl⟩ : ∃ p, q = p + 1 := ⟨q - 1, by omega⟩
          have hpt : p < t.length := by omega
          have gp := HC.out p hpt
          rw [Nat.add_sub_cancel, getD_get hpt] at hne
          obtain ⟨y, hy⟩ : ∃ y : Int, y = t[p]'hpt := ⟨_, rfl⟩
          rw [← hy] at gp hne
          have HALL : Hid (∀ r, p ≤ r → r < k → t.getD r 0 ≠ x - 1) := Lib.hid (by
            intro r a b'
            by_cases hr : r = p
            · subst hr; rw [getD_get hpt, ← hy]; exact hne
            · exact hall.out r (by omega) b')
          have e1 : (((p + 1 : Nat) : Int) - 1) = (p : Int) := by omega
          have e2 : (y != x - 1) = true := by simp [hne]
          have i1 : (0 : Int) ≤ (p : Int) := by omega
          have i2 : (p : Int) < (t.length : Int) := by omega
          have hwp : IntKind.i64.wrap ((p : Int) - 1) = (p : Int) - 1 := IntWalk.i64_in _ (by omega)
          rw [e1]
          clear hy e1 hne
          go_wp2_with fail
          go_roundw
          case rel => exact ⟨p, by omega, by go_num, HALL, by first | rfl | trivial⟩
          case measure => simp [intOf] <;> omega
        · have hfin : Hid (parS t (x - 1) k = (q : Int) - 1) := Lib.hid (by
            rw [parS_skip t (x - 1) q k hq hall.out]
            cases q with
            | zero => simp [parS]
            | succ p =>
              have : t.getD p 0 = x - 1 := by
                refine Decidable.byContradiction fun h => hgo ⟨by omega, by simpa using h⟩
              unfold parS
              rw [if_pos this]; omega)
          have hcase : (q = 0 ∨ ∃ p, q = p + 1 ∧ ∃ hp : p < t.length, t[p] = x - 1) := by
            cases q with
            | zero => exact .inl rfl
            | succ p =>
              have hpt : p < t.length := by omega
              refine .inr ⟨p, rfl, hpt, ?_⟩
              have : t.getD p 0 = x - 1 := by
                refine Decidable.byContradiction fun h => hgo ⟨by omega, by simpa using h⟩
              rwa [getD_get hpt] at this
          have hzb : z.length ≤ 8 := by rw [hzl.out]; omega
          obtain ⟨r, hr⟩ : ∃ r : Int, r = (q : Int) - 1 := ⟨_, rfl⟩
          have hrb : -1 ≤ r ∧ r ≤ 8 := by omega
          obtain ⟨r1, r2⟩ := hrb
          have HR : Hid (parS t (x - 1) k = r) := Lib.hid (by rw [hfin.out, hr])
          have gcase : (r = -1 ∨ ∃ p : Nat, r = p ∧ p < t.length ∧ wr.cell? ⟨b, off + p, none⟩ = some (.int .i64 (x - 1))) := by
            rcases hcase with h | ⟨p, h1, h2, h3⟩
            · exact .inl (by omega)
            · exact .inr ⟨p, by omega, h2, by rw [HC.out p h2, h3]⟩
          rw [← hr]
          clear hgo hfin hcase hr
          rcases gcase with rfl | ⟨p, rfl, hpt, gp⟩
          case' inr =>
            have i1 : (0 : Int) ≤ (p : Int) := by omega
            have i2 : (p : Int) < (t.length : Int) := by omega
            have e2 : (x - 1 != x - 1) = false := by simp
          all_goals
            go_wp2_with (at_builtin; refine StopAt (o := ⟨some 33, _, _, _, _, _⟩) ?_)
            refine Stop.go ?_
            refine wpList_snoc (w := wr) (R := RI) rfl _ _ 79 rfl 3 (.int .i64 0) 1 8 tInt rfl (.slice o1 z.length cap1) z _ [.int .i64 _] w.heap.size wr.heap.size wr.heap.size rfl hown.out (Own.int ⟨by omega, by omega⟩) (Nat.le_refl _) hsz1 3 rfl rfl (by omega) (by omega) ?_
            intro oa1 cap1' w1 hown1 c1a c1b hbel1
            have hb3 := hbel.trans hbel1
            rw [← HR.out] at hown1
            obtain ⟨z', hz'⟩ : ∃ z', z' = z ++ [parS t (x - 1) k] := ⟨_, rfl⟩
            have HZ : Hid (z' = (parents t).take (k + 1)) := Lib.hid (by rw [hz', HN.out])
            have e1 : z.length + 1 = z'.length := by rw [hz']; simp
            have HZL : Hid (z'.length = k + 1) := Lib.hid (by rw [← e1, hzl.out])
            rw [← hz', e1] at hown1
            have HO1 : Hid (Own (RS RI) w.heap.size w1.heap.size w1 [.slice oa1 z'.length cap1'] z') := hown1
            rw [e1]
            clear hown1 hbel1 hown e1 hz'
            go_wp2_with fail
            go_roundw
            case rel => exact ⟨k + 1, z', by omega, by go_num, HZ, HZL, ⟨_, _, rfl⟩, HO1, hb3⟩
            case measure => simp [intOf]; omega
    · have hfin : Hid (z = parents t) := Lib.hid (by rw [hz.out, List.take_of_length_le (by rw [parents_len]; omega)])
      go_wp2_with fail
      go_ret
      exact ⟨_, rfl, hfin.out ▸ hown.out, hbel⟩

theorem getD_set_self {α : Type} (l : List α) (i : Nat) (x d : α) (h : i < l.length) : (l.set i x).getD i d = x := by simp [h]

set_option maxRecDepth 100000 in
set_option maxHeartbeats 2000000 in
theorem c_impl_nearOf (v : Value) (t : List Int) (w : World) (h : Rd (RS RI) w [v] t) (h8 : lev8 t = true) :
    Calls Try.prog 77 #[v] w (RetO (RS (RS RI)) w (nears t)) := by
  have hl8 := lev8_len h8
  have hpo := fun (W : World) (hb : Below w.heap.size w W) => c_impl_parentsOf v t W (h.below hb (Nat.le_refl _)) h8
  obtain ⟨oa, c1, rfl, m1, m2⟩ := h.val
  unfold maxLen at m2
  have HP := Lib.hid hpo
  have hpos := (lev8_lev h8).pos
  clear h hpo h8
  go_enter Try.func77, Try.ntmps77
  go_wp2_with (at_make; refine wpList_makeRow rfl _ _ 75 rfl 79 (.slice none 0 0) 1 24 tIntS _ _ _ _ t.length rfl rfl rfl rfl (by omega) (by unfold maxLen; omega) ?_; rintro v1 w1 hrow0 hgr0 rfl)
  rw [madeCells_nils] at hrow0
  have hb0 : Below w.heap.size w w1 := Below.of_grown hgr0 (Nat.le_refl _) (fun g hg => by cases hg)
  have HO : Hid (OwnF (RS (RS RI)) [w.heap.size] w1 [.slice (some ⟨w.heap.size, 0, none⟩) t.length t.length] (List.replicate t.length [])) := Lib.hid ⟨⟨_, some w.heap.size, List.replicate t.length (.slice none 0 0), [], rfl, by rw [List.length_replicate]; exact hrow0, ownL_nils t.length, rfl⟩, by simp⟩
  have hg1 := hrow0.lt w.heap.size rfl
  clear hrow0 hgr0
  go_wp2_with fail
  refine (HP.out w1 hb0).mono ?_
  rintro e w2 ⟨u, rfl, o2, b2⟩
  have hpl := parents_len t
  obtain ⟨og, ds, Gp, hrowp, help, _, hlp⟩ := o2.open
  obtain ⟨rfl, rfl, hpb⟩ := ownL_ints help
  obtain ⟨gp, rfl⟩ := hrowp.some_of (j := 0) (by rw [hpl]; exact hpos)
  obtain ⟨cp, rfl, n1, n2⟩ := hrowp.slice
  have hgp := hlp gp (by simp)
  unfold maxLen at n2
  have hb2 := hb0.trans (b2.mono hb0.size)
  have HO2 : Hid (OwnF (RS (RS RI)) [w.heap.size] w2 [.slice (some ⟨w.heap.size, 0, none⟩) t.length t.length] (List.replicate t.length [])) := Lib.hid (HO.out.frame (fun b hb => b2.block b (by simp at hb; omega)))
  obtain ⟨pl, hpl'⟩ : ∃ pl, pl = (parents t).length := ⟨_, rfl⟩
  rw [← hpl'] at n1 hrowp
  rw [← hpl']
  have HROW := Lib.hid hrowp
  have hpt : pl = t.length := by rw [hpl', hpl]
  have HPT := Lib.hid hpt
  have s1 := hb0.size
  have s2 := b2.size
  obtain ⟨q1, q2⟩ := hgp
  have HPB := Lib.hid hpb
  have HPOS := Lib.hid hpos
  clear HO o2 hpl hpl' hrowp help hlp hpt hpb
  go_wp2_with fail
  go_loopw [12] (fun i wr => ∃ (k : Nat) (F : List Nat), k ≤ pl ∧ i = .int .i64 k ∧ Hid (OwnF (RS (RS RI)) F wr [.slice (some ⟨w.heap.size, 0, none⟩) t.length t.length] (nearTo t k)) ∧ Hid (∀ b, b ∈ F → b = w.heap.size ∨ w2.heap.size ≤ b) ∧ Hid (ChgF [w.heap.size] w2 wr)) (fun i _ => pl - (intOf i).toNat)
  case atStart => exact ⟨0, _, Nat.zero_le _, rfl, HO2, Lib.hid (fun b hb => .inl (by simpa using hb)), Lib.hid (ChgF.refl _ _)⟩
  case round =>
    obtain ⟨k, F, hk, rfl, hown, hF, hch⟩ := hrel
    clear HO2
    have hszr := hch.out.size
    by_cases hlt : k < pl
    · have hlt2 : k < t.length := by rw [← HPT.out]; exact hlt
      have hrw : Row wr (.slice (some ⟨gp, 0, none⟩) pl cp) 1 pl ((parents t).map (Value.int .i64)) (some gp) := HROW.out.frame (fun g hg => by cases hg; exact hch.out.block gp q2 (by simp; omega))
      have gpc : wr.cell? ⟨gp, k, none⟩ = some (.int .i64 (parAt t k)) := hrw.cells k _ (by rw [List.getElem?_map, List.getElem?_eq_getElem (by rw [parents_len]; exact hlt2), parents_get t k hlt2]; rfl)
      have hpr := parS_lt t (t.getD k 0 - 1) k
      have hst : nearTo t (k + 1) = nearStep (nearTo t k) k (parAt t k) := rfl
      obtain ⟨p, hp⟩ : ∃ p, p = parAt t k := ⟨_, rfl⟩
      have hpr2 : -1 ≤ p ∧ p < k := by rw [hp]; exact hpr
      obtain ⟨p1, p2⟩ := hpr2
      rw [← hp] at gpc hst
      have hnl := nearTo_len t k
      have hne := nearTo_each t k
      obtain ⟨near, hnear⟩ : ∃ near, near = nearTo t k := ⟨_, rfl⟩
      have HST := Lib.hid hst
      have i1 : (0 : Int) ≤ (k : Int) := by omega
      have i2 : (k : Int) < (pl : Int) := by omega
      have i3 : (k : Int) < (t.length : Int) := by omega
      rw [← hnear] at hnl hne
      have HN := Lib.hid hnear
      have hown2 := hown.out
      rw [← hnear] at hown2
      clear hpr hp hst hnear hrw
      by_cases h0 : 0 ≤ p
      · obtain ⟨q, rfl⟩ : ∃ q : Nat, p = q := ⟨p.toNat, by omega⟩
        obtain ⟨g, cap, hh, og1, hv, _, _, hgl, hcell, hrow1, hK⟩ := hown2.innerApp k (by omega)
        simp only [Value.slice.injEq, Option.some.injEq, Addr.mk.injEq, and_true] at hv
        obtain ⟨rfl, hv2⟩ := hv
        clear hv2
        obtain ⟨oh, ch, rfl, k1, k2⟩ := hrow1.val
        unfold maxLen at k2
        have hxl : near[k].length ≤ 16 := by have := hne _ (List.getElem_mem (by omega : k < near.length)); omega
        have HK := Lib.hid hK
        have hq2 : q < near.length := by omega
        have j1 : (0 : Int) ≤ (q : Int) := by omega
        have j2 : (q : Int) < (t.length : Int) := by omega
        obtain ⟨xk, hxk⟩ : ∃ xk, xk = near[k]'(by omega) := ⟨_, rfl⟩
        have hxk2 : near.set k (near.getD k [] ++ [(q : Int)]) = near.set k (xk ++ [(q : Int)]) := by rw [hxk]; simp [List.getD_eq_getElem?_getD, show k < near.length by omega]
        rw [← hxk] at hrow1 hcell hxl HK k1
        have HR1 := Lib.hid hrow1
        have HXK := Lib.hid hxk2
        have HNL := Lib.hid hnl
        have HNE := Lib.hid hne
        clear hK hrow1 hxk hxk2 hown2 hne hnl
        go_wp2_with (at_builtin; refine StopAt (o := ⟨some 27, _, _, _, _, _⟩) ?_)
        refine Stop.go ?_
        refine wpList_append1 (w := wr) rfl _ _ 79 rfl 3 (.int .i64 0) 1 8 tInt (.slice oh xk.length ch) xk.length _ og1 rfl HR1.out 3 [.int .i64 (q : Int)] rfl rfl rfl (by simp [Value.oneCell']) (by omega) (by unfold maxLen; omega) ?_
        intro h1 wa oga happ
        obtain ⟨f1, f2, F1, hF1, hs1, hc1⟩ := HK.out (q : Int) h1 wa oga (by unfold In64; omega) happ
        obtain ⟨o1, ca1, rfl, _⟩ := happ.1.val
        have e1 : (near.set k (xk ++ [(q : Int)])).length = t.length := by rw [List.length_set]; exact HNL.out
        obtain ⟨near1, hn1⟩ : ∃ near1, near1 = near.set k (xk ++ [(q : Int)]) := ⟨_, rfl⟩
        rw [← hn1] at hF1 e1
        obtain ⟨W3, hW3⟩ : ∃ W3, W3 = wa.setCell ⟨w.heap.size, k, none⟩ (.slice o1 (xk.length + 1) ca1) := ⟨_, rfl⟩
        have hx1 : ∀ x ∈ near1, x.length ≤ 17 := by
          intro x hx
          rw [hn1] at hx
          rcases List.mem_or_eq_of_mem_set hx with hx | rfl
          · have := HNE.out x hx; omega
          · rw [List.length_append, List.length_singleton]; omega
        rw [← hW3] at hF1 hc1
        obtain ⟨g, cap, hh, og2, hv, _, _, hgl2, hcell2, hrow2, hK2⟩ := hF1.innerApp q (by omega)
        simp only [Value.slice.injEq, Option.some.injEq, Addr.mk.injEq, and_true] at hv
        obtain ⟨rfl, hv2⟩ := hv
        clear hv2
        obtain ⟨oy, cy, rfl, y1, y2⟩ := hrow2.val
        unfold maxLen at y2
        have hyl : near1[q].length ≤ 17 := by have := hx1 _ (List.getElem_mem (by omega : q < near1.length)); omega
        obtain ⟨xq, hxq⟩ : ∃ xq, xq = near1[q]'(by omega) := ⟨_, rfl⟩
        have hxq2 : near1.set q (near1.getD q [] ++ [(k : Int)]) = near1.set q (xq ++ [(k : Int)]) := by rw [hxq]; simp [List.getD_eq_getElem?_getD, show q < near1.length by omega]
        rw [← hxq] at hrow2 hcell2 hyl hK2 y1
        have HK2 := Lib.hid hK2
        have HR2 := Lib.hid hrow2
        have HXQ := Lib.hid hxq2
        have HN1 := Lib.hid hn1
        have HS1 := Lib.hid hs1
        have HC1 := Lib.hid hc1
        have hqk : ¬ q = k := by omega
        have hcell3 : wa.cell? ⟨w.heap.size, q, none⟩ = some (.slice oy xq.length cy) := by
          rw [hW3] at hcell2
          have hne' : (⟨w.heap.size, k, none⟩ : Addr) ≠ ⟨w.heap.size, q, none⟩ := by intro h; injection h; omega
          exact (World.cell?_setCell_other wa _ _ _ hne').symm.trans hcell2
        have HW3 := Lib.hid hW3
        clear happ hF1 hs1 hc1 hK2 hrow2 hxq hxq2 hn1 e1 hx1 hW3
        go_wp2_with (at_builtin; refine StopAt (o := ⟨some 37, _, _, _, _, _⟩) ?_)
        refine Stop.go ?_
        obtain rfl := HW3.out
        refine wpList_append1 (w := wa.setCell ⟨w.heap.size, k, none⟩ (.slice o1 (xk.length + 1) ca1)) rfl _ _ 79 rfl 3 (.int .i64 0) 1 8 tInt (.slice oy xq.length cy) xq.length _ og2 rfl HR2.out 3 [.int .i64 (k : Int)] (H := wa.heap.size) rfl (World.size_setCell ..).symm rfl (by simp [Value.oneCell']) (by omega) (by unfold maxLen; omega) ?_
        intro h2 wb ogb happ2
        obtain ⟨f3, f4, F2, hF2, hs2, hc2⟩ := HK2.out (k : Int) h2 wb ogb (by unfold In64; omega) happ2
        obtain ⟨o2, ca2, rfl, _⟩ := happ2.1.val
        have HFB : Hid (∀ b, b ∈ F2 → b = w.heap.size ∨ w2.heap.size ≤ b) := Lib.hid (fun b hb => by
          rcases hs2 b hb with hb | hb
          · rcases HS1.out b hb with hb | hb
            · exact hF.out b hb
            · right; omega
          · have := HC1.out.size; right; omega)
        have HCH : Hid (ChgF [w.heap.size] w2 (wb.setCell ⟨w.heap.size, q, none⟩ (.slice o2 (xq.length + 1) ca2))) := Lib.hid ((hch.out.trans' HC1.out (fun x hx => by
            rcases hF.out x hx with h | h
            · exact .inl (by simp [h])
            · exact .inr h)).trans' hc2 (fun x hx => by
            rcases HS1.out x hx with h | h
            · rcases hF.out x h with h | h
              · exact .inl (by simp [h])
              · exact .inr h
            · exact .inr (by omega)))
        have HFIN : Hid (OwnF (RS (RS RI)) F2 (wb.setCell ⟨w.heap.size, q, none⟩ (.slice o2 (xq.length + 1) ca2)) [.slice (some ⟨w.heap.size, 0, none⟩) t.length t.length] (nearTo t (k + 1))) := Lib.hid (by
          rw [HST.out]
          unfold nearStep
          rw [if_pos j1, ← HN.out, HXK.out, ← HN1.out, Int.toNat_natCast, HXQ.out]
          exact hF2)
        clear happ2 hF2 hs2 hc2
        go_wp2_with fail
        go_roundw
        case rel => exact ⟨k + 1, F2, by omega, by go_num, HFIN, HFB, HCH⟩
        case measure => simp [intOf] <;> omega
      · obtain rfl : p = -1 := by omega
        have HFIN : Hid (OwnF (RS (RS RI)) F wr [.slice (some ⟨w.heap.size, 0, none⟩) t.length t.length] (nearTo t (k + 1))) := Lib.hid (by
          rw [HST.out]
          unfold nearStep
          rw [if_neg (by omega)]
          exact hown.out)
        clear h0 hown2 hnl hne
        go_wp2_with fail
        go_roundw
        case rel => exact ⟨k + 1, F, by omega, by go_num, HFIN, hF, hch⟩
        case measure => simp [intOf] <;> omega
    · have HFIN : Hid (Own (RS (RS RI)) w.heap.size wr.heap.size wr [.slice (some ⟨w.heap.size, 0, none⟩) t.length t.length] (nears t)) := Lib.hid (by
        have h1 := hown.out
        rw [show k = t.length by have := HPT.out; omega] at h1
        refine OwnF.to h1 (fun b hb => ⟨?_, h1.lt b hb⟩)
        rcases hF.out b hb with h | h <;> omega)
      have hbf : Below w.heap.size w wr := hb2.trans (hch.out.below (by omega) (fun b hb => by simp at hb; omega))
      go_wp2_with fail
      go_ret
      exact ⟨_, rfl, HFIN.out, hbf⟩
end Go.Proofs.Ytdjkmjifeekimaa

/- The tree that is seen from a node: the program's walk. -/
namespace Go.Proofs.Ytdjkmjifeekimaa
open Go.RowKit

theorem sumLen_sublist {l m : List (List Int)} (h : l.Sublist m) : sumLen l ≤ sumLen m := by
  induction h with
  | slnil => exact Nat.le_refl _
  | cons a _ ih => simp only [sumLen, List.map_cons, List.sum_cons] at *; omega
  | cons_cons a _ ih => simp only [sumLen, List.map_cons, List.sum_cons] at *; omega

theorem len_le_sumLen : ∀ bs : List (List Int), (∀ b ∈ bs, LevP b) → bs.length ≤ sumLen bs := by
  intro bs
  induction bs with
  | nil => intro _; simp [sumLen]
  | cons b bs ih =>
    intro hb
    have := ih (fun c hc => hb c (by simp [hc]))
    have := (hb b (by simp)).pos
    simp only [sumLen, List.map_cons, List.sum_cons, List.length_cons] at *
    omega

/-- The branches that are seen from a node by a part of its neighbours. -/
def seen (f : Nat) (near : List (List Int)) (root from' : Int) (xs : List Int) : List (List Int) := (xs.filter fun x => decide (x ≠ from')).map fun x => treeF f near x root

theorem seen_lev (f : Nat) (near : List (List Int)) (root from' : Int) (xs : List Int) : ∀ b ∈ seen f near root from' xs, LevP b := by
  intro b hb
  obtain ⟨x, _, rfl⟩ := List.mem_map.1 hb
  exact (treeF_both f near x root).1

theorem seen_take (f : Nat) (near : List (List Int)) (root from' : Int) (xs : List Int) (k : Nat) : (seen f near root from' (xs.take k)).Sublist (seen f near root from' xs) :=
  (((List.take_sublist k xs).filter _).map _)

theorem seen_succ (f : Nat) (near : List (List Int)) (root from' : Int) (xs : List Int) (k : Nat) (h : k < xs.length) :
    seen f near root from' (xs.take (k + 1)) = seen f near root from' (xs.take k) ++ (if xs[k] = from' then [] else [treeF f near xs[k] root]) := by
  unfold seen
  rw [List.take_succ_eq_append_getElem h, List.filter_append, List.map_append]
  congr 1
  by_cases e : xs[k] = from'
  · simp [e]
  · simp [e]

theorem treeF_succ (f : Nat) (near : List (List Int)) (root from' : Int) : treeF (f + 1) near root from' = canon (rootOn (seen f near root from' (near.getD root.toNat []))) := rfl

theorem treeSm_succ (f : Nat) (near : List (List Int)) (root from' : Int) : treeSm (f + 1) near root from' = sumLen (seen f near root from' (near.getD root.toNat [])) + 1 := by
  rw [← (treeF_both (f + 1) near root from').2, treeF_succ, canon_len (rootOn_lev (seen_lev _ _ _ _ _)), rootOn_len]

theorem treeSm_sub {f : Nat} {near : List (List Int)} {root from' : Int} {x : Int} (hx : x ∈ near.getD root.toNat []) (hne : x ≠ from') : treeSm f near x root + 1 ≤ treeSm (f + 1) near root from' := by
  rw [treeSm_succ, ← (treeF_both f near x root).2]
  have : treeF f near x root ∈ seen f near root from' (near.getD root.toNat []) := List.mem_map.2 ⟨x, List.mem_filter.2 ⟨hx, by simp [hne]⟩, rfl⟩
  have := sumLen_mem this
  omega

set_option maxRecDepth 100000 in
set_option maxHeartbeats 2000000 in
theorem c_impl_treeFrom : ∀ (f : Nat) (v : Value) (near : List (List Int)) (root from' : Int) (w : World), Rd (RS (RS RI)) w [v] near → treeOk f near root from' = true → treeSm f near root from' ≤ 13 →
    Calls Try.prog 78 #[v, .int .i64 root, .int .i64 from'] w (RetO (RS RI) w (treeF f near root from')) := by
  intro f
  induction f with
  | zero => intro v near root from' w _ h; cases h
  | succ f ih =>
  intro v near root from' w h hok hsm
  simp only [treeOk, Bool.and_eq_true, decide_eq_true_eq] at hok
  obtain ⟨hr0, hr1, hall⟩ := hok
  obtain ⟨r, rfl⟩ : ∃ r : Nat, root = r := ⟨root.toNat, by omega⟩
  have hrl : r < near.length := by omega
  have hnr : near.getD (r : Int).toNat [] = near[r] := by rw [Int.toNat_natCast]; simp [hrl]
  have hsub := fun x (hx : x ∈ near[r]) (hne : x ≠ from') => treeSm_sub (f := f) (near := near) (root := (r : Int)) (from' := from') (x := x) (by rw [hnr]; exact hx) hne
  rw [treeF_succ]
  rw [treeSm_succ] at hsm
  rw [hnr] at hsm hall
  rw [hnr]
  have hrdn := h
  obtain ⟨oa, cap, L⟩ := h.lists
  obtain rfl := L.val
  have m1 := L.le; have m2 := L.capLe
  obtain ⟨b, off, rfl, hb, hc⟩ := L.get hrl
  obtain ⟨oi, ci, g1, hrd, q1, q2⟩ := hc r hrl
  obtain ⟨xs, hxs⟩ : ∃ xs, xs = near[r] := ⟨_, rfl⟩
  rw [← hxs] at g1 hrd q1 hsm hall hsub
  rw [← hxs]
  obtain ⟨oa2, c2, I⟩ := hrd.ints
  have hval := I.val
  simp only [Value.slice.injEq, true_and] at hval
  obtain ⟨rfl, rfl⟩ := hval
  have HI := Lib.hid I
  have HSM := Lib.hid hsm
  have HIH : Hid (∀ x ∈ xs, x ≠ from' → ∀ W, Below w.heap.size w W → Calls Try.prog 78 #[.slice (some ⟨b, off, none⟩) near.length cap, .int .i64 x, .int .i64 (r : Int)] W (RetO (RS RI) W (treeF f near x r))) := Lib.hid (by
    intro x hx hne W hbW
    refine ih _ near x r W (hrdn.below hbW (Nat.le_refl _)) ?_ (by have := hsub x hx hne; rw [treeSm_succ, hnr, ← hxs] at this; omega)
    have := List.all_eq_true.1 hall x hx
    simp only [Bool.or_eq_true, decide_eq_true_eq] at this
    exact this.resolve_left hne)
  have i1 : (0 : Int) ≤ (r : Int) := by omega
  have i2 : (r : Int) < (near.length : Int) := by omega
  obtain ⟨nl, hnl⟩ : ∃ nl, nl = near.length := ⟨_, rfl⟩
  rw [← hnl] at m1 HIH i2
  rw [← hnl]
  have hrnl : r < nl := by omega
  clear L hc hrd hxs I hsm hall hsub ih hrdn hnr hr0 hr1 hnl hrl
  go_enter Try.func78, Try.ntmps78
  go_wp2_with fail
  go_loopw [7, 16] (fun o i wr => ∃ (k : Nat) (z : List (List Int)), k ≤ xs.length ∧ i = .int .i64 k ∧ Hid (z = seen f near r from' (xs.take k)) ∧ Hid (z.length ≤ 12) ∧ (∃ oa cap, o = .slice oa z.length cap) ∧ Hid (Own (RS (RS RI)) w.heap.size wr.heap.size wr [o] z) ∧ Below w.heap.size w wr) (fun _ i _ => xs.length - (intOf i).toNat)
  case atStart => exact ⟨0, [], Nat.zero_le _, rfl, Lib.hid rfl, Lib.hid (by simp), ⟨_, _, rfl⟩, Lib.hid ((Own.empty (R := RS RI) (w := w) 28 w.heap.size (Nat.le_refl _)).top _ (by simp)), (Below.refl _ _).alloc (Nat.le_refl _) _⟩
  case round =>
    obtain ⟨k, z, hk, rfl, hz, hzl, ⟨o1, cap1, rfl⟩, hown, hbel⟩ := hrel
    have hsz1 := hbel.size
    by_cases hlt : k < xs.length
    · obtain ⟨b2, off2, rfl, hb2, hc2⟩ := HI.out.get hlt
      have g2 : wr.cell? ⟨b2, off2 + k, none⟩ = some (.int .i64 xs[k]) := (hbel.cell (p := ⟨b2, off2 + k, none⟩) hb2).trans (hc2 k hlt)
      have hbx := HI.out.b hlt
      unfold In64 at hbx
      have hsc := seen_succ f near r from' xs k hlt
      rw [← hz.out] at hsc
      have hzl2 : (seen f near r from' (xs.take (k + 1))).length ≤ 12 := by
        have h1 := len_le_sumLen _ (seen_lev f near r from' (xs.take (k + 1)))
        have h2 := sumLen_sublist (seen_take f near r from' xs (k + 1))
        have := HSM.out
        omega
      have hih := HIH.out xs[k] (List.getElem_mem hlt)
      obtain ⟨x, hx⟩ : ∃ x : Int, x = xs[k]'hlt := ⟨_, rfl⟩
      rw [← hx] at g2 hsc hih hbx
      obtain ⟨x1, x2⟩ := hbx
      clear hc2 hx
      by_cases hne : x = from'
      · have hnb : (x != from') = false := by simp [hne]
        have HZ : Hid (z = seen f near r from' (xs.take (k + 1))) := Lib.hid (by rw [hsc, if_pos hne, List.append_nil])
        clear hsc hih hzl2 hne
        go_wp2_with fail
        go_roundw
        case rel => exact ⟨k + 1, z, by omega, by go_num, HZ, hzl, ⟨_, _, rfl⟩, hown, hbel⟩
        case measure => simp [intOf] <;> omega
      · have hnb : (x != from') = true := by simp [hne]
        have hcl := hih hne wr hbel
        rw [if_neg hne] at hsc
        obtain ⟨y, hy⟩ : ∃ y, y = treeF f near x r := ⟨_, rfl⟩
        rw [← hy] at hsc hcl
        have HN := Lib.hid hsc
        have HZL2 := Lib.hid hzl2
        have hzb : z.length ≤ 12 := hzl.out
        clear hsc hih hzl2 hne hy
        go_wp2_with fail
        refine hcl.mono ?_
        rintro e w2 ⟨u, rfl, o2, b2'⟩
        obtain ⟨ou, cu, rfl, lu1, lu2⟩ := o2.val
        go_wp2_with (at_builtin; refine StopAt (o := ⟨some 29, _, _, _, _, _⟩) ?_)
        refine Stop.go ?_
        have hb2'' := b2'.size
        refine wpList_snoc (w := w2) (R := RS RI) rfl _ _ 22 rfl 28 (.slice none 0 0) 1 24 tI64S rfl (.slice o1 z.length cap1) z y [.slice ou y.length cu] w.heap.size wr.heap.size w2.heap.size rfl (hown.out.below b2' (Nat.le_refl _)) o2 hb2'' hsz1 28 rfl rfl (by omega) (by omega) ?_
        intro oa1 cap1' w1 hown1 c1a c1b hbel1
        have hb3 := (hbel.trans (b2'.mono hsz1)).trans hbel1
        obtain ⟨z', hz'⟩ : ∃ z', z' = z ++ [y] := ⟨_, rfl⟩
        have HZ : Hid (z' = seen f near r from' (xs.take (k + 1))) := Lib.hid (by rw [hz', HN.out])
        have e1 : z.length + 1 = z'.length := by rw [hz']; simp
        have HZL : Hid (z'.length ≤ 12) := Lib.hid (by rw [HZ.out]; exact HZL2.out)
        rw [← hz', e1] at hown1
        have HO : Hid (Own (RS (RS RI)) w.heap.size w1.heap.size w1 [.slice oa1 z'.length cap1'] z') := hown1
        rw [e1]
        clear hown1 hbel1 hown e1 hz' o2 hcl
        go_wp2_with fail
        go_roundw
        case rel => exact ⟨k + 1, z', by omega, by go_num, HZ, HZL, ⟨_, _, rfl⟩, HO, hb3⟩
        case measure => simp [intOf] <;> omega
    · have hfin : Hid (z = seen f near r from' xs) := Lib.hid (by rw [hz.out, List.take_of_length_le (by omega)])
      have hlv : ∀ b ∈ z, LevP b := by rw [hfin.out]; exact seen_lev _ _ _ _ _
      have hsl : sumLen z + 1 ≤ 13 := by rw [hfin.out]; exact HSM.out
      have hro := c_impl_rootOn _ z wr hown.out.rd (Small.of_lev hlv (by omega)) (by omega)
      have HCN : Hid (∀ W v, Rd (RS RI) W [v] (rootOn z) → Calls Try.prog 52 #[v] W (RetO (RS RI) W (canon (rootOn z)))) := Lib.hid (fun W v r => c_impl_canonical 13 v _ W r (rootOn_lev hlv) (by rw [rootOn_len]; omega) (by rw [rootOn_len]; omega))
      clear hlv hsl
      go_wp2_with fail
      refine hro.mono ?_
      rintro e w2 ⟨u, rfl, o2, b2'⟩
      go_wp2_with fail
      refine (HCN.out _ _ o2.rd).mono ?_
      rintro e w3 ⟨u3, rfl, o3, b3⟩
      go_wp2_with fail
      go_ret
      have s2 := b2'.size
      exact ⟨_, rfl, by rw [← hfin.out]; exact o3.mono (by omega) (Nat.le_refl _), hbel.trans ((b2'.trans (b3.mono s2)).mono hsz1)⟩
end Go.Proofs.Ytdjkmjifeekimaa
