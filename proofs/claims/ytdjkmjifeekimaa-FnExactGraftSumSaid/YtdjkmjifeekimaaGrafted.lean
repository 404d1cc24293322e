/- Grafting by neighbours: the program's walk. -/
import Derived.Test.YtdjkmjifeekimaaGraftN
import Derived.Test.YtdjkmjifeekimaaReroot
set_option linter.unusedSimpArgs false
set_option linter.unusedVariables false
namespace Go.Proofs.Ytdjkmjifeekimaa
open Go.RowKit

set_option maxRecDepth 100000 in
set_option maxHeartbeats 400000 in
theorem c_slicesCloneInt (v : Value) (xs : List Int) (w : World) (h : Rd (RS RI) w [v] xs) (hsz : xs.length ≤ 1000000000) :
    Calls Try.prog 81 #[v] w (RetO (RS RI) w xs) := by
  obtain ⟨oa, c1, I1⟩ := h.ints
  obtain rfl := I1.val
  have m1 := I1.le; have m2 := I1.capLe
  unfold maxLen at m2
  have q22 : ∀ (w : World) (a : Option Addr) (n c n' c' : Nat), (binOp .eql 79 (.slice a n c) (.slice none n' c')).run Try.prog w = .ok (.bool a.isNone) w := fun w a n c n' c' => Lib.run_eql_slice_nil w _ _ a n c n' c' tInt.ht
  cases oa with
  | none =>
    have hc := I1.noneCap rfl
    have hx : xs = [] := List.eq_nil_of_length_eq_zero (by omega)
    subst hx; subst hc
    clear h I1
    go_enter Try.func81, Try.ntmps81
    go_wp2_with fail
    go_ret
    exact ⟨_, rfl, Own.nil _ _, Below.refl _ _⟩
  | some ad =>
  have I2 : Ints (w.alloc (.cells #[] 3)) (.slice (some ad) xs.length c1) xs (some ad) c1 := by
    refine ⟨rfl, m1, I1.capLe, I1.noneCap, I1.bd, ?_⟩
    rcases I1.row with h | ⟨b, off, e, hb, hc⟩
    · exact .inl h
    · refine .inr ⟨b, off, e, by simp; omega, fun j hj => ?_⟩
      rw [World.cell?_alloc_lt _ _ _ hb]; exact hc j hj
  have hrow := Row.lit w #[] 3 1 0 (by decide) (by simp)
  have HI := Lib.hid I2
  have HR := Lib.hid hrow
  clear I2 hrow
  go_enter Try.func81, Try.ntmps81
  go_wp2_with (at_builtin; refine StopAt (o := ⟨some 7, _, _, _, _, _⟩) ?_)
  refine Stop.go ?_
  refine wpList_appendS rfl _ _ 79 rfl 3 (.int .i64 0) 1 8 tInt (.slice (some ⟨w.heap.size, 0, none⟩) 0 0) 0 [] (some w.heap.size) rfl (by simpa using HR.out) (some ad) xs.length c1 (xs.map (Value.int .i64)) rfl (by simp) (fun h => by cases h) (Row.cells_ints HI.out) (by intro u hu; obtain ⟨x, _, rfl⟩ := List.mem_map.1 hu; rfl) (by omega) (by unfold maxLen; omega) ?_
  intro v' w' og' happ
  rw [Nat.zero_add, List.nil_append] at happ
  have hlow := happ.low (B := w.heap.size) (by simp) (fun g hg => by cases hg; exact Nat.le_refl _)
  have hbel : Below w.heap.size w w' := ((Below.refl w.heap.size w).alloc (Nat.le_refl _) (.cells #[] 3)).trans hlow.2
  have hown : Own (RS RI) w.heap.size w'.heap.size w' [v'] xs := Row.OwnI (by simpa using happ.1) I1.bd hlow.1
  have HO := Lib.hid hown
  obtain ⟨oa', cap', rfl, _⟩ := hown.val
  clear hown happ hlow
  go_wp2_with fail
  go_ret
  exact ⟨_, rfl, HO.out, hbel⟩

/-- One proof for all ends of a region that part in names alone. -/
theorem shareKey {A B C D E : Type} {goal : Prop} (FACTS : A → B → C → D → E → Prop) {G : A → B → C → D → E → Prop} (use : (∀ a b c d e, FACTS a b c d e → G a b c d e) → goal) (key : ∀ a b c d e, FACTS a b c d e → G a b c d e) : goal := use key

theorem moved_take (base : Nat) (xs : List Int) (k : Nat) (h : k < xs.length) : (xs.take (k + 1)).map (fun x => (base : Int) + x) = (xs.take k).map (fun x => (base : Int) + x) ++ [(base : Int) + xs[k]] := by
  rw [List.take_succ_eq_append_getElem h, List.map_append]; rfl

set_option maxRecDepth 100000 in
set_option maxHeartbeats 20000000 in
theorem c_impl_grafted (vu vn vl : Value) (u : List Int) (nodes : List Int) (list : List (List Int)) (w : World) (hu : Rd (RS RI) w [vu] u) (hn : Rd (RS RI) w [vn] nodes) (hl : Rd (RS (RS RI)) w [vl] list)
    (hu8 : lev8 u = true) (hl8 : ∀ v ∈ list, lev8 v = true) (hnl : nodes.length = list.length) (hnb : ∀ x ∈ nodes, 0 ≤ x ∧ x < u.length) (hsum : u.length + sumLen list ≤ 8) (hok : graftOk u nodes list = true) :
    Calls Try.prog 80 #[vu, vn, vl] w (RetO (RS RI) w (graftN u nodes list)) := by
  have hupos := (lev8_lev hu8).pos
  have hne := c_impl_nearOf vu u w hu hu8
  unfold graftOk at hok
  rw [Bool.and_eq_true] at hok
  have hTF : ∀ (W : World) (v : Value), Rd (RS (RS RI)) W [v] (graftTo u nodes list list.length) → Calls Try.prog 78 #[v, .int .i64 0, .int .i64 (-1)] W (RetO (RS RI) W (graftN u nodes list)) := fun W v r =>
    c_impl_treeFrom 9 v _ 0 (-1) W r hok.1 (Nat.le_of_ble_eq_true hok.2)
  have HTF := Lib.hid hTF
  obtain ⟨oa, c1, rfl, m1, m2⟩ := hu.val
  obtain ⟨on, cn, IN⟩ := hn.ints
  obtain rfl := IN.val
  obtain ⟨ol, cl, LL⟩ := hl.lists
  obtain rfl := LL.val
  have k1 := IN.le; have k2 := IN.capLe; have k3 := LL.le; have k4 := LL.capLe
  unfold maxLen at k2
  have HIN := Lib.hid IN
  have HLL := Lib.hid LL
  have HL8 := Lib.hid hl8
  have HNB := Lib.hid hnb
  have HNL := Lib.hid hnl
  have HSUM := Lib.hid hsum
  have hGL := fun i hi => graftTo_len u nodes list i hi
  have HGL := Lib.hid hGL
  have HLEN : Hid (list.length ≤ 8) := Lib.hid (by
    have := len_le_sumLen list (fun b hb => lev8_lev (hl8 b hb))
    omega)
  obtain ⟨ll, hll⟩ : ∃ ll, ll = list.length := ⟨_, rfl⟩
  rw [← hll] at k3 HTF
  rw [← hll]
  have HLN := Lib.hid hll
  have HEACH := Lib.hid (graftTo_each (u := u) (nodes := nodes) (list := list) (by omega) (fun v hv => lev8_len (hl8 v hv)))
  clear hu hn hl IN LL hl8 hnl hnb hsum hok hTF hGL hll
  go_enter Try.func80, Try.ntmps80
  go_wp2_with fail
  refine hne.mono ?_
  rintro e w1 ⟨u1, rfl, o1, b1⟩
  obtain ⟨F1, oF1, hF1⟩ := OwnF.of o1
  obtain ⟨o1a, c1a, rfl, _⟩ := o1.val
  have HO1 := Lib.hid oF1
  have HF1 := Lib.hid hF1
  clear o1 hne oF1 hF1
  go_wp2_with fail
  go_loopw [7, 20] (fun nr i wr => ∃ (k : Nat) (F : List Nat) (near : List (List Int)), k ≤ ll ∧ i = .int .i64 k ∧ Hid (near = graftTo u nodes list k) ∧ (∃ oa cap, nr = .slice oa near.length cap) ∧ Hid (OwnF (RS (RS RI)) F wr [nr] near) ∧ Hid (∀ b, b ∈ F → w.heap.size ≤ b) ∧ Below w.heap.size w wr) (fun _ i _ => ll - (intOf i).toNat)
  case atStart => exact ⟨0, F1, nears u, Nat.zero_le _, rfl, Lib.hid rfl, ⟨_, _, rfl⟩, HO1.out, Lib.hid (fun b hb => (HF1.out b hb).1), b1⟩
  case round =>
    obtain ⟨k, F, near, hk, rfl, hnear, ⟨o2, c2, rfl⟩, hown, hF, hbel⟩ := hrel
    clear HO1
    obtain ⟨wo, hwo⟩ : ∃ wo : World, wo = wr := ⟨_, rfl⟩
    subst hwo
    have hsz1 := hbel.size
    by_cases hlt : k < ll
    · have hlt2 : k < list.length := by rw [← HLN.out]; exact hlt
      have hltn : k < nodes.length := by rw [HNL.out]; exact hlt2
      obtain ⟨bl, fl, rfl, hbl, hcl⟩ := HLL.out.get hlt2
      obtain ⟨oi, ci, g1, hrd, q1, q2⟩ := hcl k hlt2
      have g2 : wo.cell? ⟨bl, fl + k, none⟩ = some (.slice oi list[k].length ci) := (hbel.cell (p := ⟨bl, fl + k, none⟩) hbl).trans g1
      obtain ⟨bn, fn, rfl, hbn, hcn⟩ := HIN.out.get hltn
      have gn := hcn k hltn
      have hv8 := HL8.out list[k] (List.getElem_mem hlt2)
      have hvn := c_impl_nearOf (.slice oi list[k].length ci) list[k] wo (hrd.below hbel (Nat.le_refl _)) hv8
      have hnd := HNB.out nodes[k] (List.getElem_mem hltn)
      have hgl := HGL.out k (by omega)
      rw [← hnear.out] at hgl
      have hss := sumLen_take_succ list k hlt2
      have hsl := sumLen_take list (k + 1)
      have hgs : graftTo u nodes list (k + 1) = graft1 near nodes[k] list[k] := by rw [graftTo, ← hnear.out]; congr 1 <;> simp [hltn, hlt2]
      have hnbd := nearTo_bd list[k] list[k].length (Nat.le_refl _)
      have hnel := nearTo_each list[k] list[k].length
      have hnvl : (nears list[k]).length = list[k].length := nearTo_len _ _
      have hvl8 := lev8_len hv8
      obtain ⟨x, hx⟩ : ∃ x, x = list[k]'hlt2 := ⟨_, rfl⟩
      obtain ⟨nd, hnd'⟩ : ∃ nd, nd = nodes[k]'hltn := ⟨_, rfl⟩
      rw [← hx] at g2 q1 hvn hss hgs hnbd hnel hnvl hvl8
      rw [← hnd'] at gn hnd hgs
      have hsum := HSUM.out
      have hnn : near.length + x.length ≤ 8 := by omega
      obtain ⟨n0, n1⟩ := hnd
      obtain ⟨nq, rfl⟩ : ∃ nq : Nat, nd = nq := ⟨nd.toNat, by omega⟩
      have hnq : nq < near.length := by omega
      have HGS := Lib.hid hgs
      have HNBD := Lib.hid hnbd
      have HNEL := Lib.hid hnel
      have hxl := hnvl
      obtain ⟨nvs, hnvs⟩ : ∃ nvs, nvs = nears x := ⟨_, rfl⟩
      change ∀ y ∈ nears x, _ at hnbd
      have HNV0 : Hid (∀ y ∈ nvs, y.length ≤ 16 ∧ ∀ z ∈ y, 0 ≤ z ∧ z < 8) := Lib.hid (by
        intro y hy
        rw [hnvs] at hy
        refine ⟨by have := HNEL.out y hy; omega, fun z hz => ?_⟩
        have := HNBD.out y hy z hz
        omega)
      rw [← hnvs] at hvn hxl
      have HXL := Lib.hid hxl
      have HNVS := Lib.hid hnvs
      have HOW := hown
      have hFl := hown.out.lt
      have hnd0 := hown.out.2
      have hnb : near.length ≤ 8 := by omega
      clear hcl hcn g1 hrd hx hnd' hgl hss hsl hgs hnbd hnel hnvl hv8 hsum hxl hnvs
      go_wp2_with fail
      refine hvn.mono ?_
      rintro e w2 ⟨u2, rfl, o3, b3⟩
      obtain ⟨ov, cv, rfl, v1, v2⟩ := o3.val
      have HNV := Lib.hid o3
      rw [HXL.out] at v1
      rw [HXL.out]
      have HO2 : Hid (OwnF (RS (RS RI)) F w2 [.slice o2 near.length c2] near) := Lib.hid (HOW.out.frame (fun b hb => b3.block b (hFl b hb)))
      have s3 := b3.size
      have hbel2 := hbel.trans (b3.mono hsz1)
      obtain ⟨base, hbase⟩ : ∃ base, base = near.length := ⟨_, rfl⟩
      rw [← hbase]
      have HBASE := Lib.hid hbase
      rw [← hbase] at hnn hnq hnb HO2 HOW hown
      clear o3 hvn hbase
      go_wp2_with fail
      go_loopw [7, 30] (fun nr i wz => ∃ (q : Nat) (F' : List Nat) (z : List (List Int)), q ≤ x.length ∧ i = .int .i64 q ∧ Hid (z = near ++ addTo base nvs nq q) ∧ Hid (z.length = base + q) ∧ (∃ oa cap, nr = .slice oa z.length cap) ∧ Hid (OwnF (RS (RS RI)) F' wz [nr] z) ∧ Hid (∀ b, b ∈ F' → b ∈ F ∨ w2.heap.size ≤ b) ∧ Hid (ChgF F w2 wz)) (fun _ i _ => x.length - (intOf i).toNat)
      case atStart => exact ⟨0, F, near, Nat.zero_le _, rfl, Lib.hid (by simp [addTo]), Lib.hid HBASE.out.symm, ⟨_, _, by rw [← HBASE.out]⟩, Lib.hid HO2.out, Lib.hid (fun b hb => .inl hb), Lib.hid (ChgF.refl _ _)⟩
      case round =>
        obtain ⟨q, F', z, hq, rfl, hz, hzl, ⟨o4, c4, rfl⟩, hown4, hF4, hch4⟩ := hrel
        obtain ⟨wz, hwz⟩ : ∃ wz : World, wz = wr := ⟨_, rfl⟩
        subst hwz
        have hzlt := hown4.out.lt
        have s4 := hch4.out.size
        have hbz : Below w.heap.size w wz := hbel2.trans (hch4.out.below (by omega) hF.out)
        have hszz := hbz.size
        by_cases hlq : q < x.length
        · have HNZ : Own (RS (RS RI)) wo.heap.size w2.heap.size wz [.slice ov x.length cv] nvs := by
            have := HNV.out.frame (w' := wz) (fun b h1 h2 => hch4.out.block b h2 (fun hm => by have := hFl b hm; omega))
            rw [HXL.out] at this
            exact this
          obtain ⟨oaz, caz, LZ⟩ := HNZ.rd.lists
          have hvz := LZ.val
          simp only [Value.slice.injEq] at hvz
          obtain ⟨rfl, hvz2, rfl⟩ := hvz
          clear hvz2
          have hlq2 : q < nvs.length := by rw [HXL.out]; exact hlq
          obtain ⟨bv, fv, rfl, hbv, hcv⟩ := LZ.get hlq2
          obtain ⟨oy, cy, g3, hry, y1, y2⟩ := hcv q hlq2
          have hyb := HNV0.out nvs[q] (List.getElem_mem hlq2)
          have hgd : nvs.getD q [] = nvs[q] := by simp [hlq2]
          have had : addTo base nvs nq (q + 1) = addTo base nvs nq q ++ [movedL base q (nvs.getD q []) nq] := rfl
          rw [hgd] at had
          obtain ⟨y, hy⟩ : ∃ y, y = nvs[q]'hlq2 := ⟨_, rfl⟩
          rw [← hy] at g3 hry y1 hyb had
          obtain ⟨oy2, cy2, IY⟩ := hry.ints
          have hvy := IY.val
          simp only [Value.slice.injEq, true_and] at hvy
          obtain ⟨rfl, rfl⟩ := hvy
          obtain ⟨hyl, hye⟩ := hyb
          have HIY := Lib.hid IY
          have HYE := Lib.hid hye
          have HAD := Lib.hid had
          have HZB : Hid (z.length ≤ 8) := Lib.hid (by rw [hzl.out]; omega)
          have gnz : wz.cell? ⟨bn, fn + k, none⟩ = some (.int .i64 (nq : Int)) := (hbz.cell (p := ⟨bn, fn + k, none⟩) hbn).trans gn
          have iq1 : (0 : Int) ≤ (q : Int) := by omega
          have iq2 : (q : Int) < (x.length : Int) := by omega
          clear HNZ LZ hcv hry hy IY hye had hgd hlq2
          go_wp2_with fail
          go_loopw [13, 38] (fun o i ww => ∃ (r : Nat) (zz : List Int), r ≤ y.length ∧ i = .int .i64 r ∧ Hid (zz = (y.take r).map (fun x => (base : Int) + x)) ∧ Hid (zz.length = r) ∧ (∃ oa cap, o = .slice oa zz.length cap) ∧ Hid (Own (RS RI) wz.heap.size ww.heap.size ww [o] zz) ∧ Below wz.heap.size wz ww) (fun _ i _ => y.length - (intOf i).toNat)
          case atStart => exact ⟨0, [], Nat.zero_le _, rfl, Lib.hid rfl, Lib.hid rfl, ⟨_, _, rfl⟩, Lib.hid ((Own.empty (R := RI) (w := wz) 3 wz.heap.size (Nat.le_refl _)).top _ (by simp)), (Below.refl _ _).alloc (Nat.le_refl _) _⟩
          case round =>
            obtain ⟨r, zz, hr, rfl, hzz, hzzl, ⟨o5, c5, rfl⟩, hown5, hbel5⟩ := hrel
            obtain ⟨ww, hww⟩ : ∃ ww : World, ww = wr := ⟨_, rfl⟩
            subst hww
            have s5 := hbel5.size
            by_cases hlr : r < y.length
            · obtain ⟨by', fy, rfl, hby, hcy⟩ := HIY.out.get hlr
              have g4 : ww.cell? ⟨by', fy + r, none⟩ = some (Value.int .i64 y[r]) := (hbel5.cell (p := ⟨by', fy + r, none⟩) hby).trans (hcy r hlr)
              have hme := HYE.out y[r] (List.getElem_mem hlr)
              have hnx := moved_take base y r hlr
              obtain ⟨ye, hye⟩ : ∃ ye : Int, ye = y[r]'hlr := ⟨_, rfl⟩
              rw [← hye] at g4 hme hnx
              obtain ⟨e1', e2'⟩ := hme
              have hw1 : IntKind.i64.wrap ((base : Int) + ye) = (base : Int) + ye := IntWalk.i64_in _ (by omega)
              have HNX := Lib.hid hnx
              have hzb5 : zz.length ≤ 16 := by rw [hzzl.out]; omega
              have ir1 : (0 : Int) ≤ (r : Int) := by omega
              have ir2 : (r : Int) < (y.length : Int) := by omega
              clear hcy hye hnx
              go_wp2_with (at_builtin; refine StopAt (o := ⟨some 47, _, _, _, _, _⟩) ?_)
              refine Stop.go ?_
              refine wpList_snoc (w := ww) (R := RI) rfl _ _ 79 rfl 3 (.int .i64 0) 1 8 tInt rfl (.slice o5 zz.length c5) zz ((base : Int) + ye) [.int .i64 ((base : Int) + ye)] wz.heap.size ww.heap.size ww.heap.size rfl hown5.out (Own.int ⟨by omega, by omega⟩) (Nat.le_refl _) s5 3 rfl rfl (by omega) (by omega) ?_
              intro oa6 cap6 w6 hown6 _ _ hbel6
              have hb6 := hbel5.trans hbel6
              obtain ⟨zz', hzz'⟩ : ∃ zz', zz' = zz ++ [(base : Int) + ye] := ⟨_, rfl⟩
              have HZZ : Hid (zz' = (y.take (r + 1)).map (fun x => (base : Int) + x)) := Lib.hid (by rw [hzz', HNX.out, hzz.out])
              have e1 : zz.length + 1 = zz'.length := by rw [hzz']; simp
              have HZZL : Hid (zz'.length = r + 1) := Lib.hid (by rw [← e1, hzzl.out])
              rw [← hzz', e1] at hown6
              have HO6 : Hid (Own (RS RI) wz.heap.size w6.heap.size w6 [.slice oa6 zz'.length cap6] zz') := hown6
              rw [e1]
              clear hown6 hbel6 hown5 e1 hzz'
              go_wp2_with fail
              go_roundw
              case rel => exact ⟨r + 1, zz', by omega, by go_num, HZZ, HZZL, ⟨_, _, rfl⟩, HO6, hb6⟩
              case measure => simp [intOf] <;> omega
            · have hmv : zz = y.map (fun x => (base : Int) + x) := by rw [hzz.out, List.take_of_length_le (by omega)]
              have HMV := Lib.hid hmv
              have hzb5 : zz.length ≤ 16 := by rw [hzzl.out]; omega
              have gnw : ww.cell? ⟨bn, fn + k, none⟩ = some (.int .i64 (nq : Int)) := ((hbz.trans (hbel5.mono hszz)).cell (p := ⟨bn, fn + k, none⟩) hbn).trans gn
              have hbm1 := HZB.out
              have iz1 : (0 : Int) ≤ (k : Int) := by omega
              have iz2 : (k : Int) < (nodes.length : Int) := by omega
              -- the list that is put in: a number more if q is 0
              have fin : ∀ (mv : List Int) (om : Option Addr) (cm : Nat) (w7 : World), mv = movedL base q y nq → Own (RS RI) wz.heap.size w7.heap.size w7 [.slice om mv.length cm] mv → Below wz.heap.size wz w7 →
                  ∃ G, OwnF (RS RI) G w7 [.slice om mv.length cm] mv ∧ (∀ b, b ∈ G → b ∉ F') ∧ OwnF (RS (RS RI)) F' w7 [.slice o4 z.length c4] z ∧ (∀ b, b ∈ G → w2.heap.size ≤ b) := by
                intro mv om cm w7 _ hm hb7
                obtain ⟨G, hG, hGb⟩ := OwnF.of hm
                exact ⟨G, hG, fun b hb hm => by have := (hGb b hb).1; have := hzlt b hm; omega, hown4.out.frame (fun b hb => hb7.block b (hzlt b hb)), fun b hb => by have := (hGb b hb).1; omega⟩
              have FIN := Lib.hid fin
              clear hmv fin
              by_cases hq0 : q = 0
              · subst hq0
                have hqe : (((0 : Nat) : Int) == 0) = true := rfl
                go_wp2_with (at_builtin; refine StopAt (o := ⟨some 57, _, _, _, _, _⟩) ?_)
                refine Stop.go ?_
                refine wpList_snoc (w := ww) (R := RI) rfl _ _ 79 rfl 3 (.int .i64 0) 1 8 tInt rfl (.slice o5 zz.length c5) zz (nq : Int) [.int .i64 (nq : Int)] wz.heap.size ww.heap.size ww.heap.size rfl hown5.out (Own.int ⟨by omega, by omega⟩) (Nat.le_refl _) s5 3 rfl rfl (by omega) (by omega) ?_
                intro om cm w7 hown6 _ _ hbel6
                have hb7 := hbel5.trans hbel6
                obtain ⟨mv, hmv⟩ : ∃ mv, mv = zz ++ [(nq : Int)] := ⟨_, rfl⟩
                have HMD : Hid (mv = movedL base 0 y nq) := Lib.hid (by rw [hmv, HMV.out]; simp [movedL])
                have e1 : zz.length + 1 = mv.length := by rw [hmv]; simp
                rw [← hmv, e1] at hown6
                rw [e1]
                obtain ⟨G, hG, hGd, hZ, hGb⟩ := FIN.out mv om cm w7 HMD.out hown6 hb7
                have HG := Lib.hid hG
                have HGD := Lib.hid hGd
                have HZ := Lib.hid hZ
                have HGB := Lib.hid hGb
                clear hown6 hbel6 hown5 e1 hmv hG hGd hZ hGb
                go_wp2_with (at_builtin; refine StopAt (o := ⟨some 61, _, _, _, _, _⟩) ?_)
                refine Stop.go ?_
                refine wpList_snocF (w := w7) (R := RS RI) rfl _ _ 75 rfl 79 (.slice none 0 0) 1 24 tIntS rfl (.slice o4 z.length c4) z mv [.slice om mv.length cm] F' G rfl HZ.out HG.out HGD.out 79 rfl rfl (by omega) (by omega) ?_
                intro oa8 cap8 w8 F8 hown8 _ _ hF8 hch8
                obtain ⟨z', hz'⟩ : ∃ z', z' = z ++ [mv] := ⟨_, rfl⟩
                have HZ' : Hid (z' = near ++ addTo base nvs nq (0 + 1)) := Lib.hid (by rw [hz', hz.out, HAD.out, ← HMD.out, List.append_assoc])
                have e2 : z.length + 1 = z'.length := by rw [hz']; simp
                have HZL' : Hid (z'.length = base + (0 + 1)) := Lib.hid (by have := hzl.out; omega)
                have s7 := hb7.size
                have HF8 : Hid (∀ b, b ∈ F8 → b ∈ F ∨ w2.heap.size ≤ b) := Lib.hid (fun b hb => by
                  rcases hF8 b hb with h | h | h
                  · exact hF4.out b h
                  · exact .inr (HGB.out b h)
                  · right; omega)
                have HCH : Hid (ChgF F w2 w8) := Lib.hid ((hch4.out.trans (Below.chgF hb7)).trans' hch8 (fun x hx => hF4.out x hx))
                rw [← hz', e2] at hown8
                have HO8 := Lib.hid hown8
                rw [e2]
                clear hown8 hF8 hch8 e2 hz'
                go_wp2_with fail
                go_roundw
                case rel => exact ⟨0 + 1, F8, z', by omega, by first | go_num | rfl, HZ', HZL', ⟨_, _, rfl⟩, HO8, HF8, HCH⟩
                case measure => simp [intOf] <;> omega
              · have hqe : ((q : Int) == 0) = false := by simp; omega
                have hb7 := hbel5
                have HMD : Hid (zz = movedL base q y nq) := Lib.hid (by rw [HMV.out]; simp [movedL, hq0])
                obtain ⟨G, hG, hGd, hZ, hGb⟩ := FIN.out zz o5 c5 ww HMD.out hown5.out hb7
                have HG := Lib.hid hG
                have HGD := Lib.hid hGd
                have HZ := Lib.hid hZ
                have HGB := Lib.hid hGb
                clear hG hGd hZ hGb hown5
                go_wp2_with (at_builtin; refine StopAt (o := ⟨some 61, _, _, _, _, _⟩) ?_)
                refine Stop.go ?_
                refine wpList_snocF (w := ww) (R := RS RI) rfl _ _ 75 rfl 79 (.slice none 0 0) 1 24 tIntS rfl (.slice o4 z.length c4) z zz [.slice o5 zz.length c5] F' G rfl HZ.out HG.out HGD.out 79 rfl rfl (by omega) (by omega) ?_
                intro oa8 cap8 w8 F8 hown8 _ _ hF8 hch8
                obtain ⟨z', hz'⟩ : ∃ z', z' = z ++ [zz] := ⟨_, rfl⟩
                have HZ' : Hid (z' = near ++ addTo base nvs nq (q + 1)) := Lib.hid (by rw [hz', hz.out, HAD.out, ← HMD.out, List.append_assoc])
                have e2 : z.length + 1 = z'.length := by rw [hz']; simp
                have HZL' : Hid (z'.length = base + (q + 1)) := Lib.hid (by have := hzl.out; omega)
                have s7 := hb7.size
                have HF8 : Hid (∀ b, b ∈ F8 → b ∈ F ∨ w2.heap.size ≤ b) := Lib.hid (fun b hb => by
                  rcases hF8 b hb with h | h | h
                  · exact hF4.out b h
                  · exact .inr (HGB.out b h)
                  · right; omega)
                have HCH : Hid (ChgF F w2 w8) := Lib.hid ((hch4.out.trans (Below.chgF hb7)).trans' hch8 (fun x hx => hF4.out x hx))
                rw [← hz', e2] at hown8
                have HO8 := Lib.hid hown8
                rw [e2]
                clear hown8 hF8 hch8 e2 hz'
                go_wp2_with fail
                go_roundw
                case rel => exact ⟨q + 1, F8, z', by omega, by first | go_num | rfl, HZ', HZL', ⟨_, _, rfl⟩, HO8, HF8, HCH⟩
                case measure => simp [intOf] <;> omega
        · obtain rfl : q = x.length := by omega
          have hzfull : z = near ++ addTo base nvs nq x.length := hz.out
          have hgr : graftTo u nodes list (k + 1) = z.set nq (z.getD nq [] ++ [(base : Int)]) := by
            rw [HGS.out]
            unfold graft1
            rw [← HBASE.out, ← HNVS.out, ← hzfull, Int.toNat_natCast]
          have hnqz : nq < z.length := by rw [hzl.out]; omega
          obtain ⟨g, cap, a, hv, _, _, hgl, hgF, hcell, hra, hSET⟩ := hown4.out.setRow (R := RS RI) rfl nq hnqz
          simp only [Value.slice.injEq, true_and] at hv
          obtain ⟨rfl, rfl⟩ := hv
          have hgd : z.getD nq [] = z[nq] := by simp [hnqz]
          rw [hgd] at hgr
          obtain ⟨xh, hxh⟩ : ∃ xh, xh = z[nq]'hnqz := ⟨_, rfl⟩
          rw [← hxh] at hra hgr
          obtain ⟨oh, ch, rfl, e1, e2⟩ := hra.val
          unfold maxLen at e2
          have gnz : wz.cell? ⟨bn, fn + k, none⟩ = some (.int .i64 (nq : Int)) := (hbz.cell (p := ⟨bn, fn + k, none⟩) hbn).trans gn
          have hxlen : xh.length ≤ 26 := by
            have h1 : xh = near[nq]'(by have := HBASE.out; omega) := by
              rw [hxh]
              simp only [hzfull]
              rw [List.getElem_append_left]
            rw [h1]
            have := HEACH.out k (near[nq]'(by have := HBASE.out; omega)) (by rw [← hnear.out]; exact List.getElem_mem _)
            have := HLEN.out
            omega
          have HSET := Lib.hid hSET
          have HGR := Lib.hid hgr
          have HRA := Lib.hid hra
          have EGC := Lib.hid (enters (P := Try.prog) (f := 81) Try.func81 (by kernel_rfl) rfl)
          have hzl0 : z.length = base + x.length := hzl.out
          obtain ⟨zl, hzl'⟩ : ∃ zl, zl = z.length := ⟨_, rfl⟩
          rw [← hzl'] at hnqz hzl0
          rw [← hzl']
          have i1 : (0 : Int) ≤ (k : Int) := by omega
          have i2 : (k : Int) < (nodes.length : Int) := by omega
          have i3 : (0 : Int) ≤ (nq : Int) := by omega
          have i4 : (nq : Int) < (zl : Int) := by omega
          have HZL0 := Lib.hid hzl0
          have HZLEN := Lib.hid hzl'
          clear hSET hgr hra hgd hxh hzfull hzl' hzl0
          have R1 : Rd (RS RI) wz [.slice oh xh.length ch] xh := HRA.out
          have HCL : Hid (∀ W : World, W.heap = wz.heap ∨ (∃ o, W.heap = (wz.alloc o).heap) → Calls Try.prog 81 #[.slice oh xh.length ch] W (RetO (RS RI) W xh)) := Lib.hid (fun W h => by
            refine c_slicesCloneInt _ xh W ?_ (by omega)
            rcases h with h | ⟨o, h⟩
            · exact R1.of_heap h
            · exact (R1.below ((Below.refl _ _).alloc (Nat.le_refl _) o) (Nat.le_refl _)).of_heap h)
          have hb64 : In64 (base : Int) := by unfold In64; omega
          obtain ⟨xb, hxb⟩ : ∃ xb, xh ++ [(base : Int)] = xb := ⟨_, rfl⟩
          have hxbl : xb.length ≤ 27 := by rw [← hxb, List.length_append, List.length_singleton]; omega
          have HXB := Lib.hid hxb
          rw [hxb] at HGR
          have RL : rdL RI (fun b => b < wz.heap.size) wz [.int .i64 (base : Int)] [(base : Int)] := rdL.single ⟨rfl, hb64⟩
          have HLZ : Hid (∀ W : World, W.heap = (wz.alloc (.cells #[.int .i64 (base : Int)] 3)).heap → Rd (RS RI) W [.slice (some ⟨wz.heap.size, 0, none⟩) 1 1] [(base : Int)]) := Lib.hid (fun W h => Rd.lit (ds := [.int .i64 (base : Int)]) (xs := [(base : Int)]) RL h (by show 1 ≤ maxLen; decide))
          have HLC : Hid (∀ wc W : World, W.heap = (wc.alloc (.cells #[.int .i64 (base : Int)] 3)).heap → Rd (RS RI) W [.slice (some ⟨wc.heap.size, 0, none⟩) 1 1] [(base : Int)]) := Lib.hid (fun wc W h => Rd.lit (ds := [.int .i64 (base : Int)]) (xs := [(base : Int)]) (w := wc) (rdL.single ⟨rfl, hb64⟩) h (by show 1 ≤ maxLen; decide))
          have hbn1 : bn < wz.heap.size := by omega
          have hbn2 : ¬ bn = wz.heap.size := by omega
          have hgl2 : ¬ g = wz.heap.size := by omega
          clear RL R1 hb64 hxb
          apply shareKey (fun (uc lit : Value) (oa9 : Option Addr) (cap9 : Nat) (wd : World) => ∃ F9, OwnF (RS (RS RI)) F9 (wd.setCell ⟨g, nq, none⟩ (.slice oa9 xb.length cap9)) [.slice (some ⟨g, 0, none⟩) z.length c4] (z.set nq xb) ∧ (∀ b, b ∈ F9 → b ∈ F' ∨ wz.heap.size ≤ b) ∧ ChgF F' wz (wd.setCell ⟨g, nq, none⟩ (.slice oa9 xb.length cap9)))
          case use =>
            intro KEY
            go_wp2_with fail
            go_region_law (first
              | (refine step_call rfl 81 _ _ rfl EGC.out #[.slice oh xh.length ch] (by simp [Act.eval]) ?_; refine Calls.mono (HCL.out _ (by first | exact .inl rfl | exact .inr ⟨_, rfl⟩)) ?_; rintro e wc ⟨uc, rfl, oc, bc⟩; have hbc : Below wz.heap.size wz wc := (by first | exact Below.of_heap_eq bc rfl rfl rfl rfl | exact Below.of_alloc_heap bc rfl rfl rfl rfl); have oc' : Own (RS RI) wz.heap.size wc.heap.size wc [uc] xh := oc.mono (by simp) (Nat.le_refl _); have gnc := (hbc.cell (p := ⟨bn, fn + k, none⟩) hbn1).trans gnz; have hbn3 : bn < wc.heap.size := Nat.lt_of_lt_of_le hbn1 hbc.size; clear oc; refine ⟨_, rfl, ?_⟩)
              | (refine step_extI rfl _ _ 79 rfl 3 tInt uc xh wz.heap.size wc.heap.size rfl (by first | exact oc' | exact oc'.below ((Below.refl wc.heap.size wc).alloc (Nat.le_refl _) _) (Nat.le_refl _)) _ [(base : Int)] rfl (by first | exact HLC.out wc _ rfl | exact Rd.below (HLZ.out _ (by rfl)) bc (Nat.le_refl _)) (by first | exact Nat.le_refl _ | simp) hbc.size (by simp; omega) xb HXB.out ?_; intro oa9 cap9 wd od d1 d2 bd; obtain ⟨Gd, hGd, hGb⟩ := OwnF.of od; have hbd : Below wz.heap.size wz wd := (by first | exact hbc.trans bd | exact (hbc.alloc hbc.size _).trans bd); have gnd := (hbd.cell (p := ⟨bn, fn + k, none⟩) hbn1).trans gnz; obtain ⟨f1, f2, F9, hF9, hs9, hc9⟩ := HSET.out wd xb _ Gd hbd hGd (fun b hb => (hGb b hb).1); generalize hl1 : Value.slice (some ⟨wc.heap.size, 0, none⟩) 1 1 = lit1; clear hl1; generalize hl2 : Value.slice (some ⟨wz.heap.size, 0, none⟩) 1 1 = lit2; clear hl2))
            all_goals first | exact KEY uc lit1 oa9 cap9 wd ⟨F9, hF9, hs9, hc9⟩ | exact KEY uc lit2 oa9 cap9 wd ⟨F9, hF9, hs9, hc9⟩
          case key =>
            rintro uc lit oa9 cap9 wd ⟨F9, hF9, hs9, hc9⟩
            have HFIN : Hid (z.set nq xb = graftTo u nodes list (k + 1)) := Lib.hid HGR.out.symm
            obtain ⟨z9, hz9⟩ : ∃ z9, z9 = z.set nq xb := ⟨_, rfl⟩
            rw [← hz9] at HFIN hF9
            have hl9 : zl = z9.length := by rw [hz9, List.length_set]; exact HZLEN.out
            have HB9 : Hid (∀ b, b ∈ F9 → w.heap.size ≤ b) := Lib.hid (fun b hb => by
              rcases hs9 b hb with h | h
              · rcases hF4.out b h with h | h
                · exact hF.out b h
                · omega
              · omega)
            have hbl9 : Below w.heap.size w _ := hbz.trans (hc9.below (B := w.heap.size) (by omega) (fun b hb => by
              rcases hF4.out b hb with h | h
              · exact hF.out b h
              · omega))
            have hl8 : z.length = z9.length := by rw [hz9, List.length_set]
            rw [hl8] at hF9
            have HF9 := Lib.hid hF9
            have HL9 := Lib.hid hl9
            clear hz9 hF9 hs9 hc9 hl9 hl8
            go_wp2_with fail
            go_roundw
            case rel => exact ⟨k + 1, F9, z9, by omega, by go_num, Lib.hid HFIN.out, ⟨_, _, by rw [← HL9.out]⟩, (by have := HF9.out; rw [← HL9.out] at this; exact Lib.hid this), HB9, hbl9⟩
            case measure => simp [intOf] <;> omega
    · have hkk : k = ll := by omega
      have hfin : near = graftTo u nodes list ll := by rw [hnear.out, hkk]
      have htf := HTF.out wo (.slice o2 near.length c2) (by rw [← hfin]; exact hown.out.rd)
      clear hfin hkk
      go_wp2_with fail
      refine htf.mono ?_
      rintro e w3 ⟨u3, rfl, o3, b3⟩
      go_wp2_with fail
      go_ret
      exact ⟨_, rfl, o3.mono hsz1 (Nat.le_refl _), hbel.trans (b3.mono hsz1)⟩
end Go.Proofs.Ytdjkmjifeekimaa
