/- ForestOf: both programs. -/
import Derived.Test.YtmeijcgclllldaaForestS
import Derived.Test.YtmeijcgclllldaaNum2
import Derived.Test.YtmeijcgclllldaaII
namespace Go.Proofs.Ytmeijcgclllldaa
open Go.RowKit

/-- One list of the call's own, and a code. -/
def RetOC {α : Type} (R : Rep α) (w : World) (x : α) (code : Int) : Ending → World → Prop :=
  fun e w' => ∃ u, e = .returned (.tuple #[u, .int .i64 code]) ∧ Own R w.heap.size w'.heap.size w' [u] x ∧ Below w.heap.size w w'

set_option maxRecDepth 100000 in
set_option maxHeartbeats 400000 in
theorem c_impl_areLevels1 (v : Value) (t : List Int) (w : World) (h : Rd (RS RI) w [v] t) : Calls Try.prog 100 #[v] w (RetS w (.bool (!lev8 t))) := by
  have hc := c_impl_IsLevels v t w h
  go_enter Try.func100, Try.ntmps100
  go_wp2_with (go_at_call 55; refine hc.mono ?_; rintro e w' ⟨rfl, rfl⟩)
  go_ret
  exact ⟨rfl, rfl⟩

set_option maxRecDepth 100000 in
set_option maxHeartbeats 1000000 in
theorem c_IndexFunc_notLev (v : Value) (xs : List (List Int)) (w : World) (h : Rd (RS (RS RI)) w [v] xs) :
    Calls Try.prog 118 #[v, .func (.func 100) #[] #[]] w fun e w' => (∃ n, e = .returned (.int .i64 n) ∧ decide (0 ≤ n) = !(xs.all lev8)) ∧ w = w' := by
  obtain ⟨oa, cap, L⟩ := h.lists
  obtain rfl := L.val
  have m1 := L.le; have m2 := L.capLe
  have HL := Lib.hid L
  clear L h
  go_enter Try.func118, Try.ntmps118
  go_wp2_with fail
  go_loop [8] (fun i => ∃ k : Nat, k ≤ xs.length ∧ i = .int .i64 k ∧ (xs.take k).all lev8 = true) (fun i => xs.length - (intOf i).toNat)
  case atStart => exact ⟨0, Nat.zero_le _, rfl, by simp⟩
  case round =>
    obtain ⟨k, hk, rfl, hall⟩ := hrel
    have Hall := Lib.hid hall
    clear hall
    by_cases hlt : k < xs.length
    · obtain ⟨b, off, rfl, hb, hc⟩ := HL.out.get hlt
      obtain ⟨oi, ci, g1, hrd, q1, q2⟩ := hc k hlt
      obtain ⟨pb, hpb⟩ : ∃ pb, pb = lev8 xs[k] := ⟨_, rfl⟩
      have hcc := c_impl_areLevels1 _ _ w hrd
      rw [← hpb] at hcc
      have hlt' := Lib.hid hlt
      cases pb
      · have HP := Lib.hid hpb.symm
        clear hc hrd hpb
        go_wp2_with (go_at_call 100; refine hcc.mono ?_; rintro e w' ⟨rfl, rfl⟩)
        go_ret
        exact ⟨⟨k, rfl, by rw [all_false_at _ _ k hlt'.out HP.out]; simp⟩, rfl⟩
      · have HP := Lib.hid hpb.symm
        clear hc hrd hpb
        go_wp2_with (go_at_call 100; refine hcc.mono ?_; rintro e w' ⟨rfl, rfl⟩)
        go_round
        case rel => exact ⟨k + 1, by omega, by go_num, all_take_succ _ _ k hlt'.out Hall.out HP.out⟩
        case measure => simp [intOf]; omega
    · go_wp2_with fail
      go_ret
      exact ⟨⟨-1, rfl, by rw [all_of_take _ _ k (by omega) Hall.out]; simp⟩, rfl⟩

set_option maxRecDepth 100000 in
set_option maxHeartbeats 400000 in
theorem c_ContainsFunc_notLev (v : Value) (xs : List (List Int)) (w : World) (h : Rd (RS (RS RI)) w [v] xs) :
    Calls Try.prog 99 #[v, .func (.func 100) #[] #[]] w (RetS w (.bool (!(xs.all lev8)))) := by
  go_enter Try.func99, Try.ntmps99
  go_wp2_with fail
  refine (c_IndexFunc_notLev v xs w h).mono ?_
  rintro e w' ⟨⟨n, rfl, hn⟩, rfl⟩
  have Hn := Lib.hid hn
  clear hn
  go_wp2_with fail
  go_ret
  exact ⟨by rw [← Hn.out]; rfl, rfl⟩

set_option maxRecDepth 100000 in
set_option maxHeartbeats 400000 in
theorem c_impl_areLevels (v : Value) (xs : List (List Int)) (w : World) (h : Rd (RS (RS RI)) w [v] xs) :
    Calls Try.prog 64 #[v] w (RetS w (.bool (xs.all lev8))) := by
  have hc := c_ContainsFunc_notLev v xs w h
  go_enter Try.func64, Try.ntmps64
  go_wp2_with fail
  refine hc.mono ?_
  rintro e w' ⟨rfl, rfl⟩
  go_wp2_with fail
  go_ret
  exact ⟨by simp, rfl⟩

/-- What ForestOf returns, with the code. -/
def forOf (xs : List (List Int)) : List (List Int) × Int := if xs.all lev8 = true then (if sumLen xs ≤ 8 then (forest (xs.map canon), 0) else ([], 3)) else ([], 1)

theorem sumLen_canon {xs : List (List Int)} (h : xs.all lev8 = true) : sumLen (xs.map canon) = sumLen xs := by
  unfold sumLen
  rw [List.map_map]
  congr 1
  apply List.map_congr_left
  intro x hx
  exact canon_len (lev8_lev (List.all_eq_true.1 h x hx))

theorem len_le_sum {xs : List (List Int)} (h : xs.all lev8 = true) : xs.length ≤ sumLen xs := by
  have : ∀ bs : List (List Int), (∀ b ∈ bs, LevP b) → bs.length ≤ sumLen bs := by
    intro bs
    induction bs with
    | nil => intro _; simp [sumLen]
    | cons b bs ih =>
      intro hb
      have := ih (fun c hc => hb c (by simp [hc]))
      have := (hb b (by simp)).pos
      simp only [sumLen, List.map_cons, List.sum_cons, List.length_cons] at *
      omega
  exact this xs (fun b hb => lev8_lev (List.all_eq_true.1 h b hb))

theorem forOf_ok {xs : List (List Int)} (h : xs.all lev8 = true) (h8 : sumLen xs ≤ 8) : forOf xs = (forest (xs.map canon), 0) := by unfold forOf; rw [if_pos h, if_pos h8]
theorem forOf_many {xs : List (List Int)} (h : xs.all lev8 = true) (h8 : ¬ sumLen xs ≤ 8) : forOf xs = ([], 3) := by unfold forOf; rw [if_pos h, if_neg h8]
theorem forOf_bad {xs : List (List Int)} (h : xs.all lev8 = false) : forOf xs = ([], 1) := by unfold forOf; rw [if_neg (by simp [h])]

theorem forest_sumLen (bs : List (List Int)) : sumLen (forest bs) = sumLen bs := sumLen_perm (sortC_perm bs)

theorem forOf_cnt (xs : List (List Int)) : cnt_II (forOf xs).1 ≤ 1048576 := by
  unfold forOf cnt_II
  by_cases h : xs.all lev8 = true
  · rw [if_pos h]
    by_cases h8 : sumLen xs ≤ 8
    · rw [if_pos h8]
      show sumLen (forest (xs.map canon)) ≤ 1048576
      rw [forest_sumLen, sumLen_canon h]; omega
    · rw [if_neg h8]; simp [sumLen]
  · rw [if_neg h]; simp [sumLen]

theorem map_take_succ {xs : List (List Int)} (f : List Int → List Int) (k : Nat) (h : k < xs.length) : (xs.take (k + 1)).map f = (xs.take k).map f ++ [f xs[k]] := by
  rw [List.take_succ_eq_append_getElem h, List.map_append]; rfl

set_option maxRecDepth 100000 in
set_option maxHeartbeats 2000000 in
theorem k_impl_ForestOf (v : Value) (xs : List (List Int)) (w : World) (h : Rd (RS (RS RI)) w [v] xs) (hsz : szII xs) :
    Calls Try.prog 50 #[v] w (RetOC (RS (RS RI)) w (forOf xs).1 (forOf xs).2) := by
  have hsum : xs.length + sumLen xs ≤ 1048576 := hsz
  have hal := c_impl_areLevels v xs w h
  have hnd := c_impl_nodesIn v xs w h
  rw [nodesB_eq xs (by omega)] at hnd
  obtain ⟨oa, cap, L⟩ := h.lists
  obtain rfl := L.val
  have m1 := L.le; have m2 := L.capLe
  have HL := Lib.hid L
  clear L h
  cases hall : xs.all lev8
  · rw [hall] at hal
    have hr := Lib.hid (forOf_bad hall)
    clear hall
    go_enter Try.func50, Try.ntmps50
    go_wp2_with (go_at_call 64; refine hal.mono ?_; rintro e w' ⟨rfl, rfl⟩)
    go_ret2
    exact ⟨_, by rw [hr.out]; rfl, by rw [hr.out]; exact Own.nil _ _, Below.refl _ _⟩
  · rw [hall] at hal
    by_cases h8 : sumLen xs ≤ 8
    · have hr := Lib.hid (forOf_ok hall h8)
      have hlen := len_le_sum hall
      have HA := Lib.hid hall
      have h8' : ¬ ((sumLen xs : Nat) : Int) > 8 := by omega
      have h8'' : ¬ (8 : Int) < ((sumLen xs : Nat) : Int) := by omega
      clear hall
      go_enter Try.func50, Try.ntmps50
      go_wp2_with (first | (go_at_call 64; refine hal.mono ?_; rintro e w' ⟨rfl, rfl⟩) | (go_at_call 84; refine hnd.mono ?_; rintro e w' ⟨rfl, rfl⟩))
      go_loopw [4, 18] (fun o i wr => ∃ (k : Nat) (z : List (List Int)), k ≤ xs.length ∧ i = .int .i64 k ∧ Hid (z = (xs.take k).map canon) ∧ Hid (z.length = k) ∧ (∃ oa cap, o = .slice oa z.length cap) ∧ Hid (Own (RS (RS RI)) w.heap.size wr.heap.size wr [o] z) ∧ Below w.heap.size w wr) (fun _ i _ => xs.length - (intOf i).toNat)
      case atStart => exact ⟨0, [], Nat.zero_le _, rfl, Lib.hid rfl, Lib.hid rfl, ⟨_, _, rfl⟩, Lib.hid ((Own.empty (R := RS RI) (w := w) 22 w.heap.size (Nat.le_refl _)).top _ (by simp)), (Below.refl _ _).alloc (Nat.le_refl _) _⟩
      case round =>
        obtain ⟨k, z, hk, rfl, hz, hzl, ⟨o1, cap1, rfl⟩, hown, hbel⟩ := hrel
        have hsz1 := hbel.size
        by_cases hlt : k < xs.length
        · obtain ⟨b, off, rfl, hb, hc⟩ := HL.out.get hlt
          obtain ⟨oi, ci, g1, hrd, q1, q2⟩ := hc k hlt
          have g2 : wr.cell? ⟨b, off + k, none⟩ = some (.slice oi xs[k].length ci) := (hbel.cell (p := ⟨b, off + k, none⟩) hb).trans g1
          have hx8 : lev8 xs[k] = true := List.all_eq_true.1 HA.out _ (List.getElem_mem hlt)
          have hxl := lev8_len hx8
          have hcn := c_impl_canonical 13 (.slice oi xs[k].length ci) xs[k] wr (hrd.below hbel (Nat.le_refl _)) (lev8_lev hx8) (by omega) (by omega)
          have hnx := map_take_succ canon k hlt
          rw [← hz.out] at hnx
          obtain ⟨x, hx⟩ : ∃ x, x = canon xs[k] := ⟨_, rfl⟩
          obtain ⟨xl, hxl'⟩ : ∃ xl, xl = xs[k].length := ⟨_, rfl⟩
          rw [← hx] at hnx hcn
          rw [← hxl'] at hcn g2 q1 hxl
          have HN := Lib.hid hnx
          have hzb : z.length ≤ 8 := by rw [hzl.out]; omega
          clear hc g1 hrd hx8 hx hxl' hnx
          go_wp2_with (first | (go_at_call 59; refine hcn.mono ?_; rintro e w2 ⟨u, rfl, o2, b2⟩; obtain ⟨ou, cu, rfl, lu1, lu2⟩ := o2.val) | (at_builtin; refine StopAt (o := ⟨some 26, _, _, _, _, _⟩) ?_))
          refine Stop.go ?_
          have hb2 := b2.size
          refine wpList_snoc (w := w2) (R := RS RI) rfl _ _ 47 rfl 22 (.slice none 0 0) 1 24 tI64S rfl (.slice o1 z.length cap1) z x [.slice ou x.length cu] w.heap.size wr.heap.size w2.heap.size rfl (hown.out.below b2 (Nat.le_refl _)) o2 hb2 hsz1 22 rfl rfl (by omega) (by omega) ?_
          intro oa1 cap1' w1 hown1 c1a c1b hbel1
          have hb3 := (hbel.trans (b2.mono hsz1)).trans hbel1
          obtain ⟨z', hz'⟩ : ∃ z', z' = z ++ [x] := ⟨_, rfl⟩
          have HZ : Hid (z' = (xs.take (k + 1)).map canon) := Lib.hid (by rw [hz', HN.out])
          have e1 : z.length + 1 = z'.length := by rw [hz']; simp
          have HZL : Hid (z'.length = k + 1) := Lib.hid (by rw [← e1, hzl.out])
          rw [← hz', e1] at hown1
          have HO : Hid (Own (RS (RS RI)) w.heap.size w1.heap.size w1 [.slice oa1 z'.length cap1'] z') := hown1
          rw [e1]
          clear hown1 hbel1 hown e1 hz' hcn o2
          go_wp2_with fail
          go_roundw
          case rel => exact ⟨k + 1, z', by omega, by go_num, HZ, HZL, ⟨_, _, rfl⟩, HO, hb3⟩
          case measure => simp [intOf]; omega
        · have hfin : Hid (z = xs.map canon) := Lib.hid (by rw [hz.out, List.take_of_length_le (by omega)])
          have hsm : ∀ b ∈ z, b.length ≤ 1000000000 := by
            intro b hb
            rw [hfin.out, List.mem_map] at hb
            obtain ⟨c, hc, rfl⟩ := hb
            have := List.all_eq_true.1 HA.out c hc
            rw [canon_len (lev8_lev this)]
            have := lev8_len this
            omega
          have hfo := c_impl_forestOf _ z wr hown.out.rd (by rw [hzl.out]; omega) hsm
          have HF : Hid (forest z = (forOf xs).1 ∧ (forOf xs).2 = 0) := Lib.hid (by rw [hr.out, hfin.out]; exact ⟨rfl, rfl⟩)
          clear hsm
          go_wp2_with (go_at_call 85; refine hfo.mono ?_; rintro e w3 ⟨u, rfl, o3, b3⟩)
          go_ret2
          exact ⟨_, by rw [HF.out.2]; rfl, by rw [← HF.out.1]; exact o3.mono hsz1 (Nat.le_refl _), hbel.trans (b3.mono hsz1)⟩
    · have hr := Lib.hid (forOf_many hall h8)
      have h8' : ((sumLen xs : Nat) : Int) > 8 := by omega
      have h8'' : (8 : Int) < ((sumLen xs : Nat) : Int) := by omega
      clear hall
      go_enter Try.func50, Try.ntmps50
      go_wp2_with (first | (go_at_call 64; refine hal.mono ?_; rintro e w' ⟨rfl, rfl⟩) | (go_at_call 84; refine hnd.mono ?_; rintro e w' ⟨rfl, rfl⟩))
      go_ret2
      exact ⟨_, by rw [hr.out]; rfl, by rw [hr.out]; exact Own.nil _ _, Below.refl _ _⟩

set_option maxRecDepth 100000 in
set_option maxHeartbeats 2000000 in
theorem k_spec_ForestOf (v : Value) (xs : List (List Int)) (w : World) (h : Rd (RS (RS RI)) w [v] xs) (hsz : szII xs) :
    Calls Try.prog 48 #[v] w (RetOC (RS (RS RI)) w (forOf xs).1 (forOf xs).2) := by
  have hsum : xs.length + sumLen xs ≤ 1048576 := hsz
  obtain ⟨oa, cap, L⟩ := h.lists
  obtain rfl := L.val
  have m1 := L.le; have m2 := L.capLe
  have HL := Lib.hid L
  clear L h
  go_enter Try.func48, Try.ntmps48
  go_wp2_with fail
  go_loopw [4, 5] (fun o i wr => ∃ (k : Nat) (z : List (List Int)), k ≤ xs.length ∧ i = .int .i64 k ∧ Hid ((xs.take k).all lev8 = true) ∧ Hid (z = (xs.take k).map canon) ∧ Hid (z.length = k) ∧ (∃ oa cap, o = .slice oa z.length cap) ∧ Hid (Own (RS (RS RI)) w.heap.size wr.heap.size wr [o] z) ∧ Below w.heap.size w wr) (fun _ i _ => xs.length - (intOf i).toNat)
  case atStart => exact ⟨0, [], Nat.zero_le _, rfl, Lib.hid rfl, Lib.hid rfl, Lib.hid rfl, ⟨_, _, rfl⟩, Lib.hid ((Own.empty (R := RS RI) (w := w) 22 w.heap.size (Nat.le_refl _)).top _ (by simp)), (Below.refl _ _).alloc (Nat.le_refl _) _⟩
  case round =>
    obtain ⟨k, z, hk, rfl, hall, hz, hzl, ⟨o1, cap1, rfl⟩, hown, hbel⟩ := hrel
    have hsz1 := hbel.size
    by_cases hlt : k < xs.length
    · obtain ⟨b, off, rfl, hb, hc⟩ := HL.out.get hlt
      obtain ⟨oi, ci, g1, hrd, q1, q2⟩ := hc k hlt
      have g2 : wr.cell? ⟨b, off + k, none⟩ = some (.slice oi xs[k].length ci) := (hbel.cell (p := ⟨b, off + k, none⟩) hb).trans g1
      have hxb : xs[k].length ≤ 1048576 := by have := sumLen_mem (List.getElem_mem hlt); omega
      obtain ⟨pb, hpb⟩ : ∃ pb, pb = lev8 xs[k] := ⟨_, rfl⟩
      have his := c_spec_l03Is (.slice oi xs[k].length ci) xs[k] wr (hrd.below hbel (Nat.le_refl _)) (by omega)
      rw [← hpb] at his
      cases pb
      · have hr := Lib.hid (forOf_bad (all_false_at lev8 xs k hlt hpb.symm))
        obtain ⟨xl, hxl'⟩ : ∃ xl, xl = xs[k].length := ⟨_, rfl⟩
        rw [← hxl'] at his g2 q1 hxb
        clear hc g1 hrd hpb hxl'
        go_wp2_with (go_at_call 51; refine his.mono ?_; rintro e w2 ⟨rfl, nd, rfl⟩)
        go_ret2
        exact ⟨_, by rw [hr.out]; rfl, by rw [hr.out]; exact Own.nil _ _, hbel.trans (Below.drewN _ _ _)⟩
      · have hx8 := hpb.symm
        have hxl := lev8_len hx8
        have HCN : Hid (∀ nd, Calls Try.prog 54 #[.slice oi xs[k].length ci] (wr.drewN nd) (RetO (RS RI) (wr.drewN nd) (canon xs[k]))) := Lib.hid (fun nd => c_spec_l03Canon xs[k].length _ xs[k] _ ((hrd.below hbel (Nat.le_refl _)).of_heap rfl) (lev8_lev hx8) (Nat.le_refl _) (by omega))
        have hnx := map_take_succ canon k hlt
        have HALL := Lib.hid (all_take_succ lev8 xs k hlt hall.out hx8)
        rw [← hz.out] at hnx
        obtain ⟨x, hx⟩ : ∃ x, x = canon xs[k] := ⟨_, rfl⟩
        obtain ⟨xl, hxl'⟩ : ∃ xl, xl = xs[k].length := ⟨_, rfl⟩
        rw [← hx] at hnx HCN
        rw [← hxl'] at HCN his g2 q1 hxl hxb
        have HN := Lib.hid hnx
        have hzb : z.length ≤ 1048576 := by rw [hzl.out]; omega
        clear hc g1 hrd hx8 hx hxl' hnx hpb
        go_wp2_with (first | (go_at_call 51; refine his.mono ?_; rintro e w2 ⟨rfl, nd, rfl⟩) | (go_at_call 54; refine (HCN.out _).mono ?_; rintro e w2 ⟨u, rfl, o2, b2⟩; obtain ⟨ou, cu, rfl, lu1, lu2⟩ := o2.val) | (at_builtin; refine StopAt (o := ⟨some 26, _, _, _, _, _⟩) ?_))
        refine Stop.go ?_
        have hb2 := b2.size
        have hbn : Below w.heap.size w w2 := (hbel.trans (Below.drewN _ _ _)).trans (b2.mono hsz1)
        refine wpList_snoc (w := w2) (R := RS RI) rfl _ _ 47 rfl 22 (.slice none 0 0) 1 24 tI64S rfl (.slice o1 z.length cap1) z x [.slice ou x.length cu] w.heap.size wr.heap.size w2.heap.size rfl ((hown.out.of_heap (w' := wr.drewN nd) rfl).below b2 (Nat.le_refl _)) o2 hb2 hsz1 22 rfl rfl (by omega) (by omega) ?_
        intro oa1 cap1' w1 hown1 c1a c1b hbel1
        have hb3 := hbn.trans hbel1
        obtain ⟨z', hz'⟩ : ∃ z', z' = z ++ [x] := ⟨_, rfl⟩
        have HZ : Hid (z' = (xs.take (k + 1)).map canon) := Lib.hid (by rw [hz', HN.out])
        have e1 : z.length + 1 = z'.length := by rw [hz']; simp
        have HZL : Hid (z'.length = k + 1) := Lib.hid (by rw [← e1, hzl.out])
        rw [← hz', e1] at hown1
        have HO : Hid (Own (RS (RS RI)) w.heap.size w1.heap.size w1 [.slice oa1 z'.length cap1'] z') := hown1
        rw [e1]
        clear hown1 hbel1 hown e1 hz' HCN o2 his
        go_wp2_with fail
        go_roundw
        case rel => exact ⟨k + 1, z', by omega, by go_num, HALL, HZ, HZL, ⟨_, _, rfl⟩, HO, hb3⟩
        case measure => simp [intOf]; omega
    · have hall' := all_of_take lev8 xs k (by omega) hall.out
      have hfin : Hid (z = xs.map canon) := Lib.hid (by rw [hz.out, List.take_of_length_le (by omega)])
      have hsl : sumLen z = sumLen xs := by rw [hfin.out]; exact sumLen_canon hall'
      have hnd := c_spec_l03Nodes _ z wr hown.out.rd
      rw [nodesB_eq z (by omega), hsl] at hnd
      by_cases h8 : sumLen xs ≤ 8
      · have hr := Lib.hid (forOf_ok hall' h8)
        have hlen := len_le_sum hall'
        have h8' : ¬ ((sumLen xs : Nat) : Int) > 8 := by omega
        have h8'' : ¬ (8 : Int) < ((sumLen xs : Nat) : Int) := by omega
        have hsm : ∀ b ∈ z, b.length ≤ 1000000000 := by
          intro b hb
          rw [hfin.out, List.mem_map] at hb
          obtain ⟨c, hc, rfl⟩ := hb
          have := List.all_eq_true.1 hall' c hc
          rw [canon_len (lev8_lev this)]
          have := lev8_len this
          omega
        have hfo := c_spec_l03Sort _ z wr hown.out.rd (by rw [hzl.out]; omega) hsm
        have HF : Hid (forest z = (forOf xs).1 ∧ (forOf xs).2 = 0) := Lib.hid (by rw [hr.out, hfin.out]; exact ⟨rfl, rfl⟩)
        clear hsm hall' hsl
        go_wp2_with (first | (go_at_call 82; refine hnd.mono ?_; rintro e w' ⟨rfl, rfl⟩) | (go_at_call 83; refine hfo.mono ?_; rintro e w3 ⟨u, rfl, o3, b3⟩))
        go_ret2
        exact ⟨_, by rw [HF.out.2]; rfl, by rw [← HF.out.1]; exact o3.mono hsz1 (Nat.le_refl _), hbel.trans (b3.mono hsz1)⟩
      · have hr := Lib.hid (forOf_many hall' h8)
        have h8' : ((sumLen xs : Nat) : Int) > 8 := by omega
        have h8'' : (8 : Int) < ((sumLen xs : Nat) : Int) := by omega
        clear hall' hsl
        go_wp2_with (go_at_call 82; refine hnd.mono ?_; rintro e w' ⟨rfl, rfl⟩)
        go_ret2
        exact ⟨_, by rw [hr.out]; rfl, by rw [hr.out]; exact Own.nil _ _, hbel⟩
end Go.Proofs.Ytmeijcgclllldaa
