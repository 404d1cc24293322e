/- Forests: copies, sums of nodes, sorting. -/
import Derived.Test.YtacbkjmkjpjhoaaGreatCanonS
import Derived.Test.YtacbkjmkjpjhoaaGreatReg
import Derived.Lib.SliceRun
set_option linter.unusedSimpArgs false
set_option linter.unusedVariables false
namespace Go.Proofs.YtacbkjmkjpjhoaaGreat
open Go.RowKit

def forest (list : List (List Int)) : List (List Int) := sortC cmpT list

set_option maxRecDepth 100000 in
set_option maxHeartbeats 400000 in
theorem c_slicesClone (v : Value) (xs : List Int) (w : World) (h : Rd (RS RI) w [v] xs) (hsz : xs.length ≤ 1000000000) :
    Calls Tryz.prog 151 #[v] w (RetO (RS RI) w xs) := by
  obtain ⟨oa, c1, I1⟩ := h.ints
  obtain rfl := I1.val
  have m1 := I1.le; have m2 := I1.capLe
  unfold maxLen at m2
  have q22 : ∀ (w : World) (a : Option Addr) (n c n' c' : Nat), (binOp .eql 48 (.slice a n c) (.slice none n' c')).run Tryz.prog w = .ok (.bool a.isNone) w := fun w a n c n' c' => Lib.run_eql_slice_nil w _ _ a n c n' c' tI64.ht
  cases oa with
  | none =>
    have hc := I1.noneCap rfl
    have hx : xs = [] := List.eq_nil_of_length_eq_zero (by omega)
    subst hx; subst hc
    clear h I1
    go_enter Tryz.func151, Tryz.ntmps151
    go_wp2_with fail
    go_ret
    exact ⟨_, rfl, Own.nil _ _, Below.refl _ _⟩
  | some ad =>
  have I2 : Ints (w.alloc (.cells #[] 2)) (.slice (some ad) xs.length c1) xs (some ad) c1 := by
    refine ⟨rfl, m1, I1.capLe, I1.noneCap, I1.bd, ?_⟩
    rcases I1.row with h | ⟨b, off, e, hb, hc⟩
    · exact .inl h
    · refine .inr ⟨b, off, e, by simp; omega, fun j hj => ?_⟩
      rw [World.cell?_alloc_lt _ _ _ hb]; exact hc j hj
  have hrow := Row.lit w #[] 2 1 0 (by decide) (by simp)
  have HI := Lib.hid I2
  have HR := Lib.hid hrow
  clear I2 hrow
  go_enter Tryz.func151, Tryz.ntmps151
  go_wp2_with (at_builtin; refine StopAt (o := ⟨some 7, _, _, _, _, _⟩) ?_)
  refine Stop.go ?_
  refine wpList_appendS rfl _ _ 48 rfl 2 (.int .i64 0) 1 8 tI64 (.slice (some ⟨w.heap.size, 0, none⟩) 0 0) 0 [] (some w.heap.size) rfl (by simpa using HR.out) (some ad) xs.length c1 (xs.map (Value.int .i64)) rfl (by simp) (fun h => by cases h) (Row.cells_ints HI.out) (by intro u hu; obtain ⟨x, _, rfl⟩ := List.mem_map.1 hu; rfl) (by omega) (by unfold maxLen; omega) ?_
  intro v' w' og' happ
  rw [Nat.zero_add, List.nil_append] at happ
  have hlow := happ.low (B := w.heap.size) (by simp) (fun g hg => by cases hg; exact Nat.le_refl _)
  have hbel : Below w.heap.size w w' := ((Below.refl w.heap.size w).alloc (Nat.le_refl _) (.cells #[] 2)).trans hlow.2
  have hown : Own (RS RI) w.heap.size w'.heap.size w' [v'] xs := Row.OwnI (by simpa using happ.1) I1.bd hlow.1
  have HO := Lib.hid hown
  obtain ⟨oa', cap', rfl, _⟩ := hown.val
  clear hown happ hlow
  go_wp2_with fail
  go_ret
  exact ⟨_, rfl, HO.out, hbel⟩

/-- Both own parts in one region. -/
theorem take_snoc (xs : List (List Int)) (k : Nat) (h : k < xs.length) : xs.take (k + 1) = xs.take k ++ [xs[k]] := List.take_succ_eq_append_getElem h

set_option maxRecDepth 100000 in
set_option maxHeartbeats 1000000 in
theorem c_impl_cloneRows (v : Value) (bs : List (List Int)) (w : World) (h : Rd (RS (RS RI)) w [v] bs) (hsz : bs.length ≤ 1000000000) (hsl : ∀ b ∈ bs, b.length ≤ 1000000000) :
    Calls Tryz.prog 104 #[v] w (RetO (RS (RS RI)) w bs) := by
  obtain ⟨oa, cap, L⟩ := h.lists
  obtain rfl := L.val
  have m1 := L.le; have m2 := L.capLe
  have HL := Lib.hid L
  have HS := Lib.hid hsl
  clear L h hsl
  go_enter Tryz.func104, Tryz.ntmps104
  go_wp2_with fail
  go_loopw [3, 9] (fun o i wr => ∃ (k : Nat) (r : List (List Int)), k ≤ bs.length ∧ i = .int .i64 k ∧ Hid (r = bs.take k) ∧ r.length ≤ 1000000000 ∧ (∃ oa cap, o = .slice oa r.length cap) ∧ Hid (Own (RS (RS RI)) w.heap.size wr.heap.size wr [o] r) ∧ Below w.heap.size w wr) (fun _ i _ => bs.length - (intOf i).toNat)
  case atStart => exact ⟨0, [], Nat.zero_le _, rfl, Lib.hid rfl, by simp, ⟨_, _, rfl⟩, Lib.hid ((Own.empty (R := RS RI) (w := w) 48 w.heap.size (Nat.le_refl _)).top _ (by simp)), (Below.refl _ _).alloc (Nat.le_refl _) _⟩
  case round =>
    obtain ⟨k, r, hk, rfl, hr, hrl, ⟨o1, cap1, rfl⟩, hown, hbel⟩ := hrel
    have hsz1 := hbel.size
    by_cases hlt : k < bs.length
    · obtain ⟨b, off, rfl, hb, hc⟩ := HL.out.get hlt
      obtain ⟨oi, ci, g1, hrd, q1, q2⟩ := hc k hlt
      have g2 : wr.cell? ⟨b, off + k, none⟩ = some (.slice oi bs[k].length ci) := (hbel.cell (p := ⟨b, off + k, none⟩) hb).trans g1
      obtain ⟨x, hx⟩ : ∃ x, x = bs[k] := ⟨_, rfl⟩
      have hxl : x.length ≤ 1000000000 := by rw [hx]; exact HS.out _ (List.getElem_mem hlt)
      have hnx := take_snoc bs k hlt
      have hrlen : r.length = k := by rw [hr.out]; simp; omega
      have hr2 : r.length + 1 ≤ 1000000000 := by omega
      rw [← hx] at g2 hrd q1 hnx
      rw [← hr.out] at hnx
      have hcl := c_slicesClone _ x wr (hrd.below hbel (Nat.le_refl _)) hxl
      have HN := Lib.hid hnx
      clear hc g1 hx hrd hnx hrlen
      go_wp2_with (first | (go_at_call 151; refine hcl.mono ?_; rintro e w2 ⟨u, rfl, o2, b2⟩; obtain ⟨ou, cu, rfl, lu1, lu2⟩ := o2.val) | (at_builtin; refine StopAt (o := ⟨some 17, _, _, _, _, _⟩) ?_))
      refine Stop.go ?_
      have hb2 := b2.size
      refine wpList_snoc (w := w2) (R := RS RI) rfl _ _ 50 rfl 48 (.slice none 0 0) 1 24 tI64S rfl (.slice o1 r.length cap1) r x [.slice ou x.length cu] w.heap.size wr.heap.size w2.heap.size rfl (hown.out.below b2 (Nat.le_refl _)) o2 hb2 hsz1 48 rfl rfl (by omega) (by omega) ?_
      intro oa1 cap1' w1 hown1 c1a c1b hbel1
      have hb3 := (hbel.trans (b2.mono hsz1)).trans hbel1
      obtain ⟨r', hr'⟩ : ∃ r', r' = r ++ [x] := ⟨_, rfl⟩
      have HR : Hid (r' = bs.take (k + 1)) := Lib.hid (by rw [hr', HN.out])
      have e1 : r.length + 1 = r'.length := by rw [hr']; simp
      rw [← hr', e1] at hown1
      have HO : Hid (Own (RS (RS RI)) w.heap.size w1.heap.size w1 [.slice oa1 r'.length cap1'] r') := hown1
      rw [e1] at hr2
      rw [e1]
      clear hown1 hbel1 hown e1 hr' hcl o2
      go_wp2_with fail
      go_roundw
      case rel => exact ⟨k + 1, r', by omega, by go_num, HR, hr2, ⟨_, _, rfl⟩, HO, hb3⟩
      case measure => simp [intOf]; omega
    · have hfin : Hid (r = bs) := Lib.hid (by rw [hr.out, List.take_of_length_le (by omega)])
      go_wp2_with fail
      go_ret
      exact ⟨_, rfl, by rw [← hfin.out]; exact hown.out, hbel⟩

set_option maxRecDepth 100000 in
set_option maxHeartbeats 1000000 in
theorem c_impl_forestOf (v : Value) (bs : List (List Int)) (w : World) (h : Rd (RS (RS RI)) w [v] bs) (hsz : bs.length ≤ 19) (hsl : ∀ b ∈ bs, b.length ≤ 1000000000) :
    Calls Tryz.prog 91 #[v] w (RetO (RS (RS RI)) w (forest bs)) := by
  have hc := c_impl_cloneRows v bs w h (by omega) hsl
  have EG := Lib.hid (enters (P := Tryz.prog) (f := 136) Tryz.func136 (by kernel_rfl) rfl)
  have HA : Hid (CmpAsk Tryz.prog 136 cmpT (fun _ => True)) := Lib.hid (fun w h1 h2 x y r1 r2 _ _ => c_impl_compareTrees h1 h2 x y w r1 r2)
  clear h hsl
  go_enter Tryz.func91, Tryz.ntmps91
  go_wp2_with (go_at_call 104; refine hc.mono ?_; rintro e w1 ⟨u, rfl, o1, b1⟩; obtain ⟨ou, cu, rfl, lu1, lu2⟩ := o1.val)
  have hs := c_SortStable 136 cmpT cmpT_cmp (fun _ => True) EG.out HA.out _ bs w.heap.size w1.heap.size w1 o1 (fun _ _ => trivial) (by omega)
  have hb1 := b1.size
  clear o1 hc
  go_wp2_with (go_at_call 138; refine hs.mono ?_; rintro e w3 ⟨rfl, o3, ch3⟩)
  go_ret
  have hb3 : Below w.heap.size w w3 := b1.trans (ch3.below (Nat.le_refl _) hb1)
  exact ⟨_, rfl, o3.mono (Nat.le_refl _) ch3.size, hb3⟩

/-- The number of nodes, as the machine adds. -/
def nodesB (bs : List (List Int)) : Int := bs.foldl (fun a b => wrap64 (a + b.length)) 0

theorem nodesB_take_succ (bs : List (List Int)) (k : Nat) (h : k < bs.length) : nodesB (bs.take (k + 1)) = wrap64 (nodesB (bs.take k) + bs[k].length) := by
  unfold nodesB
  rw [List.take_succ_eq_append_getElem h, List.foldl_append]; rfl

theorem nodesB_eq (bs : List (List Int)) (h : sumLen bs ≤ 1000000000000000000) : nodesB bs = sumLen bs := by
  have : ∀ (bs : List (List Int)) (n : Nat), n + sumLen bs ≤ 1000000000000000000 → bs.foldl (fun a b => wrap64 (a + (b.length : Int))) (n : Int) = (n + sumLen bs : Nat) := by
    intro bs
    induction bs with
    | nil => intro n _; simp [sumLen]
    | cons b bs ih =>
      intro n hn
      simp only [sumLen, List.map_cons, List.sum_cons] at hn
      rw [List.foldl_cons]
      have e : wrap64 ((n : Int) + b.length) = ((n + b.length : Nat) : Int) := by unfold wrap64; omega
      rw [e, ih (n + b.length) (by unfold sumLen; omega)]
      simp only [sumLen, List.map_cons, List.sum_cons]
      omega
  unfold nodesB; simpa using this bs 0 (by omega)

set_option maxRecDepth 100000 in
set_option maxHeartbeats 1000000 in
theorem c_impl_nodesIn (v : Value) (bs : List (List Int)) (w : World) (h : Rd (RS (RS RI)) w [v] bs) :
    Calls Tryz.prog 88 #[v] w (RetS w (.int .i64 (nodesB bs))) := by
  obtain ⟨oa, cap, L⟩ := h.lists
  obtain rfl := L.val
  have m1 := L.le; have m2 := L.capLe
  have HL := Lib.hid L
  clear L h
  go_enter Tryz.func88, Tryz.ntmps88
  go_wp2_with fail
  go_loop [3, 8] (fun s i => ∃ (k : Nat), k ≤ bs.length ∧ i = .int .i64 k ∧ s = .int .i64 (nodesB (bs.take k))) (fun _ i => bs.length - (intOf i).toNat)
  case atStart => exact ⟨0, Nat.zero_le _, rfl, rfl⟩
  case round =>
    obtain ⟨k, hk, rfl, rfl⟩ := hrel
    by_cases hlt : k < bs.length
    · obtain ⟨b, off, rfl, hb, hc⟩ := HL.out.get hlt
      obtain ⟨oi, ci, g1, hrd, q1, q2⟩ := hc k hlt
      have hnx := nodesB_take_succ bs k hlt
      obtain ⟨x, hx⟩ : ∃ x, x = bs[k].length := ⟨_, rfl⟩
      obtain ⟨s, hs⟩ : ∃ s, s = nodesB (bs.take k) := ⟨_, rfl⟩
      rw [← hx] at g1 q1 hnx
      rw [← hs] at hnx
      rw [← hs]
      have hw : IntKind.i64.wrap (s + (x : Int)) = wrap64 (s + x) := IntWalk.i64_left _
      obtain ⟨g, hg⟩ : ∃ g, g = wrap64 (s + x) := ⟨_, rfl⟩
      rw [← hg] at hw hnx
      have HN := Lib.hid hnx
      clear hc hrd hx hs hg hnx
      go_wp2_with fail
      go_round
      case rel => exact ⟨k + 1, by omega, by go_num, by rw [HN.out]⟩
      case measure => simp [intOf]; omega
    · have hfin : bs.take k = bs := List.take_of_length_le (by omega)
      have HF := Lib.hid hfin
      clear hfin
      go_wp2_with fail
      go_ret
      exact ⟨by simp [HF.out], rfl⟩

set_option maxRecDepth 100000 in
set_option maxHeartbeats 1000000 in
theorem c_spec_l03Nodes (v : Value) (bs : List (List Int)) (w : World) (h : Rd (RS (RS RI)) w [v] bs) :
    Calls Tryz.prog 98 #[v] w (RetS w (.int .i64 (nodesB bs))) := by
  obtain ⟨oa, cap, L⟩ := h.lists
  obtain rfl := L.val
  have m1 := L.le; have m2 := L.capLe
  have HL := Lib.hid L
  clear L h
  go_enter Tryz.func98, Tryz.ntmps98
  go_wp2_with fail
  go_loop [3, 4] (fun s i => ∃ (k : Nat), k ≤ bs.length ∧ i = .int .i64 k ∧ s = .int .i64 (nodesB (bs.take k))) (fun _ i => bs.length - (intOf i).toNat)
  case atStart => exact ⟨0, Nat.zero_le _, rfl, rfl⟩
  case round =>
    obtain ⟨k, hk, rfl, rfl⟩ := hrel
    by_cases hlt : k < bs.length
    · obtain ⟨b, off, rfl, hb, hc⟩ := HL.out.get hlt
      obtain ⟨oi, ci, g1, hrd, q1, q2⟩ := hc k hlt
      have hnx := nodesB_take_succ bs k hlt
      obtain ⟨x, hx⟩ : ∃ x, x = bs[k].length := ⟨_, rfl⟩
      obtain ⟨s, hs⟩ : ∃ s, s = nodesB (bs.take k) := ⟨_, rfl⟩
      rw [← hx] at g1 q1 hnx
      rw [← hs] at hnx
      rw [← hs]
      have hw : IntKind.i64.wrap (s + (x : Int)) = wrap64 (s + x) := IntWalk.i64_left _
      obtain ⟨g, hg⟩ : ∃ g, g = wrap64 (s + x) := ⟨_, rfl⟩
      rw [← hg] at hw hnx
      have HN := Lib.hid hnx
      clear hc hrd hx hs hg hnx
      go_wp2_with fail
      go_round
      case rel => exact ⟨k + 1, by omega, by go_num, by rw [HN.out]⟩
      case measure => simp [intOf]; omega
    · have hfin : bs.take k = bs := List.take_of_length_le (by omega)
      have HF := Lib.hid hfin
      clear hfin
      go_wp2_with fail
      go_ret
      exact ⟨by simp [HF.out], rfl⟩
end Go.Proofs.YtacbkjmkjpjhoaaGreat
