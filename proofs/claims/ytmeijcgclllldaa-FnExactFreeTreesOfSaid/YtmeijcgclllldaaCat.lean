/- Lists put behind each other: append of a list to an owned one, slices.Grow, slices.Concat. -/
import Derived.Test.YtmeijcgclllldaaII
import Derived.Lib.AppendZeros
namespace Go.Proofs.Ytmeijcgclllldaa
open Go.RowKit

section
variable {P : Program} {w : World}

theorem ext_core (t ty e : TypeId) (T : ST P t e (.int .i64 0) 1 8) (v : Value) (xs : List Int) (lo M : Nat) (hv : Own (RS RI) lo M w [v] xs) (vx : Value) (ys : List Int) (hy : Rd (RS RI) w [vx] ys)
    (hM : M ≤ w.heap.size) (hlo : lo ≤ M) (hlen : xs.length + ys.length ≤ 1000000000) :
    ∃ v' w', (Builtin.append_ #[t, t] ty #[v, vx]).run P w = .ok v' w' ∧ Own (RS RI) lo w'.heap.size w' [v'] (xs ++ ys) ∧ Below lo w w' := by
  obtain ⟨og, ds, F, hrow, hel, hF, hlt⟩ := hv.open
  obtain ⟨rfl, rfl, hb⟩ := ownL_ints hel
  obtain ⟨oa, cap, I⟩ := hy.ints
  obtain rfl := I.val
  have hm := I.capLe
  obtain ⟨v', w', og', hr, happ⟩ := run_append_row (P := P) (w := w) t ty e (.int .i64 0) 1 8 T v xs.length _ og hrow oa ys.length cap (ys.map (Value.int .i64)) (by simp) (fun h => by have := I.noneCap h; have := I.le; omega) (Row.cells_ints I)
    (by intro u hu; obtain ⟨x, _, rfl⟩ := List.mem_map.1 hu; rfl) (by omega) (by unfold maxLen; omega)
  have hlow := happ.low (B := lo) (by omega) (fun g hg => (hlt g (by simp [hg])).1)
  refine ⟨v', w', hr, Row.OwnI (og := og') ?_ ?_ hlow.1, hlow.2⟩
  · have := happ.1
    rw [← List.map_append, ← List.length_append] at this
    exact this
  · intro x hx
    rcases List.mem_append.1 hx with hx | hx
    · exact hb x hx
    · exact I.bd x hx

/-- append(s, x...) of numbers: s is owned, x is read. -/
theorem wpList_extI {ops : Array Oper} {rest : List Oper} {o : Oper} {a : Act} {Q : Exit → Act → World → Prop} (hgd : o.guard = none) (s x : Operand) (t : TypeId)
    (ho : o.op = .call { callee := .builtin .append, args := #[s, x], argTypes := #[t, t] }) (e : TypeId) (T : ST P t e (.int .i64 0) 1 8)
    (v : Value) (xs : List Int) (lo M : Nat) (hs : a.eval s = v) (hv : Own (RS RI) lo M w [v] xs) (vx : Value) (ys : List Int) (hx : a.eval x = vx) (hy : Rd (RS RI) w [vx] ys)
    (hM : M ≤ w.heap.size) (hlo : lo ≤ M) (hlen : xs.length + ys.length ≤ 1000000000)
    (h : ∀ oa cap w', Own (RS RI) lo w'.heap.size w' [.slice oa (xs ++ ys).length cap] (xs ++ ys) → (xs ++ ys).length ≤ cap → cap ≤ 9223372036854775807 → Below lo w w' → wpList P ops Q rest (a.put o.dst (.slice oa (xs ++ ys).length cap)) w') :
    wpList P ops Q (o :: rest) a w :=
  wpList_plain hgd fun _ hK => by
    obtain ⟨v', w', hr, hown, hb⟩ := ext_core (P := P) t o.type e T v xs lo M hv vx ys hy hM hlo hlen
    obtain ⟨oa, cap, rfl, h1, h2⟩ := hown.val
    unfold Oper.wp execOp
    simp only [ho, resolve, invoke, builtin, Sem.run_bind, Sem.run_pure, Result.andThen_ok, List.map_toArray, List.map_cons, List.map_nil, hs, hx, hr]
    exact hK _ _ (h oa cap w' hown h1 h2 hb)

/-- .. as a step of a region that draws its order. -/
theorem step_extI {ops : Array Oper} {o : Oper} {a : Act} {K : Act → World → Prop} {Q : Exit → Act → World → Prop} {E : Prop} (hgd : o.guard = none) (s x : Operand) (t : TypeId)
    (ho : o.op = .call { callee := .builtin .append, args := #[s, x], argTypes := #[t, t] }) (e : TypeId) (T : ST P t e (.int .i64 0) 1 8)
    (v : Value) (xs : List Int) (lo M : Nat) (hs : a.eval s = v) (hv : Own (RS RI) lo M w [v] xs) (vx : Value) (ys : List Int) (hx : a.eval x = vx) (hy : Rd (RS RI) w [vx] ys)
    (hM : M ≤ w.heap.size) (hlo : lo ≤ M) (hlen : xs.length + ys.length ≤ 1000000000) (zs : List Int) (hzs : xs ++ ys = zs)
    (h : ∀ oa cap w', Own (RS RI) lo w'.heap.size w' [.slice oa zs.length cap] zs → zs.length ≤ cap → cap ≤ 9223372036854775807 → Below lo w w' → K (a.put o.dst (.slice oa zs.length cap)) w') :
    if Region.wanted o (yielded ops a.tmps) = true then Oper.wp P o a w K Q else E := by
  have hw : Region.wanted o (yielded ops a.tmps) = true := by simp [Region.wanted, hgd]
  rw [if_pos hw]
  subst hzs
  obtain ⟨v', w', hr, hown, hb⟩ := ext_core (P := P) t o.type e T v xs lo M hv vx ys hy hM hlo hlen
  obtain ⟨oa, cap, rfl, h1, h2⟩ := hown.val
  unfold Oper.wp execOp
  simp only [ho, resolve, invoke, builtin, Sem.run_bind, Sem.run_pure, Result.andThen_ok, List.map_toArray, List.map_cons, List.map_nil, hs, hx, hr]
  exact h oa cap w' hown h1 h2 hb
end

/-- append(s, x) of one owned element as a step of a region that draws its order. -/
theorem step_snoc {α : Type} {R : Rep α} {P : Program} {w : World} {ops : Array Oper} {o : Oper} {a : Act} {K : Act → World → Prop} {Q : Exit → Act → World → Prop} {E0 : Prop} (hgd : o.guard = none) (s x : Operand) (t : TypeId)
    (ho : o.op = .call { callee := .builtin .append, args := #[s, x], argTypes := #[t, t] })
    (e : TypeId) (z : Value) (k bytes : Nat) (T : ST P t e z k bytes) (hk : R.k = k)
    (v : Value) (xs : List α) (y : α) (c : List Value) (lo M hi : Nat) (hs : a.eval s = v) (hv : Own (RS R) lo M w [v] xs) (hy : Own R M hi w c y) (hM : M ≤ w.heap.size) (hlo : lo ≤ M) (E : TypeId)
    {H : Nat} (hx : a.eval x = .slice (some ⟨H, 0, none⟩) 1 1) (hH : H = w.heap.size)
    (hbytes : (xs.length + 1) * bytes ≤ 140737488355328) (h63 : xs.length + 1 ≤ 140737488355328) {W : World} (hW : Same W (w.alloc (.cells c.toArray E)))
    (h : ∀ oa cap w', Own (RS R) lo w'.heap.size w' [.slice oa (xs.length + 1) cap] (xs ++ [y]) → xs.length + 1 ≤ cap → cap ≤ 9223372036854775807 → Below lo w w' → K (a.put o.dst (.slice oa (xs.length + 1) cap)) w') :
    if Region.wanted o (yielded ops a.tmps) = true then Oper.wp P o a W K Q else E0 := by
  subst hk
  obtain ⟨og, ds, F, hrow, hel, hF, hlt⟩ := hv.open
  obtain ⟨G, hG, hGn, hGlt⟩ := hy
  refine step_append1 hgd s x t ho e z R.k bytes T v xs.length ds og hs hrow E c hx hH (R.rd_len (R.own_rd hG)) (R.rd_one (R.own_rd hG)) hbytes (by unfold maxLen; omega) hW ?_
  intro v' w' og' happ
  have hown := Own.snoc hrow hel hF hlt hG hGn hGlt hM hlo happ
  obtain ⟨oa, cap, rfl, h1, h2⟩ := hown.val
  rw [List.length_append, List.length_singleton] at *
  exact h oa cap w' hown h1 h2 (Below.of_grown happ.2.1 (by omega) (fun g hg => (hlt g (by simp [hg])).1))

/-- A part of a list that is read. -/
theorem Rd.part {w : World} {oa : Option Addr} {cap : Nat} {xs : List Int} (h : Rd (RS RI) w [.slice oa xs.length cap] xs) (i j : Nat) (hij : i ≤ j) (hj : j ≤ xs.length) (c' : Nat) (hc : j - i ≤ c') (hcm : c' ≤ maxLen) (hn : oa = none → c' = 0) :
    Rd (RS RI) w [.slice (oa.map fun a => a.add i) (j - i) c'] ((xs.take j).drop i) := by
  obtain ⟨oa', cap', I⟩ := h.ints
  have hv := I.val
  simp only [Value.slice.injEq, true_and] at hv
  obtain ⟨rfl, rfl⟩ := hv
  have hl : ((xs.take j).drop i).length = j - i := by simp; omega
  refine ⟨oa.map fun a => a.add i, c', ((xs.take j).drop i).map (Value.int .i64), by rw [hl], by rw [hl]; exact hc, hcm, ?_, rdL_ints_mk (fun x hx => I.bd x (List.mem_of_mem_take (List.mem_of_mem_drop hx))), ?_⟩
  · intro h0
    cases oa with
    | none => exact hn rfl
    | some a => simp at h0
  · rcases I.row with h0 | ⟨b, off, rfl, hb, hc⟩
    · left; subst h0; simp
    · refine .inr ⟨b, off + i, by simp [Addr.add], hb, fun q u hq => ?_⟩
      rw [List.getElem?_map, Option.map_eq_some_iff] at hq
      obtain ⟨y, hy, rfl⟩ := hq
      have hql := (List.getElem?_eq_some_iff.1 hy).1
      rw [hl] at hql
      have e : y = xs[i + q]'(by omega) := by
        have := (List.getElem?_eq_some_iff.1 hy).2
        rw [← this]; simp
      rw [e, Nat.add_assoc]
      exact hc (i + q) (by omega)

set_option maxRecDepth 100000 in
set_option maxHeartbeats 400000 in
theorem c_slicesGrow (n : Nat) (w : World) (hn : n ≤ 1000000000) : Calls Try.prog 114 #[.slice none 0 0, .int .i64 n] w (RetO (RS RI) w []) := by
  by_cases h0 : n = 0
  · subst h0
    go_enter Try.func114, Try.ntmps114
    go_wp2_with fail
    go_ret
    exact ⟨_, rfl, Own.nil _ _, Below.refl _ _⟩
  · obtain ⟨ht, ⟨i, hi, hz, hsz, hby⟩, _, _⟩ := tI64
    have hr := Lib.run_append_nil_zeros (P := Try.prog) w 22 3 22 2 i (.int .i64 0) .i64 .i64 ht Try.underlying3 hi hz n (by omega) (by omega) (by omega) (by rw [hby]; omega)
    have hge := grownCap_ge w n 0 2
    have hcm : grownCap w n 0 2 ≤ maxLen := grownCap_le_maxLen w n 0 2 (by unfold maxLen; omega)
    obtain ⟨cp, hcp⟩ : ∃ cp, cp = grownCap w n 0 2 := ⟨_, rfl⟩
    rw [← hcp] at hr hge hcm
    obtain ⟨cur, hcur⟩ : ∃ cur, cur = Builtin.zeroCells (Value.int .i64 0).cells n ++ Builtin.zeroCells (Value.int .i64 0).cells (cp - n) := ⟨_, rfl⟩
    have hcs : cur.size = cp * 1 := by
      rw [hcur, Array.size_append, size_zeroCells, size_zeroCells]
      show n * 1 + (cp - n) * 1 = cp * 1
      omega
    rw [← hcur] at hr
    have hrow : Row (w.drew.alloc (.cells cur 2)) (.slice (some ⟨w.heap.size, 0, none⟩) 0 cp) 1 0 [] (some w.heap.size) :=
      ⟨rfl, .inr ⟨w.heap.size, cp, cur, 2, rfl, rfl, Go.heap_alloc_new w.drew _, Nat.zero_le _, hcm, hcs, by simp⟩⟩
    have hown : Own (RS RI) w.heap.size (w.drew.alloc (.cells cur 2)).heap.size (w.drew.alloc (.cells cur 2)) [.slice (some ⟨w.heap.size, 0, none⟩) 0 cp] [] :=
      Row.OwnI (og := some w.heap.size) hrow (by simp) (fun g hg => by cases hg; exact Nat.le_refl _)
    have hbel : Below w.heap.size w (w.drew.alloc (.cells cur 2)) := ⟨rfl, rfl, rfl, by simp, fun k hk => Below.heap_alloc w.drew _ k hk⟩
    have HR := Lib.hid hr
    have HO := Lib.hid hown
    have hp : (0 : Int) < (n : Int) := by omega
    have hp2 : ¬ ((n : Int) < 0) := by omega
    unfold maxLen at hcm
    clear hr hown hrow hcp hcur hi hz hsz hby ht hcs
    go_enter Try.func114, Try.ntmps114
    go_wp2_with (at_builtin; refine StopAt (o := ⟨some 22, _, _, _, _, _⟩) ?_)
    refine Stop.go ?_
    refine Lib.wpList_append_run w rfl _ _ _ _ rfl _ _ rfl rfl _ _ HR.out ?_
    go_wp2_with fail
    go_ret
    exact ⟨_, rfl, HO.out, hbel⟩

theorem flatten_take_succ (bs : List (List Int)) (k : Nat) (h : k < bs.length) : (bs.take (k + 1)).flatten = (bs.take k).flatten ++ bs[k] := by
  rw [List.take_succ_eq_append_getElem h, List.flatten_append]; simp

theorem flatten_len (bs : List (List Int)) : bs.flatten.length = sumLen bs := by simp [sumLen, List.length_flatten]

set_option maxRecDepth 100000 in
set_option maxHeartbeats 1000000 in
theorem c_slicesConcat (v : Value) (bs : List (List Int)) (w : World) (h : Rd (RS (RS RI)) w [v] bs) (hsz : sumLen bs ≤ 1000000000) :
    Calls Try.prog 91 #[v] w (RetO (RS RI) w bs.flatten) := by
  obtain ⟨oa, cap, L⟩ := h.lists
  obtain rfl := L.val
  have m1 := L.le; have m2 := L.capLe
  have HL := Lib.hid L
  clear L h
  go_enter Try.func91, Try.ntmps91
  go_wp2_with fail
  go_loop [3, 11] (fun s i => ∃ (k : Nat), k ≤ bs.length ∧ i = .int .i64 k ∧ s = .int .i64 (sumLen (bs.take k) : Nat)) (fun _ i => bs.length - (intOf i).toNat)
  case atStart => exact ⟨0, Nat.zero_le _, rfl, rfl⟩
  case round =>
    obtain ⟨k, hk, rfl, rfl⟩ := hrel
    by_cases hlt : k < bs.length
    · obtain ⟨b, off, rfl, hb, hc⟩ := HL.out.get hlt
      obtain ⟨oi, ci, g1, hrd, q1, q2⟩ := hc k hlt
      have hst := sumLen_take_succ bs k hlt
      have hle := sumLen_take bs (k + 1)
      obtain ⟨n, hn⟩ : ∃ n, n = sumLen (bs.take k) := ⟨_, rfl⟩
      obtain ⟨xl, hxl⟩ : ∃ xl, xl = bs[k].length := ⟨_, rfl⟩
      rw [← hn, ← hxl] at hst
      rw [← hxl] at g1 q1
      rw [← hn]
      have i3 : ¬ ((n : Int) + (xl : Int) < 0) := by omega
      have HST := Lib.hid hst
      have HNB : Hid (n + xl ≤ 1000000000) := Lib.hid (by omega)
      have hw : IntKind.i64.wrap ((n : Int) + (xl : Int)) = (n : Int) + xl := IntWalk.i64_in _ (by omega)
      clear hc hrd hn hxl hst hle
      go_wp2_with fail
      go_round
      case rel => exact ⟨k + 1, by omega, by go_num, by rw [HST.out]; congr 1⟩
      case measure => simp [intOf]; omega
    · have hf : bs.take k = bs := List.take_of_length_le (by omega)
      rw [hf]
      have hgr := c_slicesGrow (sumLen bs) w hsz
      clear hf
      go_wp2_with (go_at_call 114; refine hgr.mono ?_; rintro e w1 ⟨u, rfl, o1, b1⟩)
      go_loopw [6, 27] (fun o i wr => ∃ (k : Nat) (z : List Int), k ≤ bs.length ∧ i = .int .i64 k ∧ Hid (z = (bs.take k).flatten) ∧ (∃ oa cap, o = .slice oa z.length cap) ∧ Hid (Own (RS RI) w.heap.size wr.heap.size wr [o] z) ∧ Below w.heap.size w wr) (fun _ i _ => bs.length - (intOf i).toNat)
      case atStart =>
        obtain ⟨ou, cu, rfl, _⟩ := o1.val
        exact ⟨0, [], Nat.zero_le _, rfl, Lib.hid rfl, ⟨_, _, rfl⟩, Lib.hid o1, b1⟩
      case round =>
        clear hgr o1
        obtain ⟨k, z, hk, rfl, hz, ⟨o1, cap1, rfl⟩, hown, hbel⟩ := hrel
        have hsz1 := hbel.size
        by_cases hlt : k < bs.length
        · obtain ⟨b, off, rfl, hb, hc⟩ := HL.out.get hlt
          obtain ⟨oi, ci, g1, hrd, q1, q2⟩ := hc k hlt
          have g2 : wr.cell? ⟨b, off + k, none⟩ = some (.slice oi bs[k].length ci) := (hbel.cell (p := ⟨b, off + k, none⟩) hb).trans g1
          have hrd2 := hrd.below hbel (Nat.le_refl _)
          have hnx := flatten_take_succ bs k hlt
          rw [← hz.out] at hnx
          have hle : z.length + bs[k].length ≤ 1000000000 := by
            have := sumLen_take bs (k + 1)
            have := congrArg List.length hnx
            rw [flatten_len, List.length_append] at this
            omega
          obtain ⟨x, hx⟩ : ∃ x, x = bs[k] := ⟨_, rfl⟩
          rw [← hx] at g2 hrd2 q1 hnx hle
          have HN := Lib.hid hnx
          clear hc g1 hrd hx hnx
          go_wp2_with (at_builtin; refine StopAt (o := ⟨some 33, _, _, _, _, _⟩) ?_)
          refine Stop.go ?_
          refine wpList_extI rfl _ _ 22 rfl 2 tI64 (.slice o1 z.length cap1) z w.heap.size wr.heap.size rfl hown.out (.slice oi x.length ci) x rfl hrd2 (Nat.le_refl _) hsz1 hle ?_
          intro oa1 cap1' w1 hown1 c1a c1b hbel1
          have hb3 := hbel.trans hbel1
          obtain ⟨z', hz'⟩ : ∃ z', z' = z ++ x := ⟨_, rfl⟩
          have HZ : Hid (z' = (bs.take (k + 1)).flatten) := Lib.hid (by rw [hz', HN.out])
          rw [← hz'] at hown1 c1a
          have HO : Hid (Own (RS RI) w.heap.size w1.heap.size w1 [.slice oa1 z'.length cap1'] z') := hown1
          rw [← hz']
          clear hown1 hbel1 hown hz' hrd2
          go_wp2_with fail
          go_roundw
          case rel => exact ⟨k + 1, z', by omega, by go_num, HZ, ⟨_, _, rfl⟩, HO, hb3⟩
          case measure => simp [intOf]; omega
        · have hfin : Hid (z = bs.flatten) := Lib.hid (by rw [hz.out, List.take_of_length_le (by omega)])
          go_wp2_with fail
          go_ret
          exact ⟨_, rfl, hfin.out ▸ hown.out, hbel⟩
end Go.Proofs.Ytmeijcgclllldaa
