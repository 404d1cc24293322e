/- Lists put behind each other: append of a list to an owned one, slices.Grow, slices.Concat. -/
import Derived.Test.YtdjkmjifeekimaaII
import Derived.Lib.AppendZeros
set_option linter.unusedSimpArgs false
set_option linter.unusedVariables false
namespace Go.Proofs.Ytdjkmjifeekimaa
open Go.RowKit

section
variable {P : Program} {w : World}

theorem ext_core (t ty e : TypeId) (T : ST P t e (.int .i64 0) 1 8) (v : Value) (xs : List Int) (lo M : Nat) (hv : Own (RS RI) lo M w [v] xs) (vx : Value) (ys : List Int) (hy : Rd (RS RI) w [vx] ys)
    (hM : M ≤ w.heap.size) (hlo : lo ≤ M) (hlen : xs.length + ys.length ≤ 1000000000) :
    ∃ v' w', (Builtin.append_ #[t, t] ty #[v, vx]).run P w = .ok v' w' ∧ Own (RS RI) lo w'.heap.size w' [v'] (xs ++ ys) ∧ Below lo w w' := by
  obtain ⟨og, ds, F, hrow, hel, hF, hlt⟩ := hv.open
  obtain ⟨rfl, rfl, hb⟩ := ownL_ints hel
  obtain ⟨oa, cap, I⟩ := hy.ints
  obtain rfl := I.val
  have hm := I.capLe
  obtain ⟨v', w', og', hr, happ⟩ := run_append_row (P := P) (w := w) t ty e (.int .i64 0) 1 8 T v xs.length _ og hrow oa ys.length cap (ys.map (Value.int .i64)) (by simp) (fun h => by have := I.noneCap h; have := I.le; omega) (Row.cells_ints I)
    (by intro u hu; obtain ⟨x, _, rfl⟩ := List.mem_map.1 hu; rfl) (by omega) (by unfold maxLen; omega)
  have hlow := happ.low (B := lo) (by omega) (fun g hg => (hlt g (by simp [hg])).1)
  refine ⟨v', w', hr, Row.OwnI (og := og') ?_ ?_ hlow.1, hlow.2⟩
  · have := happ.1
    rw [← List.map_append, ← List.length_append] at this
    exact this
  · intro x hx
    rcases List.mem_append.1 hx with hx | hx
    · exact hb x hx
    · exact I.bd x hx

/-- append(s, x...) of numbers: s is owned, x is read. -/
theorem wpList_extI {ops : Array Oper} {rest : List Oper} {o : Oper} {a : Act} {Q : Exit → Act → World → Prop} (hgd : o.guard = none) (s x : Operand) (t : TypeId)
    (ho : o.op = .call { callee := .builtin .append, args := #[s, x], argTypes := #[t, t] }) (e : TypeId) (T : ST P t e (.int .i64 0) 1 8)
    (v : Value) (xs : List Int) (lo M : Nat) (hs : a.eval s = v) (hv : Own (RS RI) lo M w [v] xs) (vx : Value) (ys : List Int) (hx : a.eval x = vx) (hy : Rd (RS RI) w [vx] ys)
    (hM : M ≤ w.heap.size) (hlo : lo ≤ M) (hlen : xs.length + ys.length ≤ 1000000000)
    (h : ∀ oa cap w', Own (RS RI) lo w'.heap.size w' [.slice oa (xs ++ ys).length cap] (xs ++ ys) → (xs ++ ys).length ≤ cap → cap ≤ 9223372036854775807 → Below lo w w' → wpList P ops Q rest (a.put o.dst (.slice oa (xs ++ ys).length cap)) w') :
    wpList P ops Q (o :: rest) a w :=
  wpList_plain hgd fun _ hK => by
    obtain ⟨v', w', hr, hown, hb⟩ := ext_core (P := P) t o.type e T v xs lo M hv vx ys hy hM hlo hlen
    obtain ⟨oa, cap, rfl, h1, h2⟩ := hown.val
    unfold Oper.wp execOp
    simp only [ho, resolve, invoke, builtin, Sem.run_bind, Sem.run_pure, Result.andThen_ok, List.map_toArray, List.map_cons, List.map_nil, hs, hx, hr]
    exact hK _ _ (h oa cap w' hown h1 h2 hb)

/-- .. as a step of a region that draws its order. -/
theorem step_extI {ops : Array Oper} {o : Oper} {a : Act} {K : Act → World → Prop} {Q : Exit → Act → World → Prop} {E : Prop} (hgd : o.guard = none) (s x : Operand) (t : TypeId)
    (ho : o.op = .call { callee := .builtin .append, args := #[s, x], argTypes := #[t, t] }) (e : TypeId) (T : ST P t e (.int .i64 0) 1 8)
    (v : Value) (xs : List Int) (lo M : Nat) (hs : a.eval s = v) (hv : Own (RS RI) lo M w [v] xs) (vx : Value) (ys : List Int) (hx : a.eval x = vx) (hy : Rd (RS RI) w [vx] ys)
    (hM : M ≤ w.heap.size) (hlo : lo ≤ M) (hlen : xs.length + ys.length ≤ 1000000000) (zs : List Int) (hzs : xs ++ ys = zs)
    (h : ∀ oa cap w', Own (RS RI) lo w'.heap.size w' [.slice oa zs.length cap] zs → zs.length ≤ cap → cap ≤ 9223372036854775807 → Below lo w w' → K (a.put o.dst (.slice oa zs.length cap)) w') :
    if Region.wanted o (yielded ops a.tmps) = true then Oper.wp P o a w K Q else E := by
  have hw : Region.wanted o (yielded ops a.tmps) = true := by simp [Region.wanted, hgd]
  rw [if_pos hw]
  subst hzs
  obtain ⟨v', w', hr, hown, hb⟩ := ext_core (P := P) t o.type e T v xs lo M hv vx ys hy hM hlo hlen
  obtain ⟨oa, cap, rfl, h1, h2⟩ := hown.val
  unfold Oper.wp execOp
  simp only [ho, resolve, invoke, builtin, Sem.run_bind, Sem.run_pure, Result.andThen_ok, List.map_toArray, List.map_cons, List.map_nil, hs, hx, hr]
  exact h oa cap w' hown h1 h2 hb
end

/-- append(s, x) of one owned element as a step of a region that draws its order. -/
theorem step_snoc {α : Type} {R : Rep α} {P : Program} {w : World} {ops : Array Oper} {o : Oper} {a : Act} {K : Act → World → Prop} {Q : Exit → Act → World → Prop} {E0 : Prop} (hgd : o.guard = none) (s x : Operand) (t : TypeId)
    (ho : o.op = .call { callee := .builtin .append, args := #[s, x], argTypes := #[t, t] })
    (e : TypeId) (z : Value) (k bytes : Nat) (T : ST P t e z k bytes) (hk : R.k = k)
    (v : Value) (xs : List α) (y : α) (c : List Value) (lo M hi : Nat) (hs : a.eval s = v) (hv : Own (RS R) lo M w [v] xs) (hy : Own R M hi w c y) (hM : M ≤ w.heap.size) (hlo : lo ≤ M) (E : TypeId)
    {H : Nat} (hx : a.eval x = .slice (some ⟨H, 0, none⟩) 1 1) (hH : H = w.heap.size)
    (hbytes : (xs.length + 1) * bytes ≤ 140737488355328) (h63 : xs.length + 1 ≤ 140737488355328) {W : World} (hW : Same W (w.alloc (.cells c.toArray E)))
    (h : ∀ oa cap w', Own (RS R) lo w'.heap.size w' [.slice oa (xs.length + 1) cap] (xs ++ [y]) → xs.length + 1 ≤ cap → cap ≤ 9223372036854775807 → Below lo w w' → K (a.put o.dst (.slice oa (xs.length + 1) cap)) w') :
    if Region.wanted o (yielded ops a.tmps) = true then Oper.wp P o a W K Q else E0 := by
  subst hk
  obtain ⟨og, ds, F, hrow, hel, hF, hlt⟩ := hv.open
  obtain ⟨G, hG, hGn, hGlt⟩ := hy
  refine step_append1 hgd s x t ho e z R.k bytes T v xs.length ds og hs hrow E c hx hH (R.rd_len (R.own_rd hG)) (R.rd_one (R.own_rd hG)) hbytes (by unfold maxLen; omega) hW ?_
  intro v' w' og' happ
  have hown := Own.snoc hrow hel hF hlt hG hGn hGlt hM hlo happ
  obtain ⟨oa, cap, rfl, h1, h2⟩ := hown.val
  rw [List.length_append, List.length_singleton] at *
  exact h oa cap w' hown h1 h2 (Below.of_grown happ.2.1 (by omega) (fun g hg => (hlt g (by simp [hg])).1))

/-- A part of a list that is read. -/
theorem Rd.part {w : World} {oa : Option Addr} {cap : Nat} {xs : List Int} (h : Rd (RS RI) w [.slice oa xs.length cap] xs) (i j : Nat) (hij : i ≤ j) (hj : j ≤ xs.length) (c' : Nat) (hc : j - i ≤ c') (hcm : c' ≤ maxLen) (hn : oa = none → c' = 0) :
    Rd (RS RI) w [.slice (oa.map fun a => a.add i) (j - i) c'] ((xs.take j).drop i) := by
  obtain ⟨oa', cap', I⟩ := h.ints
  have hv := I.val
  simp only [Value.slice.injEq, true_and] at hv
  obtain ⟨rfl, rfl⟩ := hv
  have hl : ((xs.take j).drop i).length = j - i := by simp; omega
  refine ⟨oa.map fun a => a.add i, c', ((xs.take j).drop i).map (Value.int .i64), by rw [hl], by rw [hl]; exact hc, hcm, ?_, rdL_ints_mk (fun x hx => I.bd x (List.mem_of_mem_take (List.mem_of_mem_drop hx))), ?_⟩
  · intro h0
    cases oa with
    | none => exact hn rfl
    | some a => simp at h0
  · rcases I.row with h0 | ⟨b, off, rfl, hb, hc⟩
    · left; subst h0; simp
    · refine .inr ⟨b, off + i, by simp [Addr.add], hb, fun q u hq => ?_⟩
      rw [List.getElem?_map, Option.map_eq_some_iff] at hq
      obtain ⟨y, hy, rfl⟩ := hq
      have hql := (List.getElem?_eq_some_iff.1 hy).1
      rw [hl] at hql
      have e : y = xs[i + q]'(by omega) := by
        have := (List.getElem?_eq_some_iff.1 hy).2
        rw [← this]; simp
      rw [e, Nat.add_assoc]
      exact hc (i + q) (by omega)


theorem flatten_take_succ (bs : List (List Int)) (k : Nat) (h : k < bs.length) : (bs.take (k + 1)).flatten = (bs.take k).flatten ++ bs[k] := by
  rw [List.take_succ_eq_append_getElem h, List.flatten_append]; simp

theorem flatten_len (bs : List (List Int)) : bs.flatten.length = sumLen bs := by simp [sumLen, List.length_flatten]

end Go.Proofs.Ytdjkmjifeekimaa
