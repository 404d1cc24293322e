/- The laws of the walk on slices that are read or owned: append, make, store, indexing. -/
import Derived.Test.YtmeijcgclllldaaRep
namespace Go.Proofs.Ytmeijcgclllldaa
open Go.RowKit

/-- The type T is []E; E has k cells, is so many bytes wide, and has the zero value z. -/
structure ST (P : Program) (T E : TypeId) (z : Value) (k bytes : Nat) : Prop where
  ht : P.underlying T = some (.slice E)
  hi : ∃ i, P.info? E = some i ∧ i.zero = some z ∧ i.size = k ∧ i.bytes = bytes
  hz : z.cells.size = k
  hk : 0 < k

theorem ST.mk' {P : Program} {T E : TypeId} {z : Value} {k bytes : Nat} (h1 : P.underlying T = some (.slice E))
    (h2 : (P.info? E).map (fun i => (i.zero, i.size, i.bytes)) = some (some z, k, bytes)) (h3 : z.cells.size = k) (h4 : 0 < k) : ST P T E z k bytes :=
  ⟨h1, info_parts h2, h3, h4⟩

section
variable {P : Program} {w : World}

theorem Row.cells {v : Value} {k n : Nat} {ds : List Value} {g : Nat} (h : Row w v k n ds (some g)) : ∀ j u, ds[j]? = some u → w.cell? ⟨g, j, none⟩ = some u := by
  intro j u hu
  rcases h.2 with ⟨_, _, h0⟩ | ⟨g', cap, cur, e, _, h1, hh, _, _, _, ht⟩
  · cases h0
  · cases h1
    rw [cell_of_row w g j cur e (0, 0) hh]
    rw [← ht, List.getElem?_take] at hu
    split at hu
    · simpa using hu
    · cases hu

theorem Row.frozen {v : Value} {k n : Nat} {ds : List Value} {g : Nat} (h : Row w v k n ds (some g)) (j : Nat) : w.frozen? ⟨g, j, none⟩ = false := by
  rcases h.2 with ⟨_, _, h0⟩ | ⟨g', cap, cur, e, _, h1, hh, _⟩
  · cases h0
  · cases h1; exact frozen_of_row w g j cur e hh

theorem Row.nil (w : World) (k : Nat) : Row w (.slice none 0 0) k 0 [] none := ⟨by simp, .inl ⟨rfl, rfl, rfl⟩⟩

/-- A literal's row. -/
theorem Row.lit (w : World) (cs : Array Value) (e : TypeId) (k n : Nat) (hm : n ≤ maxLen) (hs : cs.size = n * k) :
    Row (w.alloc (.cells cs e)) (.slice (some ⟨w.heap.size, 0, none⟩) n n) k n cs.toList (some w.heap.size) :=
  ⟨by simpa using hs, .inr ⟨w.heap.size, n, cs, e, rfl, rfl, Go.heap_alloc_new w _, Nat.le_refl _, hm, hs, List.take_of_length_le (by rw [Array.length_toList, hs]; exact Nat.le_refl _)⟩⟩

theorem Row.kept {w' : World} {row : Option Nat} {v : Value} {k n : Nat} {ds : List Value} {og : Option Nat} (h : Row w v k n ds og) (hg : w.grownBy w' row) (hne : og = none ∨ og ≠ row) : Row w' v k n ds og := by
  refine h.frame fun g hgg => hg.block g (h.lt g hgg) ?_
  subst hgg
  rcases hne with h | h
  · cases h
  · exact h

theorem Row.alloc {v : Value} {k n : Nat} {ds : List Value} {og : Option Nat} (h : Row w v k n ds og) (o : Obj) : Row (w.alloc o) v k n ds og :=
  h.frame fun g hg => Below.heap_alloc w o g (h.lt g hg)

theorem Row.value {v : Value} {k n : Nat} {ds : List Value} {og : Option Nat} (h : Row w v k n ds og) : ∃ oa cap, v = .slice oa n cap ∧ n ≤ cap ∧ cap ≤ maxLen ∧ (oa = none → cap = 0) ∧ oa = og.map fun g => ⟨g, 0, none⟩ := by
  rcases h.2 with ⟨rfl, rfl, rfl⟩ | ⟨g', cap, cur, e, rfl, rfl, hh, h1, h2, _⟩
  · exact ⟨none, 0, rfl, Nat.le_refl _, by decide, fun _ => rfl, rfl⟩
  · exact ⟨_, cap, rfl, h1, h2, by simp, rfl⟩

theorem Row.val {v : Value} {k n : Nat} {ds : List Value} {og : Option Nat} (h : Row w v k n ds og) : ∃ oa cap, v = .slice oa n cap ∧ n ≤ cap ∧ cap ≤ maxLen := by
  obtain ⟨oa, cap, h1, h2, h3, _⟩ := h.value
  exact ⟨oa, cap, h1, h2, h3⟩

theorem Row.len0 {w : World} {v : Value} {k n : Nat} {ds : List Value} (h : Row w v k n ds none) : n = 0 := by
  rcases h.2 with ⟨_, h, _⟩ | ⟨_, _, _, _, _, h, _⟩
  · exact h
  · cases h

theorem Row.some_of {w : World} {v : Value} {k n : Nat} {ds : List Value} {og : Option Nat} (h : Row w v k n ds og) {j : Nat} (hj : j < n) : ∃ g, og = some g := by
  cases og with
  | none => have := h.len0; omega
  | some g => exact ⟨g, rfl⟩

theorem Row.slice {w : World} {v : Value} {k n : Nat} {ds : List Value} {g : Nat} (h : Row w v k n ds (some g)) : ∃ cap, v = .slice (some ⟨g, 0, none⟩) n cap ∧ n ≤ cap ∧ cap ≤ maxLen := by
  rcases h.2 with ⟨_, _, h0⟩ | ⟨g', cap, _, _, e, h0, _, h1, h2, _⟩
  · cases h0
  · cases h0; exact ⟨cap, e, h1, h2⟩

/-- A store into an owned row. -/
theorem Row.store {v : Value} {k n : Nat} {ds : List Value} {g : Nat} (h : Row w v k n ds (some g)) (j : Nat) (u : Value) :
    Row (w.setCell ⟨g, j, none⟩ u) v k n (ds.set j u) (some g) ∧ w.grownBy (w.setCell ⟨g, j, none⟩ u) (some g) := by
  rcases h.2 with ⟨_, _, h0⟩ | ⟨g', cap, cur, e, hv, h1, hg, hnc, hcm, hcs, htake⟩
  · cases h0
  · cases h1
    refine ⟨⟨by simpa using h.1, .inr ⟨g, cap, cur.setIfInBounds j u, e, hv, rfl, heap_setCell_same w g j cur e u hg, hnc, hcm, by simpa using hcs, ?_⟩⟩,
      ⟨rfl, rfl, rfl, by simp, fun k _ hk => heap_setCell_other w ⟨g, j, none⟩ k u (fun e => hk (by simp [e]))⟩⟩
    rw [Array.toList_setIfInBounds, ← htake, List.take_set]

/-- What an append to an owned row leaves. -/
def Appended (w w' : World) (v' : Value) (k n : Nat) (ds : List Value) (og og' : Option Nat) : Prop :=
  Row w' v' k n ds og' ∧ w.grownBy w' og ∧ (og' = og ∨ ∃ g, og' = some g ∧ w.heap.size ≤ g)

theorem run_append_row (t ty e : TypeId) (z : Value) (k bytes : Nat) (T : ST P t e z k bytes)
    (v : Value) (n : Nat) (ds : List Value) (og : Option Nat) (hown : Row w v k n ds og)
    (ao : Option Addr) (m c : Nat) (news : List Value) (hl : news.length = m * k) (hnone : ao = none → m = 0) (hnews : ∀ a, ao = some a → ∀ j u, news[j]? = some u → w.cell? (a.add j) = some u) (h1 : ∀ u ∈ news, u.oneCell' = true)
    (hbytes : (n + m) * bytes ≤ 140737488355328) (h63 : n + m ≤ maxLen) :
    ∃ v' w' og', (Builtin.append_ #[t, t] ty #[v, .slice ao m c]).run P w = .ok v' w' ∧ Appended w w' v' k (n + m) (ds ++ news) og og' := by
  obtain ⟨ht, ⟨i, hi, hz, rfl, rfl⟩, hzs, hsz⟩ := T
  have hsmall : n + m ≤ 9223372036854775807 := by simp only [maxLen] at h63; omega
  have hlen : (ds ++ news).length = (n + m) * i.size := by rw [List.length_append, hown.1, hl, Nat.add_mul]
  have hnone0 : m = 0 → news = [] := fun h => List.eq_nil_of_length_eq_zero (by rw [hl, h, Nat.zero_mul])
  have grown : ∀ (old : Nat), old < n + m → ∀ (row : Option Nat),
      Appended w (w.drew.alloc (.cells (ds.toArray ++ news.toArray ++ Builtin.zeroCells z.cells (grownCap w (n + m) old e - (n + m))) e))
        (.slice (some ⟨w.heap.size, 0, none⟩) (n + m) (grownCap w (n + m) old e)) i.size (n + m) (ds ++ news) row (some w.heap.size) := by
    intro old ho row
    have hge := grownCap_ge w (n + m) old e
    have hcm : grownCap w (n + m) old e ≤ maxLen := grownCap_le_maxLen w (n + m) old e h63
    refine ⟨⟨hlen, .inr ⟨w.heap.size, _, _, e, rfl, rfl, Go.heap_alloc_new w.drew _, hge, hcm, ?_, ?_⟩⟩, ⟨rfl, rfl, rfl, by simp, fun k hk _ => Below.heap_alloc w.drew _ k hk⟩, .inr ⟨_, rfl, Nat.le_refl _⟩⟩
    · simp only [Array.size_append, List.size_toArray, size_zeroCells, hzs, hown.1, hl, ← Nat.add_mul]
      congr 1
      omega
    · simp only [Array.toList_append, List.append_assoc]
      rw [← List.append_assoc, ← hlen]
      exact List.take_left
  cases ao with
  | none =>
    have hm := hnone rfl
    have hn0 := hnone0 hm
    subst hm; subst hn0
    refine ⟨v, w, og, ?_, by simpa using ⟨hown, ⟨rfl, rfl, rfl, Nat.le_refl _, fun _ _ _ => rfl⟩, .inl rfl⟩⟩
    rcases hown.2 with ⟨rfl, rfl, rfl⟩ | ⟨g, cap, cur, e', rfl, rfl, _, hnc, _⟩
    · simp [Builtin.append_, run_underlying ht, sizeOf, typeInfo, hi, Builtin.lenOf, Builtin.firstCells]
    · simp [Builtin.append_, run_underlying ht, sizeOf, typeInfo, hi, Builtin.lenOf, Builtin.firstCells, hnc, storeCells]
  | some a =>
    have hnews := hnews a rfl
    rcases hown.2 with ⟨rfl, rfl, rfl⟩ | ⟨g, cap, cur, e', rfl, rfl, hg, hnc, hcm, hcs, htake⟩
    · have hx : ds = [] := List.eq_nil_of_length_eq_zero (by simpa using hown.1)
      subst hx
      by_cases hm : m = 0
      · have hn := hnone0 hm
        subst hm; subst hn
        refine ⟨.slice none 0 0, w, none, ?_, by simpa using ⟨hown, ⟨rfl, rfl, rfl, Nat.le_refl _, fun _ _ _ => rfl⟩, .inl rfl⟩⟩
        simp [Builtin.append_, run_underlying ht, sizeOf, typeInfo, hi, Builtin.lenOf, Builtin.firstCells, loadCells, loadCellsFrom]
      · have hr := run_append_nil (P := P) w t ty e i z ht hi hz a m c news hl hnews (by omega) (by omega) (by have hb := hbytes; simp only [Nat.zero_add] at hb; omega)
        have hgr := grown 0 (by omega) none
        simp only [Nat.zero_add, List.nil_append, Array.empty_append] at hgr ⊢
        exact ⟨_, _, _, hr, hgr⟩
    · by_cases hroom : n + m ≤ cap
      · have hfit : n * i.size + news.length ≤ cur.size := by rw [hl, hcs, ← Nat.add_mul]; exact Nat.mul_le_mul_right _ hroom
        have hf := run_firstCells_some (P := P) w i.size m a m c news hl hnews
        have hst := run_storeCells_at P g (n * i.size) e' news 0 cur w hg (by simpa using hfit) h1
        simp only [Nat.add_zero] at hst
        refine ⟨.slice (some ⟨g, 0, none⟩) (n + m) cap, w.setRow g (cur.toList.take (n * i.size) ++ news ++ cur.toList.drop (n * i.size + news.length)).toArray, some g, ?_,
          ⟨hlen, .inr ⟨g, cap, _, e', rfl, rfl, setRow_heap w g cur _ e' _ hg, hroom, hcm, ?_, ?_⟩⟩, ⟨rfl, rfl, rfl, by simp, fun k _ hk => setRow_other w g k _ (fun e => hk (by simp [e]))⟩, .inl rfl⟩
        · simp [Builtin.append_, run_underlying ht, sizeOf, typeInfo, hi, Builtin.lenOf, hroom, hf, Addr.add_lit, hst]
        · simp only [List.size_toArray, List.length_append, List.length_take, List.length_drop, Array.length_toList]
          omega
        · rw [htake, ← hlen]
          exact List.take_left
      · have holds : ∀ j u, ds[j]? = some u → w.cell? ((⟨g, 0, none⟩ : Addr).add j) = some u := by
          intro j u hj
          rw [Addr.add_lit, Nat.zero_add]
          exact Row.cells (w := w) hown j u hj
        have hr := run_append_grow (P := P) w t ty e i z ht hi hz ⟨g, 0, none⟩ n cap ds hown.1 holds a m c news hl hnews (by omega) (by omega) (growslice_fits (by omega) hbytes)
        exact ⟨_, _, _, hr, grown cap (by omega) _⟩

/-- append(s, x...) where s is owned. -/
theorem wpList_appendS {ops : Array Oper} {rest : List Oper} {o : Oper} {a : Act} {Q : Exit → Act → World → Prop} (hgd : o.guard = none) (s x : Operand) (t : TypeId)
    (ho : o.op = .call { callee := .builtin .append, args := #[s, x], argTypes := #[t, t] })
    (e : TypeId) (z : Value) (k bytes : Nat) (T : ST P t e z k bytes)
    (v : Value) (n : Nat) (ds : List Value) (og : Option Nat) (hs : a.eval s = v) (hown : Row w v k n ds og)
    (ao : Option Addr) (m c : Nat) (news : List Value) (hx : a.eval x = .slice ao m c) (hl : news.length = m * k) (hnone : ao = none → m = 0) (hnews : ∀ a, ao = some a → ∀ j u, news[j]? = some u → w.cell? (a.add j) = some u) (h1 : ∀ u ∈ news, u.oneCell' = true)
    (hbytes : (n + m) * bytes ≤ 140737488355328) (h63 : n + m ≤ maxLen)
    (h : ∀ v' w' og', Appended w w' v' k (n + m) (ds ++ news) og og' → wpList P ops Q rest (a.put o.dst v') w') : wpList P ops Q (o :: rest) a w :=
  wpList_plain hgd fun _ hK => by
    obtain ⟨v', w', og', hr, h2⟩ := run_append_row (P := P) (w := w) t o.type e z k bytes T v n ds og hown ao m c news hl hnone hnews h1 hbytes h63
    unfold Oper.wp execOp
    simp only [ho, resolve, invoke, builtin, Sem.run_bind, Sem.run_pure, Result.andThen_ok, List.map_toArray, List.map_cons, List.map_nil, hs, hx, hr]
    exact hK _ _ (h v' w' og' h2)

theorem grownBy_trans_alloc {w' : World} {o : Obj} {row : Option Nat} (h : (w.alloc o).grownBy w' row) : w.grownBy w' row :=
  ⟨h.os, h.tape, h.output, by have := h.size; simp at this; omega, fun k hk hne => (h.block k (by simp; omega) hne).trans (Below.heap_alloc w o k hk)⟩

theorem Appended.of_alloc {w' : World} {o : Obj} {v' : Value} {k n : Nat} {ds : List Value} {og og' : Option Nat} (h : Appended (w.alloc o) w' v' k n ds og og') : Appended w w' v' k n ds og og' :=
  ⟨h.1, grownBy_trans_alloc h.2.1, h.2.2.imp id fun ⟨g, h1, h2⟩ => ⟨g, h1, by simp at h2; omega⟩⟩

/-- append(s, x): the new elements stand in the literal's block, which has just been laid. -/
theorem wpList_append1 {ops : Array Oper} {rest : List Oper} {o : Oper} {a : Act} {Q : Exit → Act → World → Prop} (hgd : o.guard = none) (s x : Operand) (t : TypeId)
    (ho : o.op = .call { callee := .builtin .append, args := #[s, x], argTypes := #[t, t] })
    (e : TypeId) (z : Value) (k bytes : Nat) (T : ST P t e z k bytes)
    (v : Value) (n : Nat) (ds : List Value) (og : Option Nat) (hs : a.eval s = v) (hown : Row w v k n ds og) (E : TypeId)
    (news : List Value) {H : Nat} (hx : a.eval x = .slice (some ⟨H, 0, none⟩) 1 1) (hH : H = w.heap.size) (hl : news.length = k) (h1 : ∀ u ∈ news, u.oneCell' = true)
    (hbytes : (n + 1) * bytes ≤ 140737488355328) (h63 : n + 1 ≤ maxLen)
    (h : ∀ v' w' og', Appended w w' v' k (n + 1) (ds ++ news) og og' → wpList P ops Q rest (a.put o.dst v') w') : wpList P ops Q (o :: rest) a (w.alloc (.cells news.toArray E)) := by
  subst hH
  exact wpList_appendS hgd s x t ho e z k bytes T v n ds og hs (hown.alloc _) (some ⟨w.heap.size, 0, none⟩) 1 1 news hx (by rw [hl, Nat.one_mul]) (fun h => by cases h)
    (fun a ha j u hj => by cases ha; rw [Addr.add_lit, Nat.zero_add, World.cell?_alloc_at _ _ _ _ rfl]; simpa using hj) h1 hbytes h63 (fun v' w' og' h' => h v' w' og' h'.of_alloc)

/-- Two worlds that part in draws alone. -/
structure Same (W w : World) : Prop where
  heap : W.heap = w.heap
  os : W.os = w.os
  tape : W.tape = w.tape
  output : W.output = w.output

theorem Row.same {W : World} {v : Value} {k n : Nat} {ds : List Value} {og : Option Nat} (h : Row w v k n ds og) (hW : Same W w) : Row W v k n ds og := by
  refine h.frame fun g _ => by rw [hW.heap]

theorem Appended.same {W w' : World} {v' : Value} {k n : Nat} {ds : List Value} {og og' : Option Nat} (h : Appended W w' v' k n ds og og') (hW : Same W w) : Appended w w' v' k n ds og og' := by
  obtain ⟨h1, h2, h3⟩ := h
  exact ⟨h1, ⟨h2.os.trans hW.os, h2.tape.trans hW.tape, h2.output.trans hW.output, by rw [← hW.heap]; exact h2.size, fun k hk hne => by rw [← hW.heap]; exact h2.block k (by rw [hW.heap]; exact hk) hne⟩, by rw [← hW.heap]; exact h3⟩

/-- append(s, x) as a step of a region that draws its order. -/
theorem step_append1 {ops : Array Oper} {o : Oper} {a : Act} {K : Act → World → Prop} {Q : Exit → Act → World → Prop} {E : Prop} (hgd : o.guard = none) (s x : Operand) (t : TypeId)
    (ho : o.op = .call { callee := .builtin .append, args := #[s, x], argTypes := #[t, t] })
    (e : TypeId) (z : Value) (k bytes : Nat) (T : ST P t e z k bytes)
    (v : Value) (n : Nat) (ds : List Value) (og : Option Nat) (hs : a.eval s = v) (hown : Row w v k n ds og) (Ety : TypeId)
    (news : List Value) {H : Nat} (hx : a.eval x = .slice (some ⟨H, 0, none⟩) 1 1) (hH : H = w.heap.size) (hl : news.length = k) (h1 : ∀ u ∈ news, u.oneCell' = true)
    (hbytes : (n + 1) * bytes ≤ 140737488355328) (h63 : n + 1 ≤ maxLen) {W : World} (hW : Same W (w.alloc (.cells news.toArray Ety)))
    (h : ∀ v' w' og', Appended w w' v' k (n + 1) (ds ++ news) og og' → K (a.put o.dst v') w') : if Region.wanted o (yielded ops a.tmps) = true then Oper.wp P o a W K Q else E := by
  have hw : Region.wanted o (yielded ops a.tmps) = true := by simp [Region.wanted, hgd]
  rw [if_pos hw]
  subst hH
  obtain ⟨v', w', og', hr, h2⟩ := run_append_row (P := P) (w := W) t o.type e z k bytes T v n ds og ((hown.alloc _).same hW) (some ⟨w.heap.size, 0, none⟩) 1 1 news (by rw [hl, Nat.one_mul]) (fun h => by cases h)
    (fun a ha j u hj => by
      cases ha; rw [Addr.add_lit, Nat.zero_add]
      have hc : (w.alloc (.cells news.toArray Ety)).cell? ⟨w.heap.size, j, none⟩ = some u := by rw [World.cell?_alloc_at _ _ _ _ rfl]; simpa using hj
      rw [← hc]; simp only [World.cell?, hW.heap]) h1 hbytes h63
  unfold Oper.wp execOp
  simp only [ho, resolve, invoke, builtin, Sem.run_bind, Sem.run_pure, Result.andThen_ok, List.map_toArray, List.map_cons, List.map_nil, hs, hx, hr]
  exact h v' w' og' (h2.same hW).of_alloc

/-- make([]T, n) -/
theorem wpList_makeRow {ops : Array Oper} {rest : List Oper} {o : Oper} {a : Act} {Q : Exit → Act → World → Prop}
    (hg : o.guard = none) (l c : Operand) (t : TypeId) (hop : o.op = Op.makeSlice t l c)
    (e : TypeId) (z : Value) (k bytes : Nat) (T : ST P t e z k bytes)
    (kl kc : IntKind) (L C : Int) (n : Nat) (hl : a.eval l = .int kl L) (hc : a.eval c = .int kc C) (hL : L = (n : Int)) (hC : C = (n : Int)) (b2 : bytes * n ≤ 281474976710656) (b3 : n ≤ maxLen)
    (hK : ∀ v' w', Row w' v' k n (madeCells z.cells (n * k)).toList (some w.heap.size) → w.grownBy w' none → v' = .slice (some ⟨w.heap.size, 0, none⟩) n n → wpList P ops Q rest (a.put o.dst v') w') :
    wpList P ops Q (o :: rest) a w := by
  obtain ⟨ht, ⟨i, hi, hz, rfl, rfl⟩, hzs, hsz⟩ := T
  refine wpList_plain hg fun K hK' => ?_
  subst hL
  subst hC
  have h63' : (n : Int) ≤ 9223372036854775807 := by simp only [maxLen] at b3; omega
  have hb' : (i.bytes : Int) * (n : Int) ≤ 281474976710656 := by
    have h : ((i.bytes * n : Nat) : Int) ≤ 281474976710656 := by omega
    rwa [Int.natCast_mul] at h
  have hrun := run_make (P := P) w t e i z ht hi hz kl kc n n (by omega) (Int.le_refl _) hb' h63'
  simp only [Int.toNat_natCast] at hrun
  unfold Oper.wp
  simp [execOp, hop, hl, hc, hrun, Result.andThen]
  exact hK' _ _ (hK _ _ (Row.lit w _ e i.size n b3 (size_madeCells _ _)) (World.grownBy_alloc w _ none) rfl)

end

/-- Owned through blocks from lo up to hi, none twice. -/
def Own {α : Type} (R : Rep α) (lo hi : Nat) (w : World) (cs : List Value) (x : α) : Prop := ∃ F, R.own w cs x F ∧ F.Nodup ∧ ∀ b, b ∈ F → lo ≤ b ∧ b < hi

/-- Read through blocks that are there. -/
def Rd {α : Type} (R : Rep α) (w : World) (cs : List Value) (x : α) : Prop := R.rd (fun b => b < w.heap.size) w cs x

section
variable {α : Type} {R : Rep α} {w w' : World} {cs : List Value} {x : α} {lo hi : Nat}

theorem Rd.below {B : Nat} (h : Rd R w cs x) (hb : Below B w w') (hB : w.heap.size ≤ B) : Rd R w' cs x :=
  R.rd_mono (R.rd_frame h (fun b h1 _ => hb.block b (by omega))) (fun _ _ h2 => h2)

theorem Rd.of {A : Nat → Prop} (h : R.rd A w cs x) : Rd R w cs x := R.rd_mono h (fun _ _ h2 => h2)

theorem Own.rd (h : Own R lo hi w cs x) : Rd R w cs x := let ⟨_, h1, _, _⟩ := h; Rd.of (R.own_rd h1)

theorem Own.rdI (h : Own R lo hi w cs x) : R.rd (fun b => lo ≤ b ∧ b < hi) w cs x := let ⟨_, h1, _, h3⟩ := h; R.rd_mono (R.own_rd h1) (fun b hb _ => h3 b hb)

theorem Own.frame (h : Own R lo hi w cs x) (hf : ∀ b, lo ≤ b → b < hi → w'.heap[b]? = w.heap[b]?) : Own R lo hi w' cs x :=
  let ⟨F, h1, h2, h3⟩ := h; ⟨F, R.own_frame h1 (fun b hb => hf b (h3 b hb).1 (h3 b hb).2), h2, h3⟩

theorem Own.below {B : Nat} (h : Own R lo hi w cs x) (hb : Below B w w') (hB : hi ≤ B) : Own R lo hi w' cs x :=
  h.frame fun b _ h2 => hb.block b (by omega)

theorem Own.mono {lo' hi' : Nat} (h : Own R lo hi w cs x) (h1 : lo' ≤ lo) (h2 : hi ≤ hi') : Own R lo' hi' w cs x :=
  let ⟨F, k1, k2, k3⟩ := h; ⟨F, k1, k2, fun b hb => ⟨by have := (k3 b hb).1; omega, by have := (k3 b hb).2; omega⟩⟩

theorem Own.top (h : Own R lo hi w cs x) (hi' : Nat) (hh : w.heap.size ≤ hi') : Own R lo hi' w cs x :=
  let ⟨F, k1, k2, k3⟩ := h; ⟨F, k1, k2, fun b hb => ⟨(k3 b hb).1, by have := R.own_lt k1 b hb; omega⟩⟩
end

/-- Nothing has turned but blocks from lo up to hi; new blocks. -/
structure Chg (lo hi : Nat) (w w' : World) : Prop where
  os : w'.os = w.os
  tape : w'.tape = w.tape
  output : w'.output = w.output
  size : w.heap.size ≤ w'.heap.size
  block : ∀ k, k < w.heap.size → (k < lo ∨ hi ≤ k) → w'.heap[k]? = w.heap[k]?

theorem Chg.of_grown {w w' : World} {og : Option Nat} {lo hi : Nat} (h : w.grownBy w' og) (hg : ∀ g, og = some g → lo ≤ g ∧ g < hi) : Chg lo hi w w' :=
  ⟨h.os, h.tape, h.output, h.size, fun k hk hne => h.block k hk (fun e => by have := hg k e.symm; omega)⟩

theorem Chg.below {w w' : World} {lo hi B : Nat} (h : Chg lo hi w w') (hB : B ≤ lo) (hs : B ≤ w.heap.size) : Below B w w' :=
  ⟨h.os, h.tape, h.output, h.size, fun k hk => h.block k (by omega) (by omega)⟩

theorem Chg.refl (lo hi : Nat) (w : World) : Chg lo hi w w := ⟨rfl, rfl, rfl, Nat.le_refl _, fun _ _ _ => rfl⟩

theorem Chg.trans {lo hi : Nat} {a b c : World} (h : Chg lo hi a b) (k : Chg lo hi b c) : Chg lo hi a c :=
  ⟨k.os.trans h.os, k.tape.trans h.tape, k.output.trans h.output, Nat.le_trans h.size k.size, fun i hi hne => (k.block i (Nat.lt_of_lt_of_le hi h.size) hne).trans (h.block i hi hne)⟩

theorem Chg.mono {lo hi lo' hi' : Nat} {a b : World} (h : Chg lo hi a b) (h1 : lo' ≤ lo) (h2 : hi ≤ hi') : Chg lo' hi' a b :=
  ⟨h.os, h.tape, h.output, h.size, fun k hk hne => h.block k hk (by omega)⟩

theorem Own.apart {α : Type} {R : Rep α} {w w' : World} {cs : List Value} {x : α} {lo hi l h : Nat} (o : Own R l h w cs x) (c : Chg lo hi w w') (ha : h ≤ lo ∨ hi ≤ l) : Own R l h w' cs x :=
  let ⟨F, k1, k2, k3⟩ := o; ⟨F, R.own_frame k1 (fun b hb => c.block b (R.own_lt k1 b hb) (by have := k3 b hb; omega)), k2, k3⟩

theorem Below.of_grown {w w' : World} {og : Option Nat} {B : Nat} (h : w.grownBy w' og) (hB : B ≤ w.heap.size) (hg : ∀ g, og = some g → B ≤ g) : Below B w w' :=
  (Below.refl B w).grown h hB hg

/-- The element goes behind an owned list; its own blocks lie above those of the list. -/
theorem Own.snoc {α : Type} {R : Rep α} {w w' : World} {v v' : Value} {xs : List α} {x : α} {c : List Value} {ds : List Value} {lo M hi : Nat} {og og' : Option Nat} {F G : List Nat}
    (_hrow : Row w v R.k xs.length ds og) (hel : ownL R w ds xs F) (hF : (og.toList ++ F).Nodup) (hlt : ∀ b, b ∈ og.toList ++ F → lo ≤ b ∧ b < M)
    (hx : R.own w c x G) (hG : G.Nodup) (hGlt : ∀ b, b ∈ G → M ≤ b ∧ b < hi) (hM : M ≤ w.heap.size) (hlo : lo ≤ M)
    (h : Appended w w' v' R.k (xs.length + 1) (ds ++ c) og og') :
    Own (RS R) lo w'.heap.size w' [v'] (xs ++ [x]) := by
  obtain ⟨h1, h2, h3⟩ := h
  have hGM : ∀ b, b ∈ G → b ∉ og.toList ++ F := fun b hb hc => by have := (hGlt b hb).1; have := (hlt b hc).2; omega
  have hFx : ∀ b, b ∈ F ++ G → w'.heap[b]? = w.heap[b]? := by
    intro b hb
    refine h2.block b ?_ ?_
    · rcases List.mem_append.1 hb with hb | hb
      · exact hel.lt b hb
      · exact R.own_lt hx b hb
    · intro e
      rcases List.mem_append.1 hb with hb | hb
      · have := (List.nodup_append.1 hF).2.2 b (by simp [← e]) b hb
        exact this rfl
      · exact hGM b hb (by simp [← e])
  have hel' : ownL R w' (ds ++ c) (xs ++ [x]) (F ++ G) := (hel.append (ownL.single hx)).frame hFx
  refine ⟨og'.toList ++ (F ++ G), ⟨v', og', ds ++ c, F ++ G, rfl, by simpa using h1, hel', rfl⟩, ?_, ?_⟩
  · have hFG : (F ++ G).Nodup := List.nodup_append.2 ⟨(List.nodup_append.1 hF).2.1, hG, fun b hb b' hb' e => by subst e; exact hGM b hb' (List.mem_append_right _ hb)⟩
    refine List.nodup_append.2 ⟨by cases og' <;> simp, hFG, fun b hb b' hb' e => ?_⟩
    subst e
    have hbo : og' = some b := by simpa using hb
    rcases h3 with h3 | ⟨g, h3, hg⟩
    · rcases List.mem_append.1 hb' with hb' | hb'
      · exact (List.nodup_append.1 hF).2.2 b (by simp [← h3, hbo]) b hb' rfl
      · exact hGM b hb' (by simp [← h3, hbo])
    · rw [hbo] at h3
      cases h3
      rcases List.mem_append.1 hb' with hb' | hb'
      · have := hel.lt b hb'; omega
      · have := R.own_lt hx b hb'; omega
  · intro b hb
    have hsz := h2.size
    rcases List.mem_append.1 hb with hb | hb
    · have hbo : og' = some b := by simpa using hb
      have hl := h1.lt b hbo
      rcases h3 with h3 | ⟨g, h3, hg⟩
      · exact ⟨(hlt b (by simp [← h3, hbo])).1, hl⟩
      · rw [hbo] at h3; cases h3; exact ⟨by omega, hl⟩
    · rcases List.mem_append.1 hb with hb | hb
      · have := hel.lt b hb; exact ⟨(hlt b (by simp [hb])).1, by omega⟩
      · have := R.own_lt hx b hb; have := (hGlt b hb).1; exact ⟨by omega, by omega⟩

end Go.Proofs.Ytmeijcgclllldaa
