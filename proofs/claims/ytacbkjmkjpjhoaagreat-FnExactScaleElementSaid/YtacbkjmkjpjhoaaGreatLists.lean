/- Lists of lists that are read; owned lists whose outer row is laid anew; elements put at a place. -/
import Derived.Test.YtacbkjmkjpjhoaaGreatSwap
import Derived.Test.YtacbkjmkjpjhoaaGreatCmp
import Derived.Shelf.Abstract
set_option linter.unusedSimpArgs false
set_option linter.unusedVariables false
namespace Go.Proofs.YtacbkjmkjpjhoaaGreat
open Go.RowKit

/-- The walk stops ahead of an operation. -/
theorem StopAt {P : Program} {ops : Array Oper} {rest : List Oper} {o : Oper} {a : Act} {w : World} {Q : Exit → Act → World → Prop} (h : Stop (wpList P ops Q (o :: rest) a w)) : wpList P ops Q (o :: rest) a w := h

theorem enters {P : Program} {f : FuncId} {fn : Func} {c : Code} (hf : P.funcs[f]? = some fn) (hname : (fn.name == "runtime.NumGoroutine") = false) (hb : fn.body = some c) : ∀ args w, (callFunc f args).run P w = .ok (.enter f args) w :=
  enters_of hf hname hb

/-- A list of lists that is read: its value, and its cells. -/
structure Lists {β : Type} (S : Rep β) (w : World) (v : Value) (xss : List (List β)) (oa : Option Addr) (cap : Nat) : Prop where
  val : v = .slice oa xss.length cap
  le : xss.length ≤ cap
  capLe : cap ≤ 9223372036854775807
  noneCap : oa = none → cap = 0
  row : xss = [] ∨ ∃ b off, oa = some ⟨b, off, none⟩ ∧ b < w.heap.size ∧ ∀ j (h : j < xss.length), ∃ oi ci, w.cell? ⟨b, off + j, none⟩ = some (.slice oi xss[j].length ci) ∧ Rd (RS S) w [.slice oi xss[j].length ci] xss[j] ∧ xss[j].length ≤ ci ∧ ci ≤ 9223372036854775807

theorem Rd.lists {β : Type} {S : Rep β} {w : World} {v : Value} {xss : List (List β)} (h : Rd (RS (RS S)) w [v] xss) : ∃ oa cap, Lists S w v xss oa cap := by
  obtain ⟨oa, cap, ds, h1, h2, h3, h4, h5, h6⟩ := h
  refine ⟨oa, cap, by simpa using h1, h2, by unfold maxLen at h3; omega, h4, ?_⟩
  rcases h6 with h6 | ⟨b, off, e, hb, hc⟩
  · left
    have := h5.len
    rw [h6] at this
    exact List.eq_nil_of_length_eq_zero (by simpa [show (RS S).k = 1 from rfl] using this.symm)
  · refine .inr ⟨b, off, e, hb, fun j hj => ?_⟩
    obtain ⟨c, k1, k2⟩ := h5.get j hj
    have hl := (RS S).rd_len k1
    match c, hl with
    | [u], _ =>
      obtain ⟨oi, ci, e2, e3, e4⟩ := Rd.val (R := S) (v := u) k1
      subst e2
      refine ⟨oi, ci, hc j _ ?_, k1, e3, by unfold maxLen at e4; omega⟩
      have := k2 0 _ rfl
      simpa [show (RS S).k = 1 from rfl] using this

theorem Lists.get {β : Type} {S : Rep β} {w : World} {v : Value} {xss : List (List β)} {oa : Option Addr} {cap : Nat} (h : Lists S w v xss oa cap) {k : Nat} (hk : k < xss.length) :
    ∃ b off, oa = some ⟨b, off, none⟩ ∧ b < w.heap.size ∧ ∀ j (h : j < xss.length), ∃ oi ci, w.cell? ⟨b, off + j, none⟩ = some (.slice oi xss[j].length ci) ∧ Rd (RS S) w [.slice oi xss[j].length ci] xss[j] ∧ xss[j].length ≤ ci ∧ ci ≤ 9223372036854775807 := by
  rcases h.row with h | h
  · subst h; exact absurd hk (Nat.not_lt_zero _)
  · exact h

section
variable {α : Type} {R : Rep α} {w : World}

theorem Appended.low {w w' : World} {v' : Value} {k n : Nat} {ds : List Value} {og og' : Option Nat} {B : Nat} (h : Appended w w' v' k n ds og og') (hB : B ≤ w.heap.size) (hog : ∀ g, og = some g → B ≤ g) :
    (∀ g, og' = some g → B ≤ g) ∧ Below B w w' := by
  refine ⟨fun g hg => ?_, h.below hB hog⟩
  rcases h.2.2 with h3 | ⟨b, h3, hb⟩
  · exact hog g (by rw [← h3]; exact hg)
  · rw [hg] at h3; cases h3; omega

/-- The outer row stands in a block of its own; the elements' blocks are as they were. -/
theorem Own.rebuild {w w' : World} {v : Value} {xs : List α} {ds : List Value} {F : List Nat} {og : Option Nat} {lo : Nat} (hel : ownL R w ds xs F) (hF : F.Nodup) (hlt : ∀ b, b ∈ F → lo ≤ b)
    (hb : Below w.heap.size w w') (hrow : Row w' v R.k xs.length ds og) (hog : ∀ g, og = some g → w.heap.size ≤ g) (hlo : lo ≤ w.heap.size) : Own (RS R) lo w'.heap.size w' [v] xs := by
  refine Own.mk' hrow (hel.frame fun b hbm => hb.block b (hel.lt b hbm)) ?_ ?_
  · refine List.nodup_append.2 ⟨by cases og <;> simp, hF, fun b hb1 b' hb2 e => ?_⟩
    subst e
    have := hog b (by simpa using hb1)
    have := hel.lt b hb2
    omega
  · intro b hbm
    rcases List.mem_append.1 hbm with hbm | hbm
    · have e : og = some b := by simpa using hbm
      exact ⟨Nat.le_trans hlo (hog b e), hrow.lt b e⟩
    · exact ⟨hlt b hbm, Nat.lt_of_lt_of_le (hel.lt b hbm) hb.size⟩

/-- An element of an owned list is replaced; what is put there lies above. -/
theorem Own.setElem {v : Value} {xs : List α} {lo hi : Nat} (h : Own (RS R) lo hi w [v] xs) (hk : R.k = 1) (i : Nat) (hi' : i < xs.length) :
    ∃ g cap a, v = .slice (some ⟨g, 0, none⟩) xs.length cap ∧ xs.length ≤ cap ∧ cap ≤ 9223372036854775807 ∧ lo ≤ g ∧ g < hi ∧ g < w.heap.size ∧ w.cell? ⟨g, i, none⟩ = some a ∧ Own R lo hi w [a] xs[i] ∧
      ∀ (w1 : World) (y : α) (u : Value) (M hi2 : Nat), Own R M hi2 w1 [u] y → hi ≤ M → M ≤ hi2 → Below hi w w1 → w1.cell? ⟨g, i, none⟩ = some a ∧ w1.frozen? ⟨g, i, none⟩ = false ∧ Own (RS R) lo hi2 (w1.setCell ⟨g, i, none⟩ u) [v] (xs.set i y) ∧ Chg lo hi w1 (w1.setCell ⟨g, i, none⟩ u) := by
  obtain ⟨og, ds, F, hrow, hel, hF, hlt⟩ := h.open
  obtain ⟨g, rfl⟩ := hrow.some_of hi'
  obtain ⟨cap, hv, hc1, hc2⟩ := hrow.slice
  obtain ⟨d1, c0, d2, F1, G, F2, rfl, rfl, hd1, hL1, hx, hL2⟩ := hel.split i hi'
  have la := R.rd_len (R.own_rd hx)
  rw [hk] at la hd1
  rw [Nat.mul_one] at hd1
  match c0, la with
  | [a], _ =>
    have hg := hlt g (by simp)
    have hgs := hrow.lt g rfl
    have hcell : w.cell? ⟨g, i, none⟩ = some a := hrow.cells i a (by rw [List.getElem?_append_right (by omega), hd1]; simp)
    refine ⟨g, cap, a, hv, hc1, by unfold maxLen at hc2; omega, hg.1, hg.2, hgs, hcell, ⟨G, hx, ?_, fun b hb => hlt b (by simp [hb])⟩, ?_⟩
    · exact (List.nodup_append.1 (List.nodup_append.1 (List.nodup_append.1 hF).2.1).2.1).1
    intro w1 y u M hi2 hy hiM hM2 hbel
    obtain ⟨Gy, hGy, hGyn, hGyl⟩ := hy
    have hrow1 : Row w1 v R.k xs.length (d1 ++ ([a] ++ d2)) (some g) := hrow.frame (fun g' hg' => by cases hg'; exact hbel.block g hg.2)
    obtain ⟨s1, r1⟩ := hrow1.store i u
    have hset : (d1 ++ ([a] ++ d2)).set i u = d1 ++ ([u] ++ d2) := by
      rw [List.set_append_right _ _ (by omega), hd1, Nat.sub_self]; rfl
    rw [hset] at s1
    have hne : ∀ z, z ∈ F1 ++ (G ++ F2) → z ≠ g := by
      intro z hz e; subst e
      exact (List.nodup_append.1 hF).2.2 z (by simp) z hz rfl
    have hfr : ∀ z, z ∈ F1 ++ (G ++ F2) → (w1.setCell ⟨g, i, none⟩ u).heap[z]? = w.heap[z]? := by
      intro z hz
      rw [heap_setCell_other _ ⟨g, i, none⟩ z u (hne z hz)]
      exact hbel.block z (hlt z (List.mem_append_right _ hz)).2
    have hGf : ∀ z, z ∈ Gy → (w1.setCell ⟨g, i, none⟩ u).heap[z]? = w1.heap[z]? := by
      intro z hz
      have := (hGyl z hz).1
      exact heap_setCell_other _ ⟨g, i, none⟩ z u (by show z ≠ g; omega)
    have hjoin := ownL.join (R := R) hi' (hL1.frame fun z hz => hfr z (by simp [hz])) (R.own_frame hGy hGf) (hL2.frame fun z hz => hfr z (by simp [hz]))
    refine ⟨hrow1.cells i a (by rw [List.getElem?_append_right (by omega), hd1]; simp), hrow1.frozen i, ?_, Chg.of_grown r1 (fun z hz => by cases hz; exact hg)⟩
    refine Own.mk' (og := some g) (ds := d1 ++ ([u] ++ d2)) (by rw [List.length_set]; exact s1) hjoin ?_ ?_
    · have hb : (F1 ++ F2).Nodup := (List.nodup_append.1 hF).2.1.sublist (List.Sublist.append (List.Sublist.refl _) (List.sublist_append_right _ _))
      have hb1 := List.nodup_append.1 hb
      have hab : ∀ z, z ∈ Gy → z ∉ F1 ++ F2 ∧ z ≠ g := by
        intro z hz
        have h1 := (hGyl z hz).1
        refine ⟨fun hm => ?_, by omega⟩
        have := (hlt z (by
          rcases List.mem_append.1 hm with hm | hm
          · simp [hm]
          · simp [hm])).2
        omega
      simp only [Option.toList_some, List.singleton_append, List.nodup_cons]
      constructor
      · intro hm
        simp only [List.mem_append] at hm
        rcases hm with hm | hm | hm
        · exact hne g (by simp [hm]) rfl
        · exact (hab g hm).2 rfl
        · exact hne g (by simp [hm]) rfl
      · refine List.nodup_append.2 ⟨hb1.1, List.nodup_append.2 ⟨hGyn, hb1.2.1, fun z hz z' hz' e => ?_⟩, fun z hz z' hz' e => ?_⟩
        · subst e; exact (hab z hz).1 (by simp [hz'])
        · subst e
          rcases List.mem_append.1 hz' with hz' | hz'
          · exact (hab z hz').1 (by simp [hz])
          · exact hb1.2.2 z hz z hz' rfl
    · intro z hz
      simp only [List.mem_append, Option.mem_toList, Option.some.injEq] at hz
      rcases hz with hz | hz | hz | hz
      · subst hz; omega
      · have := hlt z (by simp [hz]); omega
      · have := hGyl z hz; omega
      · have := hlt z (by simp [hz]); omega
end

theorem Row.some_val {w : World} {k n : Nat} {ds : List Value} {og : Option Nat} {g m cap : Nat} (h : Row w (.slice (some ⟨g, 0, none⟩) m cap) k n ds og) : og = some g := by
  rcases h.2 with ⟨e, _⟩ | ⟨g', c, cur, ty, e, rfl, _⟩
  · cases e
  · simp only [Value.slice.injEq, Option.some.injEq, Addr.mk.injEq, and_true] at e
    rw [e.1]

/-- An element put at a place: the outer row is laid anew. -/
theorem Own.insRow {α : Type} {R : Rep α} {W : World} {xs : List α} {x : α} {u : Value} {lo M hi2 g cap : Nat} (ho : Own (RS R) lo M W [.slice (some ⟨g, 0, none⟩) xs.length cap] xs) (hk : R.k = 1) (hM : M ≤ W.heap.size) (hlo : lo ≤ M)
    (hx : Own R M hi2 W [u] x) (j : Nat) (hj : j ≤ xs.length) :
    ∃ d1 d2, d1.length = j ∧ d2.length = xs.length - j ∧ (∀ u ∈ d1, u.oneCell' = true) ∧ (∀ u ∈ d2, u.oneCell' = true) ∧ u.oneCell' = true ∧
      (∀ w', Below W.heap.size W w' → (∀ i u, d1[i]? = some u → w'.cell? ⟨g, i, none⟩ = some u) ∧ (∀ i u, d2[i]? = some u → w'.cell? ⟨g, j + i, none⟩ = some u)) ∧
      (∀ w' v' og', Below W.heap.size W w' → Row w' v' 1 (xs.length + 1) (d1 ++ (u :: d2)) og' → (∀ b, og' = some b → W.heap.size ≤ b) → Own (RS R) lo w'.heap.size w' [v'] (xs.take j ++ x :: xs.drop j)) := by
  obtain ⟨og, ds, F, hrow, hel, hF, hlt⟩ := ho.open
  obtain rfl := hrow.some_val
  have hel' := hel
  rw [← List.take_append_drop j xs] at hel'
  obtain ⟨d1, d2, F1, F2, rfl, rfl, h1, h2⟩ := ownL.unappend hel'
  obtain ⟨G, hG, hGn, hGl⟩ := hx
  have l1 : d1.length = j := by rw [h1.len, hk, List.length_take]; omega
  have l2 : d2.length = xs.length - j := by rw [h2.len, hk, List.length_drop]; omega
  refine ⟨d1, d2, l1, l2, h1.one, h2.one, R.rd_one (R.own_rd hG) u (by simp), fun w' hb => ?_, fun w' v' og' hb hr hog => ?_⟩
  · have hg := hrow.lt g rfl
    refine ⟨fun i u hi => ?_, fun i u hi => ?_⟩
    · rw [hb.cell (p := ⟨g, i, none⟩) hg]
      exact hrow.cells i u (by rw [List.getElem?_append_left (List.getElem?_eq_some_iff.1 hi).1]; exact hi)
    · rw [hb.cell (p := ⟨g, j + i, none⟩) hg]
      refine hrow.cells (j + i) u ?_
      rw [List.getElem?_append_right (by omega), l1, show j + i - j = i by omega]; exact hi
  · have hn := (List.nodup_append.1 hF).2.1
    have hn2 := List.nodup_append.1 hn
    refine Own.rebuild (w := W) (ds := d1 ++ (u :: d2)) (F := F1 ++ (G ++ F2)) (h1.append ⟨[u], d2, G, F2, rfl, rfl, hG, h2⟩) ?_ ?_ hb ?_ hog (by omega)
    · refine List.nodup_append.2 ⟨hn2.1, List.nodup_append.2 ⟨hGn, hn2.2.1, fun a ha b hb e => ?_⟩, fun a ha b hb e => ?_⟩
      · subst e
        have := hGl a ha; have := hlt a (by simp [hb]); omega
      · subst e
        rcases List.mem_append.1 hb with hb | hb
        · have := hGl a hb; have := hlt a (by simp [ha]); omega
        · exact hn2.2.2 a ha a hb rfl
    · intro b hb
      simp only [List.mem_append] at hb
      rcases hb with hb | hb | hb
      · exact (hlt b (by simp [hb])).1
      · have := (hGl b hb).1; omega
      · exact (hlt b (by simp [hb])).1
    · have e : (xs.take j ++ x :: xs.drop j).length = xs.length + 1 := by simp; omega
      rw [e, hk]; exact hr

theorem ins_at {α : Type} {c : α → α → Int} {x : α} : ∀ {l : List α} {k : Nat}, k ≤ l.length → (∀ j (h : j < l.length), j < k → ¬ c x l[j] < 0) → (∀ h : k < l.length, c x l[k] < 0) → ins c x l = l.take k ++ x :: l.drop k
  | [], k, _, _, _ => by simp [ins]
  | y :: l, 0, _, _, h => by
    have := h (by simp)
    simp only [List.getElem_cons_zero] at this
    simp [ins, this]
  | y :: l, k + 1, hk, h1, h2 => by
    have h0 := h1 0 (by simp) (by omega)
    simp only [List.getElem_cons_zero] at h0
    unfold ins
    rw [if_neg h0, ins_at (k := k) (by simpa using hk) (fun j hj hjk => by have := h1 (j + 1) (by simpa using hj) (by omega); simpa using this) (fun h => by have := h2 (by simpa using h); simpa using this)]
    simp

end Go.Proofs.YtacbkjmkjpjhoaaGreat
