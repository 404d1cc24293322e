/- Lists that a call makes: an element more; an element more in the last of them. -/
import Derived.Test.YtmeijcgclllldaaFacts
namespace Go.Proofs.Ytmeijcgclllldaa
open Go.RowKit

section
variable {α : Type} {R : Rep α} {w : World}

theorem Own.open {v : Value} {xs : List α} {lo hi : Nat} (h : Own (RS R) lo hi w [v] xs) :
    ∃ og ds F, Row w v R.k xs.length ds og ∧ ownL R w ds xs F ∧ (og.toList ++ F).Nodup ∧ ∀ b, b ∈ og.toList ++ F → lo ≤ b ∧ b < hi := by
  obtain ⟨F, ⟨v', og, ds, G, h1, h2, h3, rfl⟩, hn, hb⟩ := h
  simp only [List.cons.injEq, and_true] at h1
  subst h1
  exact ⟨og, ds, G, h2, h3, hn, hb⟩

theorem Own.mk' {v : Value} {xs : List α} {lo hi : Nat} {og : Option Nat} {ds : List Value} {F : List Nat} (h1 : Row w v R.k xs.length ds og) (h2 : ownL R w ds xs F)
    (h3 : (og.toList ++ F).Nodup) (h4 : ∀ b, b ∈ og.toList ++ F → lo ≤ b ∧ b < hi) : Own (RS R) lo hi w [v] xs :=
  ⟨og.toList ++ F, ⟨v, og, ds, F, rfl, h1, h2, rfl⟩, h3, h4⟩

theorem Own.val {v : Value} {xs : List α} {lo hi : Nat} (h : Own (RS R) lo hi w [v] xs) : ∃ oa cap, v = .slice oa xs.length cap ∧ xs.length ≤ cap ∧ cap ≤ 9223372036854775807 := by
  obtain ⟨og, ds, F, h1, _⟩ := h.open
  obtain ⟨oa, cap, e, h2, h3, _⟩ := h1.value
  refine ⟨oa, cap, e, h2, ?_⟩
  unfold maxLen at h3
  omega

theorem Own.nil (lo hi : Nat) : Own (RS R) lo hi w [.slice none 0 0] ([] : List α) :=
  Own.mk' (Row.nil w R.k) ⟨rfl, rfl⟩ (by simp) (by simp)

theorem Own.int {lo hi : Nat} {n : Int} (h : In64 n) : Own RI lo hi w [.int .i64 n] n := ⟨[], ⟨⟨rfl, h⟩, rfl⟩, by simp, by simp⟩

theorem Own.one {x : α} {c : List Value} {lo hi : Nat} (h : Own R lo hi w c x) : ∀ u ∈ c, u.oneCell' = true := let ⟨_, h1, _⟩ := h; R.rd_one (R.own_rd h1)
theorem Own.len {x : α} {c : List Value} {lo hi : Nat} (h : Own R lo hi w c x) : c.length = R.k := let ⟨_, h1, _⟩ := h; R.rd_len (R.own_rd h1)

/-- An empty literal of the call's own. -/
theorem Own.empty (e : TypeId) (lo : Nat) (h : lo ≤ w.heap.size) : Own (RS R) lo (w.heap.size + 1) (w.alloc (.cells #[] e)) [.slice (some ⟨w.heap.size, 0, none⟩) 0 0] ([] : List α) :=
  Own.mk' (og := some w.heap.size) (ds := []) (F := []) (by simpa using Row.lit w #[] e R.k 0 (by decide) (by simp)) ⟨rfl, rfl⟩ (by simp) (fun b hb => by simp at hb; omega)

/-- append(s, x): s owned, x above it. -/
theorem wpList_snoc {P : Program} {ops : Array Oper} {rest : List Oper} {o : Oper} {a : Act} {Q : Exit → Act → World → Prop} (hgd : o.guard = none) (s x : Operand) (t : TypeId)
    (ho : o.op = .call { callee := .builtin .append, args := #[s, x], argTypes := #[t, t] })
    (e : TypeId) (z : Value) (k bytes : Nat) (T : ST P t e z k bytes) (hk : R.k = k)
    (v : Value) (xs : List α) (y : α) (c : List Value) (lo M hi : Nat) (hs : a.eval s = v) (hv : Own (RS R) lo M w [v] xs) (hy : Own R M hi w c y) (hM : M ≤ w.heap.size) (hlo : lo ≤ M) (E : TypeId)
    {H : Nat} (hx : a.eval x = .slice (some ⟨H, 0, none⟩) 1 1) (hH : H = w.heap.size)
    (hbytes : (xs.length + 1) * bytes ≤ 140737488355328) (h63 : xs.length + 1 ≤ 140737488355328)
    (h : ∀ oa cap w', Own (RS R) lo w'.heap.size w' [.slice oa (xs.length + 1) cap] (xs ++ [y]) → xs.length + 1 ≤ cap → cap ≤ 9223372036854775807 → Below lo w w' → wpList P ops Q rest (a.put o.dst (.slice oa (xs.length + 1) cap)) w') :
    wpList P ops Q (o :: rest) a (w.alloc (.cells c.toArray E)) := by
  subst hk
  obtain ⟨og, ds, F, hrow, hel, hF, hlt⟩ := hv.open
  obtain ⟨G, hG, hGn, hGlt⟩ := hy
  refine wpList_append1 hgd s x t ho e z R.k bytes T v xs.length ds og hs hrow E c hx hH (R.rd_len (R.own_rd hG)) (R.rd_one (R.own_rd hG)) hbytes (by unfold maxLen; omega) ?_
  intro v' w' og' happ
  have hown := Own.snoc hrow hel hF hlt hG hGn hGlt hM hlo happ
  obtain ⟨oa, cap, rfl, h1, h2⟩ := hown.val
  rw [List.length_append, List.length_singleton] at *
  exact h oa cap w' hown h1 h2 (Below.of_grown happ.2.1 (by omega) (fun g hg => (hlt g (by simp [hg])).1))

theorem ownL.split : ∀ {xs : List α} {ds : List Value} {F : List Nat} (i : Nat) (hi : i < xs.length), ownL R w ds xs F →
    ∃ d1 c d2 F1 G F2, ds = d1 ++ (c ++ d2) ∧ F = F1 ++ (G ++ F2) ∧ d1.length = i * R.k ∧ ownL R w d1 (xs.take i) F1 ∧ R.own w c xs[i] G ∧ ownL R w d2 (xs.drop (i + 1)) F2
  | x :: xs, ds, F, 0, _, ⟨c, d, G, H, e, e', h1, h2⟩ => ⟨[], c, d, [], G, H, e, e', by simp, ⟨rfl, rfl⟩, h1, by simpa using h2⟩
  | x :: xs, ds, F, i + 1, hi, ⟨c, d, G, H, e, e', h1, h2⟩ => by
    obtain ⟨d1, c', d2, F1, G', F2, k1, k2, k3, k4, k5, k6⟩ := ownL.split i (by simpa using hi) h2
    refine ⟨c ++ d1, c', d2, G ++ F1, G', F2, by rw [e, k1, List.append_assoc], by rw [e', k2, List.append_assoc], ?_, ⟨c, d1, G, F1, rfl, rfl, h1, k4⟩, k5, k6⟩
    rw [List.length_append, k3, R.rd_len (R.own_rd h1), Nat.add_mul]; omega

theorem ownL.join {xs : List α} {x : α} {i : Nat} {d1 c d2 : List Value} {F1 G F2 : List Nat} (hi : i < xs.length) (h1 : ownL R w d1 (xs.take i) F1) (h2 : R.own w c x G) (h3 : ownL R w d2 (xs.drop (i + 1)) F2) :
    ownL R w (d1 ++ (c ++ d2)) (xs.set i x) (F1 ++ (G ++ F2)) := by
  have e : xs.set i x = xs.take i ++ ([x] ++ xs.drop (i + 1)) := by rw [List.set_eq_take_append_cons_drop, if_pos hi]; rfl
  rw [e]
  exact h1.append ((ownL.single h2).append h3)
end

/-- An element of an owned list whose elements are lists: its cell, and that it is owned. -/
theorem Own.elem {β : Type} {S : Rep β} {w : World} {v : Value} {xss : List (List β)} {lo hi : Nat} (h : Own (RS (RS S)) lo hi w [v] xss) (i : Nat) (hi' : i < xss.length) :
    ∃ g cap h0, v = .slice (some ⟨g, 0, none⟩) xss.length cap ∧ xss.length ≤ cap ∧ cap ≤ 9223372036854775807 ∧ lo ≤ g ∧ g < hi ∧ w.cell? ⟨g, i, none⟩ = some h0 ∧ Own (RS S) lo hi w [h0] xss[i] := by
  obtain ⟨og0, ds0, F, hrow, hel, hF, hlt⟩ := h.open
  obtain ⟨g, rfl⟩ := hrow.some_of hi'
  obtain ⟨cap, hv, hc1, hc2⟩ := hrow.slice
  obtain ⟨d1, c0, d2, F1, G, F2, rfl, rfl, hd1, hL1, hx, hL2⟩ := hel.split i hi'
  have hcl := (RS S).rd_len ((RS S).own_rd hx)
  match c0, hcl with
  | [h0], _ =>
    have hd1' : d1.length = i := by rw [hd1]; show i * 1 = i; omega
    have hcell : w.cell? ⟨g, i, none⟩ = some h0 := hrow.cells i h0 (by rw [List.getElem?_append_right (by omega), hd1']; simp)
    have hg := hlt g (by simp)
    refine ⟨g, cap, h0, hv, hc1, by unfold maxLen at hc2; omega, hg.1, hg.2, hcell, G, hx, ?_, fun b hb => hlt b (by simp [hb])⟩
    exact (List.nodup_append.1 (List.nodup_append.1 (List.nodup_append.1 hF).2.1).2.1).1

theorem Appended.below {w w' : World} {v' : Value} {k n : Nat} {ds : List Value} {og og' : Option Nat} {lo : Nat} (h : Appended w w' v' k n ds og og') (hlo : lo ≤ w.heap.size) (hog : ∀ b, og = some b → lo ≤ b) : Below lo w w' :=
  Below.of_grown h.2.1 hlo hog

section
variable {β : Type} {S : Rep β} {w : World}

/-- An element more in the element i of a list of lists: what stands in memory, and what the append and the store behind it leave. -/
theorem Own.inner {v : Value} {xss : List (List β)} {lo hi : Nat} (h : Own (RS (RS S)) lo hi w [v] xss) (i : Nat) (hi' : i < xss.length) (L : Nat) (hL : xss.length = L) :
    ∃ g cap h0 m ds og, v = .slice (some ⟨g, 0, none⟩) L cap ∧ lo ≤ g ∧ g < w.heap.size ∧ w.cell? ⟨g, i, none⟩ = some h0 ∧ Row w h0 S.k m ds og ∧ m = xss[i].length ∧ (∀ b, og = some b → lo ≤ b) ∧
      ∀ (y : β) (c : List Value) (M hi2 : Nat) (h' : Value) (w1 : World) (og' : Option Nat), Own S M hi2 w c y → hi ≤ M → Appended w w1 h' S.k (m + 1) (ds ++ c) og og' →
        w1.cell? ⟨g, i, none⟩ = some h0 ∧ w1.frozen? ⟨g, i, none⟩ = false ∧ Own (RS (RS S)) lo (w1.setCell ⟨g, i, none⟩ h').heap.size (w1.setCell ⟨g, i, none⟩ h') [v] (xss.set i (xss[i] ++ [y])) ∧ (lo ≤ w.heap.size → Below lo w (w1.setCell ⟨g, i, none⟩ h')) := by
  subst hL
  obtain ⟨og0, ds0, F, hrow, hel, hF, hlt⟩ := h.open
  obtain ⟨g, rfl⟩ : ∃ g, og0 = some g := by
    rcases hrow.2 with ⟨_, hn, _⟩ | ⟨g, _, _, _, _, e, _⟩
    · omega
    · exact ⟨g, e⟩
  obtain ⟨cap, hv⟩ : ∃ cap, v = .slice (some ⟨g, 0, none⟩) xss.length cap := by
    rcases hrow.2 with ⟨_, _, h0⟩ | ⟨g', cap, _, _, e, h0, _⟩
    · cases h0
    · cases h0; exact ⟨cap, e⟩
  obtain ⟨d1, c0, d2, F1, G, F2, rfl, rfl, hd1, hL1, ⟨h0, og, ds, G', rfl, hr0, hel0, rfl⟩, hL2⟩ := hel.split i hi'
  have hd1' : d1.length = i := by rw [hd1]; show i * 1 = i; omega
  have hcell : w.cell? ⟨g, i, none⟩ = some h0 := hrow.cells i h0 (by rw [List.getElem?_append_right (by omega), hd1']; simp)
  refine ⟨g, cap, h0, _, ds, og, hv, (hlt g (by simp)).1, hrow.lt g rfl, hcell, hr0, rfl, fun b hb => (hlt b (by simp [hb])).1, ?_⟩
  intro y c M hi2 h' w1 og' hy hiM happ
  obtain ⟨Gy, hGy, hGyn, hGyl⟩ := hy
  obtain ⟨a1, a2, a3⟩ := happ
  -- what is disjoint
  have hgn : ∀ b, b ∈ F1 ++ (og.toList ++ G' ++ F2) → b ≠ g := by
    intro b hb e; subst e
    exact (List.nodup_append.1 hF).2.2 b (by simp) b hb rfl
  have hn2 : (F1 ++ (og.toList ++ G' ++ F2)).Nodup := (List.nodup_append.1 hF).2.1
  have hogF : ∀ b, b ∈ F1 ++ (G' ++ F2) → og ≠ some b := by
    intro b hb e
    rw [e] at hn2
    have hn3 := List.nodup_append.1 hn2
    rcases List.mem_append.1 hb with hb | hb
    · exact hn3.2.2 b hb b (by simp) rfl
    · have hn4 := hn3.2.1
      simp at hn4
      rcases List.mem_append.1 hb with hb | hb
      · exact hn4.1.1 hb
      · exact hn4.1.2 hb
  have hsz := a2.size
  have hlow : ∀ b, b ∈ F1 ++ (og.toList ++ G' ++ F2) → b < w.heap.size := by
    intro b hb
    rcases List.mem_append.1 hb with hb | hb
    · exact hL1.lt b hb
    · rcases List.mem_append.1 hb with hb | hb
      · rcases List.mem_append.1 hb with hb | hb
        · exact hr0.lt b (by simpa using hb)
        · exact hel0.lt b hb
      · exact hL2.lt b hb
  have hgb : w1.heap[g]? = w.heap[g]? := a2.block g (hrow.lt g rfl) (fun e => hgn g (by simp [← e]) rfl)
  have hrow1 : Row w1 v 1 xss.length (d1 ++ ([h0] ++ d2)) (some g) := hrow.frame (fun g' hg' => by cases hg'; exact hgb)
  have hfF : ∀ b, b ∈ F1 ++ (G' ++ F2) → (w1.setCell ⟨g, i, none⟩ h').heap[b]? = w.heap[b]? := by
    intro b hb
    have hb' : b ∈ F1 ++ (og.toList ++ G' ++ F2) := by
      simp only [List.mem_append] at hb ⊢
      rcases hb with hb | hb | hb
      · exact .inl hb
      · exact .inr (.inl (.inr hb))
      · exact .inr (.inr hb)
    rw [heap_setCell_other w1 ⟨g, i, none⟩ b h' (hgn b hb')]
    exact a2.block b (hlow b hb') (fun e => hogF b hb e.symm)
  have hGyw : ∀ b, b ∈ Gy → (w1.setCell ⟨g, i, none⟩ h').heap[b]? = w.heap[b]? := by
    intro b hb
    have h1 := hGyl b hb
    have h2 := S.own_lt hGy b hb
    have hgl := (hlt g (by simp)).2
    rw [heap_setCell_other w1 ⟨g, i, none⟩ b h' (by show b ≠ g; omega)]
    refine a2.block b h2 (fun e => ?_)
    have := (hlt b (by simp [← e])).2
    omega
  obtain ⟨hst, hgr⟩ := hrow1.store i h'
  have hset : (d1 ++ ([h0] ++ d2)).set i h' = d1 ++ ([h'] ++ d2) := by
    rw [List.set_append_right _ _ (by omega), hd1', Nat.sub_self]; rfl
  rw [hset] at hst
  have hr1 : Row (w1.setCell ⟨g, i, none⟩ h') h' S.k (xss[i].length + 1) (ds ++ c) og' := by
    refine a1.frame (fun b hb => heap_setCell_other w1 ⟨g, i, none⟩ b h' ?_)
    show b ≠ g
    rcases a3 with a3 | ⟨b', a3, hb'⟩
    · exact hgn b (by simp [← a3, hb])
    · rw [hb] at a3; cases a3; have := hrow.lt g rfl; omega
  have hel1 : ownL S (w1.setCell ⟨g, i, none⟩ h') (ds ++ c) (xss[i] ++ [y]) (G' ++ Gy) :=
    (hel0.frame (fun b hb => hfF b (by simp [hb]))).append (ownL.single (S.own_frame hGy hGyw))
  have hinner : (RS S).own (w1.setCell ⟨g, i, none⟩ h') [h'] (xss[i] ++ [y]) (og'.toList ++ (G' ++ Gy)) :=
    ⟨h', og', ds ++ c, G' ++ Gy, rfl, by simpa using hr1, hel1, rfl⟩
  have hL1' := hL1.frame (fun b hb => hfF b (by simp [hb]))
  have hL2' := hL2.frame (fun b hb => hfF b (by simp [hb]))
  have hjoin := ownL.join (R := RS S) hi' hL1' hinner hL2'
  refine ⟨hrow1.cells i h0 (by rw [List.getElem?_append_right (by omega), hd1']; simp), hrow1.frozen i, ?_, ?_⟩
  · refine Own.mk' (og := some g) (ds := d1 ++ ([h'] ++ d2)) (by rw [List.length_set]; exact hst) hjoin ?_ ?_
    · -- no block twice
      have hog' : ∀ b, og' = some b → b ∉ F1 ++ (G' ++ F2) ∧ b ≠ g ∧ b ∉ Gy := by
        intro b hb
        rcases a3 with a3 | ⟨b', a3, hb'⟩
        · rw [a3] at hb
          refine ⟨fun hm => hogF b hm hb, hgn b (by simp [hb]), fun hm => ?_⟩
          have := (hlt b (by simp [hb])).2
          have := (hGyl b hm).1
          omega
        · rw [hb] at a3; cases a3
          refine ⟨fun hm => ?_, ?_, fun hm => ?_⟩
          · have : b ∈ F1 ++ (og.toList ++ G' ++ F2) := by
              simp only [List.mem_append] at hm ⊢
              rcases hm with hm | hm | hm
              · exact .inl hm
              · exact .inr (.inl (.inr hm))
              · exact .inr (.inr hm)
            have := hlow b this; omega
          · have := hrow.lt g rfl; omega
          · have := S.own_lt hGy b hm; omega
      have hGyd : ∀ b, b ∈ Gy → b ∉ F1 ++ (G' ++ F2) ∧ b ≠ g := by
        intro b hb
        have h1 := (hGyl b hb).1
        refine ⟨fun hm => ?_, ?_⟩
        · have hm' : b ∈ (some g).toList ++ (F1 ++ (og.toList ++ G' ++ F2)) := by
            simp only [List.mem_append] at hm ⊢
            rcases hm with hm | hm | hm
            · exact .inr (.inl hm)
            · exact .inr (.inr (.inl (.inr hm)))
            · exact .inr (.inr (.inr hm))
          have := (hlt b hm').2; omega
        · have := (hlt g (by simp)).2; omega
      have hbase : (F1 ++ (G' ++ F2)).Nodup := by
        refine hn2.sublist ?_
        refine List.Sublist.append (List.Sublist.refl _) (List.Sublist.append ?_ (List.Sublist.refl _))
        exact List.sublist_append_right _ _
      have hgF : g ∉ F1 ++ (G' ++ F2) := fun hm => hgn g (by
        simp only [List.mem_append] at hm ⊢
        rcases hm with hm | hm | hm
        · exact .inl hm
        · exact .inr (.inl (.inr hm))
        · exact .inr (.inr hm)) rfl
      have hb1 := List.nodup_append.1 hbase
      have hb2 := List.nodup_append.1 hb1.2.1
      simp only [Option.toList_some, List.singleton_append, List.nodup_cons]
      constructor
      · intro hm
        simp only [List.mem_append, Option.mem_toList] at hm hgF
        rcases hm with hm | (hm | hm | hm) | hm
        · exact hgF (.inl hm)
        · exact (hog' g hm).2.1 rfl
        · exact hgF (.inr (.inl hm))
        · exact (hGyd g hm).2 rfl
        · exact hgF (.inr (.inr hm))
      · refine List.nodup_append.2 ⟨hb1.1, List.nodup_append.2 ⟨List.nodup_append.2 ⟨by cases og' <;> simp, List.nodup_append.2 ⟨hb2.1, hGyn, fun b hb b' hb' e => ?_⟩, fun b hb b' hb' e => ?_⟩, hb2.2.1, fun b hb b' hb' e => ?_⟩, fun b hb b' hb' e => ?_⟩
        · subst e; exact (hGyd b hb').1 (by simp [hb])
        · subst e
          have hbo : og' = some b := by simpa using hb
          rcases List.mem_append.1 hb' with hb' | hb'
          · exact (hog' b hbo).1 (by simp [hb'])
          · exact (hog' b hbo).2.2 hb'
        · subst e
          rcases List.mem_append.1 hb with hb | hb
          · exact (hog' b (by simpa using hb)).1 (by simp [hb'])
          · rcases List.mem_append.1 hb with hb | hb
            · exact hb2.2.2 b hb b hb' rfl
            · exact (hGyd b hb).1 (by simp [hb'])
        · subst e
          simp only [List.mem_append, Option.mem_toList] at hb'
          rcases hb' with (hb' | hb' | hb') | hb'
          · exact (hog' b hb').1 (by simp [hb])
          · exact hb1.2.2 b hb b (by simp [hb']) rfl
          · exact (hGyd b hb').1 (by simp [hb])
          · exact hb1.2.2 b hb b (by simp [hb']) rfl
    · intro b hb
      have hs2 : (w1.setCell ⟨g, i, none⟩ h').heap.size = w1.heap.size := World.size_setCell ..
      rw [hs2]
      simp only [List.mem_append, Option.mem_toList, Option.some.injEq] at hb
      have hgl := hlt g (by simp)
      rcases hb with hb | hb | (hb | hb | hb) | hb
      · subst hb; have := hrow.lt g rfl; omega
      · have := hlt b (by simp [hb]); have := hL1.lt b hb; omega
      · have hl := a1.lt b hb
        rcases a3 with a3 | ⟨b', a3, hb'⟩
        · have := hlt b (by simp [← a3, hb]); omega
        · rw [hb] at a3; cases a3; have := hrow.lt g rfl; omega
      · have := hlt b (by simp [hb]); have := hel0.lt b hb; omega
      · have := hGyl b hb; have := S.own_lt hGy b hb; omega
      · have := hlt b (by simp [hb]); have := hL2.lt b hb; omega
  · intro hlw
    have hb1 : Below lo w w1 := Below.of_grown a2 hlw (fun b hb => (hlt b (by simp [hb])).1)
    exact hb1.setCell (hlt g (by simp)).1 _
end
end Go.Proofs.Ytmeijcgclllldaa
