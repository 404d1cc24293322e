/- An element of an owned list: its cells and blocks, and what may be put in its place. -/
import Derived.Test.YtacbkjmkjpjhoaaGreatII
set_option linter.unusedSimpArgs false
set_option linter.unusedVariables false
namespace Go.Proofs.YtacbkjmkjpjhoaaGreat
open Go.RowKit

/-- Owned through the blocks F, none twice. -/
def OwnF {α : Type} (R : Rep α) (F : List Nat) (w : World) (cs : List Value) (x : α) : Prop := R.own w cs x F ∧ F.Nodup

theorem OwnF.of {α : Type} {R : Rep α} {lo hi : Nat} {w : World} {cs : List Value} {x : α} (h : Own R lo hi w cs x) : ∃ F, OwnF R F w cs x ∧ ∀ b, b ∈ F → lo ≤ b ∧ b < hi :=
  let ⟨F, h1, h2, h3⟩ := h; ⟨F, ⟨h1, h2⟩, h3⟩

theorem OwnF.to {α : Type} {R : Rep α} {lo hi : Nat} {F : List Nat} {w : World} {cs : List Value} {x : α} (h : OwnF R F w cs x) (hb : ∀ b, b ∈ F → lo ≤ b ∧ b < hi) : Own R lo hi w cs x := ⟨F, h.1, h.2, hb⟩

theorem OwnF.frame {α : Type} {R : Rep α} {F : List Nat} {w w' : World} {cs : List Value} {x : α} (h : OwnF R F w cs x) (hf : ∀ b, b ∈ F → w'.heap[b]? = w.heap[b]?) : OwnF R F w' cs x := ⟨R.own_frame h.1 hf, h.2⟩

theorem OwnF.lt {α : Type} {R : Rep α} {F : List Nat} {w : World} {cs : List Value} {x : α} (h : OwnF R F w cs x) : ∀ b, b ∈ F → b < w.heap.size := R.own_lt h.1

theorem OwnF.rd {α : Type} {R : Rep α} {F : List Nat} {w : World} {cs : List Value} {x : α} (h : OwnF R F w cs x) : Rd R w cs x := R.rd_mono (R.own_rd h.1) (fun _ _ h => h)

/-- Nothing has turned but blocks of F; new blocks. -/
structure ChgF (F : List Nat) (w w' : World) : Prop where
  os : w'.os = w.os
  tape : w'.tape = w.tape
  output : w'.output = w.output
  size : w.heap.size ≤ w'.heap.size
  block : ∀ k, k < w.heap.size → k ∉ F → w'.heap[k]? = w.heap[k]?

theorem ChgF.refl (F : List Nat) (w : World) : ChgF F w w := ⟨rfl, rfl, rfl, Nat.le_refl _, fun _ _ _ => rfl⟩
theorem ChgF.of_grown {w w' : World} {og : Option Nat} (h : w.grownBy w' og) : ChgF og.toList w w' := ⟨h.os, h.tape, h.output, h.size, fun k hk hn => h.block k hk (fun e => hn (by simp [← e]))⟩
theorem ChgF.mono {F G : List Nat} {w w' : World} (h : ChgF F w w') (hs : ∀ b, b ∈ F → b ∈ G) : ChgF G w w' := ⟨h.os, h.tape, h.output, h.size, fun k hk hn => h.block k hk (fun e => hn (hs k e))⟩
theorem ChgF.trans {F : List Nat} {a b c : World} (h : ChgF F a b) (k : ChgF F b c) : ChgF F a c :=
  ⟨k.os.trans h.os, k.tape.trans h.tape, k.output.trans h.output, Nat.le_trans h.size k.size, fun i hi hn => (k.block i (Nat.lt_of_lt_of_le hi h.size) hn).trans (h.block i hi hn)⟩
/-- .. where the second may turn blocks that are new since. -/
theorem ChgF.trans' {F G : List Nat} {a b c : World} (h : ChgF F a b) (k : ChgF G b c) (hs : ∀ x, x ∈ G → x ∈ F ∨ a.heap.size ≤ x) : ChgF F a c :=
  ⟨k.os.trans h.os, k.tape.trans h.tape, k.output.trans h.output, Nat.le_trans h.size k.size, fun i hi hn => (k.block i (Nat.lt_of_lt_of_le hi h.size) (fun e => (hs i e).elim hn (fun h => by omega))).trans (h.block i hi hn)⟩
theorem ChgF.below {F : List Nat} {w w' : World} {B : Nat} (h : ChgF F w w') (hB : B ≤ w.heap.size) (hF : ∀ b, b ∈ F → B ≤ b) : Below B w w' :=
  ⟨h.os, h.tape, h.output, h.size, fun k hk => h.block k (by omega) (fun e => by have := hF k e; omega)⟩
theorem Below.chgF {w w' : World} {F : List Nat} (h : Below w.heap.size w w') : ChgF F w w' := ⟨h.os, h.tape, h.output, h.size, fun k hk _ => h.block k hk⟩

section
variable {α : Type} {R : Rep α} {w : World}

theorem OwnF.lens {v : Value} {xs : List α} {F : List Nat} (h : OwnF (RS R) F w [v] xs) (i : Nat) (hi : i < xs.length) :
    ∃ g cap d1 c d2 F1 G F2, v = .slice (some ⟨g, 0, none⟩) xs.length cap ∧ xs.length ≤ cap ∧ cap ≤ 9223372036854775807 ∧ F = g :: (F1 ++ (G ++ F2)) ∧ c.length = R.k ∧ d1.length = i * R.k ∧ R.own w c xs[i] G ∧ Row w v R.k xs.length (d1 ++ (c ++ d2)) (some g) ∧
      ∀ (w' : World) (c' : List Value) (y : α) (G' : List Nat), c'.length = R.k → R.own w' c' y G' → (∀ b, b ∈ F1 ++ F2 → w'.heap[b]? = w.heap[b]?) → Row w' v R.k xs.length (d1 ++ (c' ++ d2)) (some g) → (g :: (F1 ++ (G' ++ F2))).Nodup →
        OwnF (RS R) (g :: (F1 ++ (G' ++ F2))) w' [v] (xs.set i y) := by
  obtain ⟨⟨v', og, ds, F0, h1, hrow, hel, rfl⟩, hn⟩ := h
  simp only [List.cons.injEq, and_true] at h1
  subst h1
  obtain ⟨g, rfl⟩ := hrow.some_of hi
  obtain ⟨cap, hv, hc1, hc2⟩ := hrow.slice
  obtain ⟨d1, c, d2, F1, G, F2, rfl, rfl, hd1, hL1, hx, hL2⟩ := hel.split i hi
  refine ⟨g, cap, d1, c, d2, F1, G, F2, hv, hc1, by unfold maxLen at hc2; omega, rfl, R.rd_len (R.own_rd hx), hd1, hx, hrow, ?_⟩
  intro w' c' y G' hc' hy hfr hr' hnd
  refine ⟨⟨v, some g, d1 ++ (c' ++ d2), F1 ++ (G' ++ F2), rfl, by rw [List.length_set]; exact hr', ?_, rfl⟩, hnd⟩
  exact ownL.join hi (hL1.frame fun b hb => hfr b (by simp [hb])) hy (hL2.frame fun b hb => hfr b (by simp [hb]))
end

theorem Row.chgF {w w' : World} {v : Value} {k n : Nat} {ds : List Value} {og : Option Nat} {F : List Nat} (h : Row w v k n ds og) (hc : ChgF F w w') (hn : ∀ g, og = some g → g ∉ F) : Row w' v k n ds og :=
  h.frame fun g hg => hc.block g (h.lt g hg) (hn g hg)

/-- An inner row of numbers gets one more number, by append and a store: what stands ahead, and what is left. -/
theorem OwnF.innerApp {w : World} {v : Value} {xss : List (List Int)} {F : List Nat} (h : OwnF (RS (RS RI)) F w [v] xss) (i : Nat) (hi : i < xss.length) :
    ∃ g cap h0 og, v = .slice (some ⟨g, 0, none⟩) xss.length cap ∧ xss.length ≤ cap ∧ cap ≤ 9223372036854775807 ∧ g < w.heap.size ∧ w.cell? ⟨g, i, none⟩ = some h0 ∧ Row w h0 1 xss[i].length (xss[i].map (Value.int .i64)) og ∧
      ∀ (y : Int) (h' : Value) (w1 : World) (og' : Option Nat), In64 y → Appended w w1 h' 1 (xss[i].length + 1) (xss[i].map (Value.int .i64) ++ [.int .i64 y]) og og' →
        w1.cell? ⟨g, i, none⟩ = some h0 ∧ w1.frozen? ⟨g, i, none⟩ = false ∧ ∃ F', OwnF (RS (RS RI)) F' (w1.setCell ⟨g, i, none⟩ h') [v] (xss.set i (xss[i] ++ [y])) ∧ (∀ b, b ∈ F' → b ∈ F ∨ w.heap.size ≤ b) ∧ ChgF F w (w1.setCell ⟨g, i, none⟩ h') := by
  have hlt := h.lt
  have hnd := h.2
  obtain ⟨g, cap, d1, c, d2, F1, G, F2, hv, hc1, hc2, rfl, hcl, hd1, hx, hrow, hK⟩ := h.lens i hi
  obtain ⟨h0, og, ds, G', rfl, hr0, hel0, rfl⟩ := hx
  obtain ⟨k1, k2, k3⟩ := ownL_ints hel0
  subst k1; subst k2
  have hd1' : d1.length = i := by rw [hd1]; show i * 1 = i; omega
  have hcell : w.cell? ⟨g, i, none⟩ = some h0 := hrow.cells i h0 (by rw [List.getElem?_append_right (by omega), hd1']; simp)
  refine ⟨g, cap, h0, og, hv, hc1, hc2, hlt g (by simp), hcell, hr0, ?_⟩
  intro y h' w1 og' hy happ
  obtain ⟨a1, a2, a3⟩ := happ
  simp only [List.append_nil] at *
  have hn1 := List.nodup_cons.1 hnd
  have hog : ∀ b, og = some b → b ≠ g ∧ b ∉ F1 ++ F2 := by
    intro b hb
    subst hb
    refine ⟨fun e => hn1.1 (by simp [← e]), fun hm => ?_⟩
    have h2 := List.nodup_append.1 hn1.2
    rcases List.mem_append.1 hm with hm | hm
    · exact h2.2.2 b hm b (by simp) rfl
    · exact (List.nodup_append.1 h2.2.1).2.2 b (by simp) b hm rfl
  have hgb : w1.heap[g]? = w.heap[g]? := a2.block g (hlt g (by simp)) (fun e => (hog g e.symm).1 rfl)
  have hrow1 : Row w1 v 1 xss.length (d1 ++ ([h0] ++ d2)) (some g) := hrow.frame (fun g' hg' => by cases hg'; exact hgb)
  obtain ⟨hst, hgr⟩ := hrow1.store i h'
  have hset : (d1 ++ ([h0] ++ d2)).set i h' = d1 ++ ([h'] ++ d2) := by
    rw [List.set_append_right _ _ (by omega), hd1', Nat.sub_self]; rfl
  rw [hset] at hst
  have hog' : ∀ b, og' = some b → b ≠ g ∧ b ∉ F1 ++ F2 := by
    intro b hb
    rcases a3 with a3 | ⟨b', a3, hb'⟩
    · exact hog b (by rw [← a3]; exact hb)
    · rw [hb] at a3; cases a3
      refine ⟨fun e => ?_, fun hm => ?_⟩
      · subst e; have := hlt b (by simp); omega
      · have := hlt b (by
          rcases List.mem_append.1 hm with hm | hm
          · simp [hm]
          · simp [hm])
        omega
  have hr1 : Row (w1.setCell ⟨g, i, none⟩ h') h' 1 (xss[i].length + 1) (xss[i].map (Value.int .i64) ++ [.int .i64 y]) og' :=
    a1.frame (fun b hb => heap_setCell_other w1 ⟨g, i, none⟩ b h' (hog' b hb).1)
  have hin : (RS RI).own (w1.setCell ⟨g, i, none⟩ h') [h'] (xss[i] ++ [y]) (og'.toList) := by
    refine Row.ownI ?_ ?_
    · simpa using hr1
    · intro z hz
      rcases List.mem_append.1 hz with hz | hz
      · exact k3 z hz
      · simp only [List.mem_singleton] at hz; subst hz; exact hy
  have hsub : ∀ b, b ∈ F1 ++ F2 → b ≠ g := fun b hm e => hn1.1 (by
    subst e
    rcases List.mem_append.1 hm with hm | hm
    · simp [hm]
    · simp [hm])
  have hfr : ∀ b, b ∈ F1 ++ F2 → (w1.setCell ⟨g, i, none⟩ h').heap[b]? = w.heap[b]? := by
    intro b hm
    rw [heap_setCell_other w1 ⟨g, i, none⟩ b h' (hsub b hm)]
    refine a2.block b (hlt b ?_) (fun e => (hog b e.symm).2 hm)
    rcases List.mem_append.1 hm with hm | hm
    · simp [hm]
    · simp [hm]
  have hnd' : (g :: (F1 ++ (og'.toList ++ F2))).Nodup := by
    have h2 := List.nodup_append.1 hn1.2
    have h3 := List.nodup_append.1 h2.2.1
    refine List.nodup_cons.2 ⟨?_, ?_⟩
    · intro hm
      simp only [List.mem_append, Option.mem_toList] at hm
      rcases hm with hm | hm | hm
      · exact hsub g (by simp [hm]) rfl
      · exact (hog' g hm).1 rfl
      · exact hsub g (by simp [hm]) rfl
    · refine List.nodup_append.2 ⟨h2.1, List.nodup_append.2 ⟨by cases og' <;> simp, h3.2.1, fun b hb b' hb' e => ?_⟩, fun b hb b' hb' e => ?_⟩
      · subst e; exact (hog' b (by simpa using hb)).2 (by simp [hb'])
      · subst e
        rcases List.mem_append.1 hb' with hb' | hb'
        · exact (hog' b (by simpa using hb')).2 (by simp [hb])
        · exact h2.2.2 b hb b (by simp [hb']) rfl
  refine ⟨hrow1.cells i h0 (by rw [List.getElem?_append_right (by omega), hd1']; simp), hrow1.frozen i, _, hK _ [h'] (xss[i] ++ [y]) og'.toList rfl hin hfr hst hnd', ?_, ?_⟩
  · intro b hb
    simp only [List.mem_cons, List.mem_append, Option.mem_toList] at hb
    rcases hb with hb | hb | hb | hb
    · exact .inl (by simp [hb])
    · exact .inl (by simp [hb])
    · rcases a3 with a3 | ⟨b', a3, hb'⟩
      · exact .inl (by simp [← a3, hb])
      · rw [hb] at a3; cases a3; exact .inr hb'
    · exact .inl (by simp [hb])
  · refine (ChgF.of_grown a2).mono (G := g :: (F1 ++ (og.toList ++ F2))) (fun b hb => by simp [Option.mem_toList.1 hb]) |>.trans ((ChgF.of_grown hgr).mono (fun b hb => ?_))
    simp at hb
    simp [hb]

/-- A literal list. -/
theorem Rd.lit {α : Type} {R : Rep α} {w W : World} {ds : List Value} {xs : List α} {E : TypeId} (h : rdL R (fun b => b < w.heap.size) w ds xs) (e : W.heap = (w.alloc (.cells ds.toArray E)).heap) (hn : xs.length ≤ maxLen) :
    Rd (RS R) W [.slice (some ⟨w.heap.size, 0, none⟩) xs.length xs.length] xs := by
  refine Rd.of_heap (w := w.alloc (.cells ds.toArray E)) ?_ e
  have hb : Below w.heap.size w (w.alloc (.cells ds.toArray E)) := (Below.refl _ _).alloc (Nat.le_refl _) _
  refine ⟨some ⟨w.heap.size, 0, none⟩, xs.length, ds, rfl, Nat.le_refl _, hn, by simp, ?_, .inr ⟨w.heap.size, 0, rfl, by simp, fun j u hj => ?_⟩⟩
  · exact (h.frame (fun b h1 _ => hb.block b h1)).mono (fun b h1 h2 => h2)
  · rw [Nat.zero_add, World.cell?_alloc_at _ _ _ _ rfl]
    simpa using hj

end Go.Proofs.YtacbkjmkjpjhoaaGreat
