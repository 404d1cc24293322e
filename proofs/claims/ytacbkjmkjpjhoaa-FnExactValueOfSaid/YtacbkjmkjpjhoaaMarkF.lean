/- Marks of lists of lists, by footprints. -/
import Derived.Test.YtacbkjmkjpjhoaaLens
set_option linter.unusedSimpArgs false
set_option linter.unusedVariables false
namespace Go.Proofs.Ytacbkjmkjpjhoaa
open Go.RowKit

/-- An inner row of numbers is written: nothing else turns. -/
theorem OwnF.innerRow {w : World} {v : Value} {xss : List (List Int)} {F : List Nat} (h : OwnF (RS (RS RI)) F w [v] xss) (i : Nat) (hi : i < xss.length) :
    ∃ g cap h0 og, v = .slice (some ⟨g, 0, none⟩) xss.length cap ∧ xss.length ≤ cap ∧ cap ≤ 9223372036854775807 ∧ w.cell? ⟨g, i, none⟩ = some h0 ∧ Row w h0 1 xss[i].length (xss[i].map (Value.int .i64)) og ∧
      ∀ (w' : World) (ys : List Int), w.grownBy w' og → ys.length = xss[i].length → (∀ x ∈ ys, In64 x) → Row w' h0 1 ys.length (ys.map (Value.int .i64)) og → OwnF (RS (RS RI)) F w' [v] (xss.set i ys) ∧ ChgF F w w' := by
  have hlt := h.lt
  have hnd := h.2
  obtain ⟨g, cap, d1, c, d2, F1, G, F2, hv, hc1, hc2, rfl, hcl, hd1, hx, hrow, hK⟩ := h.lens i hi
  obtain ⟨h0, og, ds, G', rfl, hr0, hel0, rfl⟩ := hx
  obtain ⟨k1, k2, k3⟩ := ownL_ints hel0
  subst k1; subst k2
  have hd1' : d1.length = i := by rw [hd1]; show i * 1 = i; omega
  have hcell : w.cell? ⟨g, i, none⟩ = some h0 := hrow.cells i h0 (by rw [List.getElem?_append_right (by omega), hd1']; simp)
  refine ⟨g, cap, h0, og, hv, hc1, hc2, hcell, hr0, fun w' ys hgr hyl hyb hr' => ?_⟩
  simp only [List.append_nil] at *
  have hn1 := List.nodup_cons.1 hnd
  have hog : ∀ b, og = some b → b ≠ g ∧ b ∉ F1 ++ F2 := by
    intro b hb
    subst hb
    refine ⟨fun e => hn1.1 (by simp [← e]), fun hm => ?_⟩
    have h2 := List.nodup_append.1 hn1.2
    rcases List.mem_append.1 hm with hm | hm
    · exact h2.2.2 b hm b (by simp) rfl
    · exact (List.nodup_append.1 h2.2.1).2.2 b (by simp) b hm rfl
  have hgb : w'.heap[g]? = w.heap[g]? := hgr.block g (hlt g (by simp)) (fun e => (hog g e.symm).1 rfl)
  have hrow1 : Row w' v 1 xss.length (d1 ++ ([h0] ++ d2)) (some g) := hrow.frame (fun g' hg' => by cases hg'; exact hgb)
  have hfr : ∀ b, b ∈ F1 ++ F2 → w'.heap[b]? = w.heap[b]? := by
    intro b hm
    refine hgr.block b (hlt b ?_) (fun e => (hog b e.symm).2 hm)
    rcases List.mem_append.1 hm with hm | hm
    · simp [hm]
    · simp [hm]
  exact ⟨hK _ [h0] ys og.toList rfl (hr'.ownI hyb) hfr hrow1 hnd, (ChgF.of_grown hgr).mono (fun b hb => by simp [Option.mem_toList.1 hb])⟩

end Go.Proofs.Ytacbkjmkjpjhoaa
