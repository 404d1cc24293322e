/- Lists of structs of a number and a list: reading, writing; the laws' functions on parts. -/
import Derived.Test.YtdjkmjifeekimaaMarkF
import Derived.Test.YtdjkmjifeekimaaReg
set_option linter.unusedSimpArgs false
set_option linter.unusedVariables false
namespace Go.Proofs.Ytdjkmjifeekimaa
open Go.RowKit

section
variable {β : Type} {S : Rep β} {w : World}

theorem OwnF.partAt {v : Value} {xs : List (Int × β)} {F : List Nat} (h : OwnF (RS (RP RI S)) F w [v] xs) (hS : S.k = 1) (i : Nat) (hi : i < xs.length) :
    ∃ g cap s G, v = .slice (some ⟨g, 0, none⟩) xs.length cap ∧ xs.length ≤ cap ∧ cap ≤ 9223372036854775807 ∧ g < w.heap.size ∧ w.cell? ⟨g, i * 2, none⟩ = some (.int .i64 xs[i].1) ∧ w.cell? ⟨g, i * 2 + 1, none⟩ = some s ∧ w.frozen? ⟨g, i * 2, none⟩ = false ∧
      OwnF S G w [s] xs[i].2 ∧ (∀ b, b ∈ G → b ∈ F ∧ b ≠ g) ∧
      (∀ n, In64 n → OwnF (RS (RP RI S)) F (w.setCell ⟨g, i * 2, none⟩ (.int .i64 n)) [v] (xs.set i (n, xs[i].2)) ∧ ChgF F w (w.setCell ⟨g, i * 2, none⟩ (.int .i64 n))) ∧
      (∀ (w' : World) (y : β), OwnF S G w' [s] y → ChgF G w w' → OwnF (RS (RP RI S)) F w' [v] (xs.set i (xs[i].1, y)) ∧ ChgF F w w') := by
  have hlt := h.lt
  have hnd := h.2
  have hk2 : (RP RI S).k = 2 := by show 1 + S.k = 2; omega
  obtain ⟨g, cap, d1, c, d2, F1, G0, F2, hv, hc1, hc2, rfl, hcl, hd1, hx, hrow, hK⟩ := h.lens i hi
  rw [hk2] at hd1 hrow
  have hx0 := hx
  obtain ⟨c1, c2, Ga, G, rfl, rfl, ⟨⟨rfl, hb⟩, rfl⟩, hs⟩ := hx0
  have hsl := S.rd_len (S.own_rd hs)
  rw [hS] at hsl
  match c2, hsl with
  | [s], _ =>
  simp only [List.nil_append] at *
  have hn1 := List.nodup_cons.1 hnd
  have hn2 := List.nodup_append.1 hn1.2
  have hn3 := List.nodup_append.1 hn2.2.1
  have e1 : d1 ++ ([Value.int IntKind.i64 xs[i].1] ++ [s] ++ d2) = d1 ++ (Value.int IntKind.i64 xs[i].1 :: s :: d2) := by simp
  have g1 : w.cell? ⟨g, i * 2, none⟩ = some (.int .i64 xs[i].1) := hrow.cells (i * 2) _ (by rw [e1, List.getElem?_append_right (by omega), hd1]; simp)
  have g2 : w.cell? ⟨g, i * 2 + 1, none⟩ = some s := hrow.cells (i * 2 + 1) _ (by rw [e1, List.getElem?_append_right (by omega), hd1]; simp)
  have hGF : ∀ b, b ∈ G → b ∈ g :: (F1 ++ (G ++ F2)) ∧ b ≠ g := fun b hb => ⟨by simp [hb], fun e => hn1.1 (by subst e; simp [hb])⟩
  refine ⟨g, cap, s, G, hv, hc1, hc2, hlt g (by simp), g1, g2, hrow.frozen _, ⟨hs, hn3.1⟩, hGF, ?_, ?_⟩
  · intro n hn
    obtain ⟨hst, hgr⟩ := hrow.store (i * 2) (.int .i64 n)
    have hset : (d1 ++ ([Value.int IntKind.i64 xs[i].1] ++ [s] ++ d2)).set (i * 2) (.int .i64 n) = d1 ++ ([Value.int IntKind.i64 n] ++ [s] ++ d2) := by
      rw [List.set_append_right _ _ (by omega), hd1, Nat.sub_self]; rfl
    rw [hset] at hst
    have hfr : ∀ b, b ≠ g → (w.setCell ⟨g, i * 2, none⟩ (.int .i64 n)).heap[b]? = w.heap[b]? := fun b hb => heap_setCell_other w ⟨g, i * 2, none⟩ b _ hb
    refine ⟨hK _ [.int .i64 n, s] (n, xs[i].2) G (by rw [hk2]; rfl) ⟨[.int .i64 n], [s], [], G, rfl, rfl, ⟨⟨rfl, hn⟩, rfl⟩, S.own_frame hs (fun b hb => hfr b (hGF b hb).2)⟩ (fun b hb => hfr b ?_) (by rw [hk2]; exact hst) hnd, (ChgF.of_grown hgr).mono (fun b hb => by simp at hb; simp [hb])⟩
    intro e
    subst e
    rcases List.mem_append.1 hb with h | h
    · exact hn1.1 (by simp [h])
    · exact hn1.1 (by simp [h])
  · intro w' y hy hch
    have hfr : ∀ b, b ∈ F1 ++ F2 → w'.heap[b]? = w.heap[b]? := by
      intro b hm
      refine hch.block b (hlt b ?_) ?_
      · rcases List.mem_append.1 hm with hm | hm
        · simp [hm]
        · simp [hm]
      · intro hG
        rcases List.mem_append.1 hm with hm | hm
        · exact hn2.2.2 b hm b (by simp [hG]) rfl
        · exact hn3.2.2 b hG b hm rfl
    have hrow' : Row w' v 2 xs.length (d1 ++ ([Value.int IntKind.i64 xs[i].1] ++ [s] ++ d2)) (some g) := hrow.frame (fun g' hg' => by cases hg'; exact hch.block g (hlt g (by simp)) (fun e => (hGF g e).2 rfl))
    exact ⟨hK _ [.int .i64 xs[i].1, s] (xs[i].1, y) G (by rw [hk2]; rfl) ⟨[.int .i64 xs[i].1], [s], [], G, rfl, rfl, ⟨⟨rfl, hb⟩, rfl⟩, hy.1⟩ hfr (by rw [hk2]; exact hrow') hnd, hch.mono (fun b hb => (hGF b hb).1)⟩

theorem Rd.partAt {v : Value} {xs : List (Int × β)} (h : Rd (RS (RP RI S)) w [v] xs) (hS : S.k = 1) (i : Nat) (hi : i < xs.length) :
    ∃ b off cap s, v = .slice (some ⟨b, off, none⟩) xs.length cap ∧ b < w.heap.size ∧ w.cell? ⟨b, off + i * 2, none⟩ = some (.int .i64 xs[i].1) ∧ w.cell? ⟨b, off + i * 2 + 1, none⟩ = some s ∧ In64 xs[i].1 ∧ Rd S w [s] xs[i].2 := by
  have hk2 : (RP RI S).k = 2 := by show 1 + S.k = 2; omega
  obtain ⟨oa, cap, ds, h1, h2, h3, h4, h5, h6⟩ := h
  simp only [List.cons.injEq, and_true] at h1
  subst h1
  obtain ⟨c, hc, hpos⟩ := h5.get i hi
  rw [hk2] at hpos
  obtain ⟨c1, c2, rfl, ⟨rfl, hb⟩, hs⟩ := hc
  have hsl := S.rd_len hs
  rw [hS] at hsl
  match c2, hsl with
  | [s], _ =>
  rcases h6 with h6 | ⟨b, off, rfl, hbl, hcell⟩
  · have := h5.len
    rw [h6, hk2] at this
    simp at this
    omega
  · refine ⟨b, off, cap, s, rfl, hbl, hcell _ _ (hpos 0 _ rfl), (by rw [Nat.add_assoc]; exact hcell _ _ (hpos 1 _ rfl)), hb, Rd.of hs⟩
end

abbrev RPart : Rep (Int × List (List Int)) := RP RI (RS (RS RI))

/-- How many numbers parts hold; the parts with running numbers. -/
def cnt_P : List (Int × List (List Int)) → Nat
  | [] => 0
  | p :: ps => 1 + cnt_II p.2 + cnt_P ps
def mkd_P : List (Int × List (List Int)) → Int → List (Int × List (List Int))
  | [], _ => []
  | p :: ps, k => (k, mkd_II p.2 (k + 1)) :: mkd_P ps (k + 1 + cnt_II p.2)

theorem mkd_P_len : ∀ (ps : List (Int × List (List Int))) (k : Int), (mkd_P ps k).length = ps.length
  | [], _ => rfl
  | p :: ps, k => by simp [mkd_P, mkd_P_len ps]

theorem mkd_P_get : ∀ (ps : List (Int × List (List Int))) (k : Int) (i : Nat) (h : i < ps.length), (mkd_P ps k)[i]'(by rw [mkd_P_len]; exact h) = (k + cnt_P (ps.take i), mkd_II ps[i].2 (k + cnt_P (ps.take i) + 1))
  | p :: ps, k, 0, h => by simp [mkd_P, cnt_P]
  | p :: ps, k, i + 1, h => by
    simp only [mkd_P, List.getElem_cons_succ, List.take_succ_cons]
    rw [mkd_P_get ps _ i (by simpa using h)]
    simp only [cnt_P]
    have e : k + 1 + (cnt_II p.2 : Int) + (cnt_P (ps.take i) : Nat) = k + ((1 + cnt_II p.2 + cnt_P (ps.take i) : Nat) : Int) := by omega
    rw [e]

theorem cnt_P_append : ∀ (ps qs : List (Int × List (List Int))), cnt_P (ps ++ qs) = cnt_P ps + cnt_P qs
  | [], qs => by simp [cnt_P]
  | p :: ps, qs => by simp only [List.cons_append, cnt_P, cnt_P_append ps qs]; omega

theorem cnt_P_take_succ (ps : List (Int × List (List Int))) (k : Nat) (h : k < ps.length) : cnt_P (ps.take (k + 1)) = cnt_P (ps.take k) + (1 + cnt_II ps[k].2) := by
  rw [List.take_succ_eq_append_getElem h, cnt_P_append]; simp [cnt_P]

theorem cnt_P_take (ps : List (Int × List (List Int))) (k : Nat) : cnt_P (ps.take k) ≤ cnt_P ps := by
  have : cnt_P (ps.take k ++ ps.drop k) = cnt_P ps := by rw [List.take_append_drop]
  rw [cnt_P_append] at this
  omega


theorem ChgF.toChg {F : List Nat} {w w' : World} {lo hi : Nat} (h : ChgF F w w') (hF : ∀ b, b ∈ F → lo ≤ b ∧ b < hi) : Chg lo hi w w' :=
  ⟨h.os, h.tape, h.output, h.size, fun k hk hne => h.block k hk (fun e => by have := hF k e; omega)⟩




end Go.Proofs.Ytdjkmjifeekimaa
