/- Grafting at a node of a level list, plain. -/
import Derived.Test.YtdjkmjifeekimaaRootP
set_option linter.unusedSimpArgs false
set_option linter.unusedVariables false
namespace Go.Proofs.Ytdjkmjifeekimaa
open Go.RowKit

/-- The list in which v is grafted at a node of u. -/
def graftL (u : List Int) (n : Nat) (v : List Int) : List Int := u.take (endOf u n) ++ (v.map (· + (u.getD n 0 + 1)) ++ u.drop (endOf u n))

theorem LevP.head {t : List Int} (h : LevP t) : t.getD 0 0 = 0 := by
  have := h.zero h.pos
  have hp := h.pos
  simp [hp, this]

theorem LevP.get1 {t : List Int} (h : LevP t) {i : Nat} (h0 : 0 < i) (hi : i < t.length) : 1 ≤ t.getD i 0 := by
  obtain ⟨j, rfl⟩ : ∃ j, i = j + 1 := ⟨i - 1, by omega⟩
  have := (h.succ hi).1
  simpa [hi] using this

theorem endOf_root {t : List Int} (h : LevP t) : endOf t 0 = t.length := by
  refine endOf_eq (by have := h.pos; omega) (Nat.le_refl _) (fun j h1 h2 => ?_) (.inl rfl)
  rw [h.head]
  have := h.get1 h1 h2
  omega

theorem graftL_root {b u : List Int} (h : LevP b) : graftL b 0 u = b ++ u.map (· + 1) := by
  unfold graftL
  rw [endOf_root h, List.take_length, List.drop_length, List.append_nil, h.head]
  simp

theorem append_lev {b u : List Int} (hb : LevP b) (hu : LevP u) : LevP (b ++ u.map (· + 1)) := by
  have e : b ++ u.map (· + 1) = rootOn (brs b ++ [u]) := by rw [rootOn_snoc, rootOn_brs hb]
  rw [e]
  refine rootOn_lev fun c hc => ?_
  rcases List.mem_append.1 hc with hc | hc
  · exact brs_lev hb c hc
  · rw [List.mem_singleton] at hc; subst hc; exact hu

theorem cut_len {t : List Int} {n : Nat} (hn : n < t.length) : (cutB t n).length + (cutT t n).length = t.length := by
  have h1 : endOf t n ≤ t.length ∧ n + 1 ≤ endOf t n := by
    unfold endOf
    have := (List.takeWhile_sublist (fun l => decide (t.getD n 0 < l)) (l := t.drop (n + 1))).length_le
    rw [List.length_drop] at this
    omega
  unfold cutB cutT
  simp only [List.length_map, List.length_drop, List.length_take, List.length_append]
  omega

theorem par_check : lists8.all (fun t => (List.range t.length).all fun n => Nat.beq n 0 || (decide (0 ≤ parAt t n) && decide (t.getD (parAt t n).toNat 0 = t.getD n 0 - 1))) = true := by decide +kernel

theorem par_ok {t : List Int} (h : lev8 t = true) {n : Nat} (h0 : 0 < n) (hn : n < t.length) : 0 ≤ parAt t n ∧ t.getD (parAt t n).toNat 0 = t.getD n 0 - 1 := by
  have := List.all_eq_true.1 (lev8_all par_check h) n (List.mem_range.2 hn)
  rw [Bool.or_eq_true, Bool.and_eq_true, decide_eq_true_eq, decide_eq_true_eq] at this
  exact this.resolve_left (fun e => by have := Nat.eq_of_beq_eq_true e; omega)

theorem par_lt (t : List Int) (n : Nat) : parAt t n < n := (parS_lt t (t.getD n 0 - 1) n).2

theorem turnF_zero (f : Nat) (t : List Int) : turnF f t 0 = canon t := by cases f <;> rfl

theorem turnF_lev : ∀ (f : Nat) (t : List Int) (n : Nat), lev8 t = true → n < t.length → LevP (turnF f t n) ∧ (turnF f t n).length = t.length
  | 0, t, n, h, _ => ⟨canon_lev (lev8_lev h), canon_len (lev8_lev h)⟩
  | f + 1, t, n, h, hn => by
    by_cases h0 : n = 0
    · subst h0; rw [turnF_zero]; exact ⟨canon_lev (lev8_lev h), canon_len (lev8_lev h)⟩
    · have hc := cuts_lev h (by omega) hn
      have hp := par_ok h (by omega) hn
      have hp2 := par_lt t n
      have hl := cut_len hn
      have hlt : (parAt t n).toNat < (cutT t n).length := by
        unfold cutT
        rw [List.length_append, List.length_take]
        omega
      have ih := turnF_lev f (cutT t n) (parAt t n).toNat hc.1 hlt
      rw [turnF, if_neg h0]
      have hlv := append_lev (lev8_lev hc.2) ih.1
      refine ⟨canon_lev hlv, ?_⟩
      rw [canon_len hlv, List.length_append, List.length_map, ih.2]
      exact hl

theorem cutT_get {t : List Int} {n p : Nat} (hn : n < t.length) (hp : p < n) : (cutT t n).getD p 0 = t.getD p 0 := by
  unfold cutT
  rw [List.getD_eq_getElem?_getD, List.getD_eq_getElem?_getD, List.getElem?_append_left (by rw [List.length_take]; omega), List.getElem?_take_of_lt hp]
end Go.Proofs.Ytdjkmjifeekimaa
