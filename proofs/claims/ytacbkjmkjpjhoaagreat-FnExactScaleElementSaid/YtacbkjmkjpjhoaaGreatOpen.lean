/- From the form's reading of an argument to ours: what a statement's arguments hold, as Lean data. -/
import Derived.Test.YtacbkjmkjpjhoaaGreatBase
import Derived.ProofKit
import Derived.Deep.Slices
import Derived.OpenShut
set_option linter.unusedSimpArgs false
set_option linter.unusedVariables false
namespace Go.Proofs.YtacbkjmkjpjhoaaGreat
open Go.RowKit

/-- Whatever reads as data of type T reads by R. -/
def Opens {α : Type} (P : Program) (R : Rep α) (T : TypeId) : Prop :=
  ∀ (H : Type) (enc : TypeId × Value → H) (w : World) (base : Nat) (spare : Nat → Bool) (held : Bool) (fuel : Nat) (cs : List Value) (x : DataW H × List MemPlace),
    DataW.trod enc P w base spare held fuel T cs = some x → ∃ y, Rd R w cs y

theorem Opens.int {P : Program} {T : TypeId} (ht : P.underlying T = some (.int .i64)) : Opens P RI T := by
  intro H enc w base spare held fuel cs x h
  obtain ⟨n, rfl, _, hw⟩ := DataW.trod_int ht h
  exact ⟨n, rfl, bounds_i64 hw⟩

theorem Opens.slice {α : Type} {P : Program} {R : Rep α} {T E : TypeId} (ht : P.underlying T = some (.slice E)) (hk : P.cellsOf E = R.k) (hE : Opens P R E) : Opens P (RS R) T := by
  intro H enc w base spare held fuel cs x h
  rcases Deep.open_slice ht h with ⟨rfl, _⟩ | ⟨a, len, cap, m, n, D, Pl, rfl, _, hl, hm, hmm, _, hx⟩
  · exact ⟨[], none, 0, [], rfl, Nat.le_refl _, by decide, fun _ => rfl, rfl, .inl rfl⟩
  · have hlm : len ≤ m := by rw [hmm]; split <;> omega
    have key : ∀ k, k ≤ len → ∃ (ds : List Value) (ys : List α), ys.length = k ∧ rdL R (fun b => b < w.heap.size) w ds ys ∧ ∀ j u, ds[j]? = some u → w.cell? (a.add j) = some u := by
      intro k
      induction k with
      | zero => intro _; exact ⟨[], [], rfl, rfl, fun j u h => by simp at h⟩
      | succ k ih =>
        intro hk'
        obtain ⟨ds, ys, h1, h2, h3⟩ := ih (by omega)
        obtain ⟨c, hc1, hc2⟩ := hx k (by omega)
        obtain ⟨y, hy⟩ := hE H enc w base spare held n c _ hc2
        obtain ⟨_, hc3, hc4⟩ := World.cells?_some hc1
        refine ⟨ds ++ c, ys ++ [y], by simp [h1], h2.append (rdL.single hy), fun j u hj => ?_⟩
        have hdl := h2.len
        rw [h1] at hdl
        by_cases hjd : j < ds.length
        · rw [List.getElem?_append_left hjd] at hj; exact h3 j u hj
        · rw [List.getElem?_append_right (by omega)] at hj
          have hjc : j - ds.length < R.k := by
            have := (List.getElem?_eq_some_iff.1 hj).1
            rw [hc3, hk] at this; exact this
          have h5 := hc4 (j - ds.length) (by rw [hk]; exact hjc)
          rw [hk, ← hdl, Deep.add_add, show ds.length + (j - ds.length) = j by omega] at h5
          rw [h5]; exact hj
    obtain ⟨ds, ys, h1, h2, h3⟩ := key len (Nat.le_refl _)
    subst h1
    refine ⟨ys, some a, cap, ds, rfl, hl, hm, by simp, h2, ?_⟩
    cases ds with
    | nil => exact .inl rfl
    | cons d ds =>
      have h0 := h3 0 d rfl
      obtain ⟨b, off, spot⟩ := a
      have hs : spot = none := by
        cases spot with
        | none => rfl
        | some s => simp [Addr.add, World.cell?] at h0; split at h0 <;> simp at h0
      subst hs
      refine .inr ⟨b, off, rfl, ?_, fun j u hj => ?_⟩
      · have := World.block_lt_of_cell? w _ h0
        simpa [Addr.add] using this
      · have := h3 j u hj
        rwa [Addr.add_lit] at this

/-- The reading of a slice argument: its value. -/
theorem Rd.slice_val {α : Type} {R : Rep α} {w : World} {v : Value} {xs : List α} (h : Rd (RS R) w [v] xs) : ∃ oa cap, v = .slice oa xs.length cap ∧ xs.length ≤ cap ∧ cap ≤ maxLen := by
  obtain ⟨oa, cap, ds, h1, h2, h3, _⟩ := h
  exact ⟨oa, cap, by simpa using h1, h2, h3⟩

theorem in64_of_wf {n : Int} (h : (Lit.int .i64 n).wf = true) : In64 n := by
  exact bounds_i64 h

theorem opI64 : Opens Tryz.prog RI 2 := Opens.int Tryz.underlying2
theorem opI64S : Opens Tryz.prog (RS RI) 48 := Opens.slice Tryz.underlying48 (by kernel_rfl) opI64
theorem opI64SS : Opens Tryz.prog (RS (RS RI)) 50 := Opens.slice Tryz.underlying50 (by kernel_rfl) opI64S
end Go.Proofs.YtacbkjmkjpjhoaaGreat
