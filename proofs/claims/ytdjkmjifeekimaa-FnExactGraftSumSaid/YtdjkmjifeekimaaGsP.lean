/- The graftings at all nodes of a tree are the same for all of its lists; checked for all lists. -/
import Derived.Test.YtdjkmjifeekimaaPutQ
import Derived.Test.YtdjkmjifeekimaaGraftCk
set_option linter.unusedSimpArgs false
set_option linter.unusedVariables false
namespace Go.Proofs.Ytdjkmjifeekimaa

/-- All graftings of v at nodes of u. -/
def grs (u v : List Int) : List (List Int) := (List.range u.length).map fun n => canon (graftL u n v)
/-- What is checked. -/
def gsOk (u : List Int) : Bool := (listsTo (8 - u.length)).all fun v => ((List.range u.length).all fun n => levQ (graftL u n v)) && decide (cntOf (grs (canon u) v) = sumOf (grs u v))
theorem gs_check0 : (levels 0).all gsOk = true := by decide +kernel
theorem gs_check1 : (levels 1).all gsOk = true := by decide +kernel
theorem gs_check2 : (levels 2).all gsOk = true := by decide +kernel
theorem gs_check3 : (levels 3).all gsOk = true := by decide +kernel
theorem gs_check4 : (levels 4).all gsOk = true := by decide +kernel
theorem gs_check5 : (levels 5).all gsOk = true := by decide +kernel
theorem gs_check6 : (levels 6).all gsOk = true := by decide +kernel

theorem gs_ok {u v : List Int} (hu : lev8 u = true) (hv : lev8 v = true) (h : u.length + v.length ≤ 8) : (∀ n, n < u.length → lev8 (graftL u n v) = true) ∧ cntOf (grs (canon u) v) = sumOf (grs u v) := by
  have hup := (lev8_lev hu).pos
  have hvp := (lev8_lev hv).pos
  have hk : gsOk u = true := by
    have hc : ∀ k, k < 7 → (levels k).all gsOk = true := fun k hk => by
      have h : k = 0 ∨ k = 1 ∨ k = 2 ∨ k = 3 ∨ k = 4 ∨ k = 5 ∨ k = 6 := by omega
      rcases h with rfl | rfl | rfl | rfl | rfl | rfl | rfl
      · exact gs_check0
      · exact gs_check1
      · exact gs_check2
      · exact gs_check3
      · exact gs_check4
      · exact gs_check5
      · exact gs_check6
    exact List.all_eq_true.1 (hc (u.length - 1) (by omega)) u (mem_levels (u.length - 1) u (lev8_lev hu) (by omega))
  have h2 := List.all_eq_true.1 hk v (mem_listsTo (lev8_lev hv) (by omega))
  rw [Bool.and_eq_true, decide_eq_true_eq] at h2
  exact ⟨fun n hn => levQ_lev8 (List.all_eq_true.1 h2.1 n (List.mem_range.2 hn)), h2.2⟩
end Go.Proofs.Ytdjkmjifeekimaa
