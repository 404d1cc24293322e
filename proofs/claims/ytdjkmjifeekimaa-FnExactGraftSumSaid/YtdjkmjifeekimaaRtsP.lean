/- The trees that the lists of one tree are turned to are the same; checked for all lists. -/
import Derived.Test.YtdjkmjifeekimaaPutQ
set_option linter.unusedSimpArgs false
set_option linter.unusedVariables false
namespace Go.Proofs.Ytdjkmjifeekimaa

/-- What is checked. -/
def rtsOk (t : List Int) : Bool := decide (cntOf (roots (canon t)) = sumOf (roots t))
theorem rts_check0 : (piece8 0).all rtsOk = true := by decide +kernel
theorem rts_check1 : (piece8 1).all rtsOk = true := by decide +kernel
theorem rts_check2 : (piece8 2).all rtsOk = true := by decide +kernel
theorem rts_check3 : (piece8 3).all rtsOk = true := by decide +kernel
theorem rts_check4 : (piece8 4).all rtsOk = true := by decide +kernel
theorem rts_check5 : (piece8 5).all rtsOk = true := by decide +kernel
theorem rts_check6 : (piece8 6).all rtsOk = true := by decide +kernel
theorem rts_check7 : (piece8 7).all rtsOk = true := by decide +kernel
theorem rts_check8 : (piece8 8).all rtsOk = true := by decide +kernel
theorem rts_check9 : (piece8 9).all rtsOk = true := by decide +kernel
theorem rts_check10 : (piece8 10).all rtsOk = true := by decide +kernel

theorem rts_check : lists8.all rtsOk = true := pieces_all fun i hi => by
  have h : i = 0 ∨ i = 1 ∨ i = 2 ∨ i = 3 ∨ i = 4 ∨ i = 5 ∨ i = 6 ∨ i = 7 ∨ i = 8 ∨ i = 9 ∨ i = 10 := by omega
  rcases h with rfl | rfl | rfl | rfl | rfl | rfl | rfl | rfl | rfl | rfl | rfl
  · exact rts_check0
  · exact rts_check1
  · exact rts_check2
  · exact rts_check3
  · exact rts_check4
  · exact rts_check5
  · exact rts_check6
  · exact rts_check7
  · exact rts_check8
  · exact rts_check9
  · exact rts_check10
theorem rts_eq {t : List Int} (h : lev8 t = true) : cntOf (roots (canon t)) = sumOf (roots t) := of_decide_eq_true (lev8_all rts_check h)
end Go.Proofs.Ytdjkmjifeekimaa
