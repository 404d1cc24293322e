/- Symmetries and densities of trees with at most eight nodes are positive. -/
import Derived.Test.YtmeijcgclllldaaLab
namespace Go.Proofs.Ytmeijcgclllldaa
set_option maxRecDepth 100000 in
theorem labPos_all : lists8.all (fun t => decide (0 < symF 9 t) && decide (0 < densF 9 t)) = true := by decide +kernel

theorem labPos {t : List Int} (h : lev8 t = true) : 0 < symF 9 t ∧ 0 < densF 9 t := by
  have := lev8_all labPos_all h
  simpa using this
end Go.Proofs.Ytmeijcgclllldaa
