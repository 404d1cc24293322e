/- The Butcher product of a list is that of the canonical list; plain. -/
import Derived.Test.YtmeijcgclllldaaGraftP
namespace Go.Proofs.Ytmeijcgclllldaa
open Go.RowKit

theorem graft_canon {u v : List Int} (hu : LevP u) (hv : LevP v) : canon (graftL u 0 v) = canon (graftL (canon u) 0 v) := by
  have e1 : graftL u 0 v = rootOn (brs u ++ [v]) := by rw [graftL_root hu, rootOn_snoc, rootOn_brs hu]
  have hb : ∀ b ∈ brs u, LevP b := brs_lev hu
  have hS : ∀ b ∈ sortC cmpD ((brs u).map canon), LevP b := by
    intro b hb'
    obtain ⟨c, hc, rfl⟩ := List.mem_map.1 (sortC_mem.1 hb')
    exact canon_lev (hb c hc)
  have hcu : canon u = rootOn (sortC cmpD ((brs u).map canon)) := canon_eq hu
  have e2 : graftL (canon u) 0 v = rootOn (sortC cmpD ((brs u).map canon) ++ [v]) := by rw [graftL_root (canon_lev hu), rootOn_snoc, ← hcu]
  have l1 : ∀ b ∈ brs u ++ [v], LevP b := by
    intro b hb'
    rcases List.mem_append.1 hb' with h | h
    · exact hb b h
    · rw [List.mem_singleton] at h; subst h; exact hv
  have l2 : ∀ b ∈ sortC cmpD ((brs u).map canon) ++ [v], LevP b := by
    intro b hb'
    rcases List.mem_append.1 hb' with h | h
    · exact hS b h
    · rw [List.mem_singleton] at h; subst h; exact hv
  rw [e1, e2, canon_eq (rootOn_lev l1), canon_eq (rootOn_lev l2), brs_rootOn l1, brs_rootOn l2]
  congr 1
  refine sortC_congr cmpD_cmp ?_
  rw [List.map_append, List.map_append]
  refine List.Perm.append_right _ ?_
  have h1 : ((sortC cmpD ((brs u).map canon)).map canon).Perm (((brs u).map canon).map canon) := (sortC_perm _).map _
  have h2 : ((brs u).map canon).map canon = (brs u).map canon := by
    rw [List.map_map]
    refine List.map_congr_left fun b hb' => ?_
    exact canon_idem (hb b hb')
  rw [h2] at h1
  exact h1.symm
end Go.Proofs.Ytmeijcgclllldaa
