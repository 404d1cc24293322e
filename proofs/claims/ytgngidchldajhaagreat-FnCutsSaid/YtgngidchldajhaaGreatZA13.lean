/- Lemmas (13). -/
import Derived.Test.YtgngidchldajhaaGreatZA12
set_option linter.unusedSimpArgs false
set_option linter.unusedVariables false
namespace Go.Proofs.YtgngidchldajhaaGreat
open Go.RowKit
def cutAt (t:List Int) (n:Nat):List Int × List Int:=(canon (cutT t n),canon (cutB t n))
def cntTo (t:List Int) (p:List Int × List Int):Nat→Nat
 | 0 => 0
 | k + 1 => cntTo t p k + (if cutAt t (k + 1) = p then 1 else 0)
theorem cntTo_count (t:List Int) (p:List Int × List Int):∀ k,cntTo t p k = ((List.range k).map fun n => cutAt t (n + 1)).countP (fun q => decide (q = p))
 | 0 => rfl
 | k + 1 => by
  rw [List.range_succ,List.map_append,List.countP_append,← cntTo_count t p k]
  by_cases h:cutAt t (k + 1) = p
  ·simp [cntTo,h]
  ·simp [cntTo,h]
theorem cntTo_le (t:List Int) (p:List Int × List Int):∀ k,cntTo t p k ≤ k
 | 0 => Nat.le_refl _
 | k + 1 => by
  have:=cntTo_le t p k
  unfold cntTo
  split <;> omega
theorem cuts_perm_check:lists8.all (fun t => ((List.range (t.length - 1)).map fun n => cutAt t (n + 1)).isPerm ((List.range (t.length - 1)).map fun n => cutAt (canon t) (n + 1))) = true:=by decide +kernel
theorem cntTo_canon {t:List Int} (h:lev8 t = true) (p:List Int × List Int):cntTo (canon t) p (t.length - 1) = cntTo t p (t.length - 1):=by
 rw [cntTo_count,cntTo_count]
 exact ((List.isPerm_iff.1 (lev8_all cuts_perm_check h)).countP_eq _).symm
def cctOf (t a b:List Int):Int × Int:=if (lev8 t && lev8 a && lev8 b) = true then (((cntTo t (canon a,canon b) (t.length - 1):Nat):Int),(0:Int)) else (0,1)
theorem cctOf_ok {t a b:List Int} (h:(lev8 t && lev8 a && lev8 b) = true):cctOf t a b = (((cntTo t (canon a,canon b) (t.length - 1):Nat):Int),(0:Int)):=by unfold cctOf;rw [if_pos h]
theorem cctOf_bad {t a b:List Int} (h:(lev8 t && lev8 a && lev8 b) = false):cctOf t a b = (0,1):=by unfold cctOf;rw [if_neg (by simp [h])]
end Go.Proofs.YtgngidchldajhaaGreat
