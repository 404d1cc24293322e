/- Lemmas (14). -/
import Derived.Test.YtgngidchldajhaaGreatZA1
import Derived.Test.YtgngidchldajhaaGreatZA6
import Derived.Test.YtgngidchldajhaaGreatZA7
import Derived.Test.YtgngidchldajhaaGreatZA8
import Derived.Test.YtgngidchldajhaaGreatZA11
import Derived.Test.YtgngidchldajhaaGreatZA12
import Derived.Test.YtgngidchldajhaaGreatZA13
set_option linter.unusedSimpArgs false
set_option linter.unusedVariables false
namespace Go.Proofs.YtgngidchldajhaaGreat
open Go.RowKit
def totF (L:List (List Int × Int)):Nat→Int
 | 0 => 0
 | i + 1 => totF L i + (L.getD i ([],0)).2
def cntQ (t:List Int) (p:List Int × List Int):Nat→Nat
 | 0 => 0
 | k + 1 => cntQ t p k + (if Nat.beq (cutT t (k + 1)).length p.1.length = true then (if cutAt t (k + 1) = p then 1 else 0) else 0)
theorem cntQ_eq {t:List Int} (h:lev8 t = true) (p:List Int × List Int):∀ k,k < t.length→cntQ t p k = cntTo t p k
 | 0,_ => rfl
 | k + 1,hk => by
  unfold cntQ cntTo
  rw [cntQ_eq h p k (by omega)]
  by_cases e:Nat.beq (cutT t (k + 1)).length p.1.length = true
  ·rw [if_pos e]
  ·rw [if_neg e,if_neg]
   intro e2
   apply e
   rw [← e2]
   unfold cutAt
   rw [canon_len (lev8_lev (cuts_lev h (n:=k + 1) (by omega) hk).1)]
   exact Nat.beq_refl _
set_option maxRecDepth 100000
end Go.Proofs.YtgngidchldajhaaGreat
namespace Go.Proofs.YtgngidchldajhaaGreat
open Go.RowKit
theorem stepC_stepN (out:List (List Int × Int)) (x:List Int):stepC id out x = stepN cmpT out x:=by
 unfold stepC stepN
 cases out.getLast? with
 | none => rfl
 | some z =>
  show (if z.1 = x then _ else _) = (if cmpT z.1 x = 0 then _ else _)
  by_cases h:z.1 = x
  ·rw [if_pos h,if_pos (by rw [h];exact cmpT_cmp.refl x)]
  ·rw [if_neg h,if_neg (fun e => h (cmpT_cmp.zero _ _ e))]
theorem runsF_runsN (ts:List (List Int)):runsF id ts = runsN cmpT ts:=by
 unfold runsF runsN
 have:(stepC (id:List Int→List Int)) = stepN cmpT:=by funext o x;exact stepC_stepN o x
 rw [this]
theorem cntOf_is (ts:List (List Int)):IsN cmpT (cntOf ts) ts:=by
 unfold cntOf
 rw [runsF_runsN]
 exact runsN_sorted cmpT_cmp (sortC_perm _) (sortC_sorted cmpT_cmp _)
end Go.Proofs.YtgngidchldajhaaGreat
namespace Go.Proofs.YtgngidchldajhaaGreat
open Go.RowKit
def trunks (t:List Int):List (List Int):=(split t).flatMap (·.2)
def rsOf (t:List Int):List (List Int × Int) × Int:=if lev8 t = true then (cntOf (trunks t),0) else ([],1)
theorem trunks_b {t:List Int} (h:LevP t) (h8:t.length ≤ 8):(trunks t).length ≤ 256∧sumLen (trunks t) ≤ 2048:=by
 have hl:(split t).length ≤ 256:=by
  have h1:=split_len _ (Nat.le_refl _) h
  have h2:2 ^ t.length ≤ 2 ^ 8:=Nat.pow_le_pow_right (by decide) h8
  omega
 have key:∀ (L:List Spl),(∀ s ∈ L,s.2.length ≤ 1∧sumLen s.2 ≤ 8)→(L.flatMap (·.2)).length ≤ L.length∧sumLen (L.flatMap (·.2)) ≤ 8 * L.length:=by
  intro L
  induction L with
  | nil => intro _;exact ⟨Nat.le_refl _,Nat.zero_le _⟩
  | cons s L ih =>
   intro hL
   have h1:=hL s (by simp)
   have h2:=ih (fun x hx => hL x (by simp [hx]))
   rw [List.flatMap_cons,List.length_append,sumLen_append,List.length_cons]
   omega
 have:=key (split t) (fun s hs => ⟨split_trunk t h s hs,by have:=(split_good _ (Nat.le_refl _) h s hs).2;omega⟩)
 unfold trunks
 omega
theorem trunk_take {t:List Int} (i:Nat) (hi:i < (split t).length):((split t).take (i + 1)).flatMap (·.2) = ((split t).take i).flatMap (·.2) ++ (split t)[i].2:=by
 rw [List.take_succ_eq_append_getElem hi,List.flatMap_append];simp
theorem trunk_sub {t:List Int} (i:Nat):(((split t).take i).flatMap (·.2)).length ≤ (trunks t).length:=by
 have e:trunks t = ((split t).take i).flatMap (·.2) ++ ((split t).drop i).flatMap (·.2):=by
  unfold trunks
  rw [← List.flatMap_append,List.take_append_drop]
 rw [e,List.length_append];omega
end Go.Proofs.YtgngidchldajhaaGreat
