/- Lemmas (29). -/
import Derived.Test.YtgngidchldajhaaZA6
import Derived.Test.YtgngidchldajhaaZA12
import Derived.Test.YtgngidchldajhaaZA27
import Derived.Test.YtgngidchldajhaaZA28
set_option linter.unusedSimpArgs false
set_option linter.unusedVariables false
namespace Go.Proofs.Ytgngidchldajhaa
open Go.RowKit
def neg9 (L:List (List Int × Int)):List (List Int × Int):=L.map fun p => (p.1,-p.2)
def gsB (u v:List Int):Bool:=decide ((gsOf u v).2 = 0) && decide ((gsOf u v).1.length ≤ 8) && (gsOf u v).1.all (fun p => decide (p.1.length ≤ 8) && decide (1 ≤ p.2) && decide (p.2 ≤ 8)) && decide (u.length ≤ 8) && decide (v.length ≤ 8)
def gr9B (left right:List (List Int × Int)):Bool:=decide (left.length ≤ 8) && decide (right.length ≤ 8) && left.all (fun l => decide (0 ≤ l.2) && decide (l.2 ≤ 8)) && right.all (fun l => decide (0 ≤ l.2) && decide (l.2 ≤ 8)) && left.all fun l => right.all fun r => gsB l.1 r.1
theorem gr9B_ok {left right:List (List Int × Int)} (h:gr9B left right = true) {k:Int} (hk:k = 1 ∨ k = -1):Gr9 left right k:=by
 unfold gr9B at h
 simp only [Bool.and_eq_true,decide_eq_true_eq,List.all_eq_true] at h
 obtain ⟨⟨⟨⟨h1,h2⟩,h3⟩,h4⟩,h5⟩:=h
 refine ⟨by omega,by omega,fun l hl r hr => ?_,h3,h4,hk⟩
 have k:=h5 l hl r hr
 unfold gsB at k
 simp only [Bool.and_eq_true,decide_eq_true_eq,List.all_eq_true] at k
 obtain ⟨⟨⟨⟨k1,k2⟩,k3⟩,k4⟩,k5⟩:=k
 exact ⟨k1,k2,fun p hp => by have:=k3 p hp;exact ⟨this.1.1,this.1.2,this.2⟩,k4,k5⟩
def plM (u v w:List Int):List (List Int × Int):=add9 (add9 [] (pairs9 (gsOf u v).1 [(w,1)] 1)) (pairs9 [(u,1)] (gsOf v w).1 (-1))
def plG (u v w:List Int):List (List Int × Int):=(gfOf u (forOf [v,w]).1).1
def plOK (u v w:List Int):Bool :=
 decide ((gsOf u v).2 = 0) && decide ((gsOf v w).2 = 0) && decide ((forOf [v,w]).2 = 0) && decide ((gfOf u (forOf [v,w]).1).2 = 0) && !(plG u v w).isEmpty && decide ((plG u v w).length ≤ 64) &&
  (plG u v w).all (fun p => decide (p.1.length ≤ 8) && decide (0 ≤ p.2) && decide (p.2 ≤ 512)) && gr9B (gsOf u v).1 [(w,1)] && gr9B [(u,1)] (gsOf v w).1 &&
  decide ((forOf [v,w]).1.length ≤ 8) && decide (sumLen (forOf [v,w]).1 ≤ 8) && (add9 (plM u v w) (neg9 (plG u v w))).all fun p => decide (p.2 = 0)
def plAll (a b c:Nat):Bool:=(levels a).all fun u => (levels b).all fun v => (levels c).all fun w => plOK u v w
set_option maxRecDepth 100000 in
theorem pl_check:((List.range 3).all fun a => (List.range 3).all fun b => (List.range 2).all fun c => plAll a b c) = true:=by decide +kernel
structure PlF (u v w:List Int):Prop where
 g1:(gsOf u v).2 = 0
 g2:(gsOf v w).2 = 0
 fo:(forOf [v,w]).2 = 0
 gf:(gfOf u (forOf [v,w]).1).2 = 0
 pos:1 ≤ (plG u v w).length
 len:(plG u v w).length ≤ 64
 all:∀ p ∈ plG u v w,p.1.length ≤ 8∧0 ≤ p.2∧p.2 ≤ 512
 r1:Gr9 (gsOf u v).1 [(w,1)] 1
 r2:Gr9 [(u,1)] (gsOf v w).1 (-1)
 fl:(forOf [v,w]).1.length ≤ 8
 fs:sumLen (forOf [v,w]).1 ≤ 8
 l1:(gsOf u v).1.length ≤ 8
 l2:(gsOf v w).1.length ≤ 8
 zero:∀ p ∈ add9 (plM u v w) (neg9 (plG u v w)),p.2 = 0
theorem pl_all {u v w:List Int} {a b c:Nat} (hu:TOk a u) (hv:TOk b v) (hw:TOk c w) (h1:u.length ≤ 3) (h2:v.length ≤ 3) (h3:w.length ≤ 2):PlF u v w:=by
 have pu:=List.length_pos_iff.2 hu.pos
 have pv:=List.length_pos_iff.2 hv.pos
 have pw:=List.length_pos_iff.2 hw.pos
 have hg:plOK u v w = true:=by
  have k:=List.all_eq_true.1 (List.all_eq_true.1 (List.all_eq_true.1 pl_check (u.length - 1) (List.mem_range.2 (by omega))) (v.length - 1) (List.mem_range.2 (by omega))) (w.length - 1) (List.mem_range.2 (by omega))
  exact List.all_eq_true.1 (List.all_eq_true.1 (List.all_eq_true.1 k u (mem_levels _ u hu.lev (by omega))) v (mem_levels _ v hv.lev (by omega))) w (mem_levels _ w hw.lev (by omega))
 unfold plOK at hg
 simp only [Bool.and_eq_true,decide_eq_true_eq,List.all_eq_true,Bool.not_eq_true'] at hg
 obtain ⟨⟨⟨⟨⟨⟨⟨⟨⟨⟨⟨k1,k2⟩,k3⟩,k4⟩,k5⟩,k6⟩,k7⟩,k8⟩,k9⟩,k10⟩,k11⟩,k12⟩:=hg
 have l1:(gsOf u v).1.length ≤ 8:=by
  unfold gr9B at k8
  simp only [Bool.and_eq_true,decide_eq_true_eq] at k8
  exact k8.1.1.1.1
 have l2:(gsOf v w).1.length ≤ 8:=by
  unfold gr9B at k9
  simp only [Bool.and_eq_true,decide_eq_true_eq] at k9
  exact k9.1.1.1.2
 refine ⟨k1,k2,k3,k4,?_,k6,fun p hp => by have:=k7 p hp;exact ⟨this.1.1,this.1.2,this.2⟩,gr9B_ok k8 (.inl rfl),gr9B_ok k9 (.inr rfl),k10,k11,l1,l2,k12⟩
 cases e:plG u v w with
 | nil => rw [e] at k5;simp at k5
 | cons a t => simp
theorem forOf_in (xs:List (List Int)):In64 (forOf xs).2:=by unfold forOf;split <;> (try split) <;> (unfold In64;simp)
theorem a_impl_ForestOf9 (xs:List (List Int)) (hsz:szII xs):AFn Try.prog 10 [eLL xs] (· = [.own 1 ((forOf xs).1.map eL) true,.val (.int (forOf xs).2)]) :=
 AFn.of_oc (encS encI) (forOf_in xs) (enters_of Try.func10 rfl rfl) (fun w A vs h => by
  obtain ⟨v,us,rfl,h1,h2⟩:=h
  have h2:us = []:=h2
  subst h2
  exact k_impl_ForestOf v xs w (Rd.of (rdLL h1)) hsz)
end Go.Proofs.Ytgngidchldajhaa
