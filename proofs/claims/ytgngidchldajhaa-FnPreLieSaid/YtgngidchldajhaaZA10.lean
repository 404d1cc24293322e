/- Lemmas (10). -/
import Derived.Test.YtgngidchldajhaaZA4
import Derived.Test.YtgngidchldajhaaZA5
import Derived.Test.YtgngidchldajhaaZA6
import Derived.Test.YtgngidchldajhaaZA7
import Derived.Test.YtgngidchldajhaaZA8
import Derived.Test.YtgngidchldajhaaZA9
set_option linter.unusedSimpArgs false
set_option linter.unusedVariables false
namespace Go.Proofs.Ytgngidchldajhaa
open Go.RowKit
end Go.Proofs.Ytgngidchldajhaa
namespace Go.Proofs.Ytgngidchldajhaa
open Go.RowKit
def frOf (t:List Int):List Int × Int:=if lev8 t = true then (freeT (canon t),0) else ([],1)
end Go.Proofs.Ytgngidchldajhaa
namespace Go.Proofs.Ytgngidchldajhaa
open Go.RowKit
def asfOf (s t:List Int):Bool × Int:=if (lev8 s && lev8 t) = true then (decide (freeT (canon s) = freeT (canon t)),0) else (false,1)
end Go.Proofs.Ytgngidchldajhaa
namespace Go.Proofs.Ytgngidchldajhaa
def canT (t:List Int):Bool:=lev8 t && decide (canon t = t)
def okT (f:List (List Int)) (i:Nat):Bool:=canT (f.getD i []) && (decide (i = 0) || decide (cmpT (f.getD (i - 1) []) (f.getD i []) ≤ 0))
def forB (f:List (List Int)):Bool:=decide (sumLen f ≤ 8) && (List.range f.length).all (okT f)
theorem all_range {n:Nat} {p:Nat→Bool}:(List.range n).all p = true ↔ ∀ i < n,p i = true:=by
 rw [List.all_eq_true]
 exact ⟨fun h i hi => h i (List.mem_range.2 hi),fun h i hi => h i (List.mem_range.1 hi)⟩
theorem all_range_no {n i:Nat} {p:Nat→Bool} (hi:i < n) (h:p i = false):(List.range n).all p = false:=by
 rcases hq:(List.range n).all p with _|_
 ·rfl
 ·rw [all_range.1 hq i hi] at h;cases h
theorem adj_pairwise {α:Type} {r:α→α→Prop} (ht:∀ a b d,r a b→r b d→r a d):∀ {l:List α},(∀ i (h:i + 1 < l.length),r l[i] l[i + 1])→l.Pairwise r
 | [],_ => List.Pairwise.nil
 | [a],_ => List.pairwise_singleton _ _
 | a :: b :: l,h => by
  have ih:=adj_pairwise ht (l:=b :: l) (fun i hi => h (i + 1) (by simp at hi ⊢;omega))
  refine List.pairwise_cons.2 ⟨fun x hx => ?_,ih⟩
  have h0:r a b:=h 0 (by simp)
  rcases List.mem_cons.1 hx with rfl|hx
  ·exact h0
  ·exact ht a b x h0 ((List.pairwise_cons.1 ih).1 x hx)
theorem getD_at {α:Type} {l:List α} {d:α} {i:Nat} (h:i < l.length):l.getD i d = l[i]:=by
 rw [List.getD_eq_getElem?_getD,List.getElem?_eq_getElem h];rfl
theorem forB_spec {f:List (List Int)} (h:forB f = true):sumLen f ≤ 8∧(∀ t ∈ f,canT t = true)∧f.Pairwise fun a b => cmpT a b ≤ 0:=by
 unfold forB at h
 rw [Bool.and_eq_true,all_range] at h
 refine ⟨of_decide_eq_true h.1,fun t ht => ?_,adj_pairwise (fun a b d => cmpT_cmp.trans a b d) (fun i hi => ?_)⟩
 ·obtain ⟨i,hi,rfl⟩:=List.getElem_of_mem ht
  have:=h.2 i hi
  unfold okT at this
  rw [Bool.and_eq_true,getD_at hi] at this
  exact this.1
 ·have:=h.2 (i + 1) hi
  unfold okT at this
  rw [Bool.and_eq_true,Bool.or_eq_true,getD_at hi,Nat.add_sub_cancel,getD_at (show i < f.length by omega)] at this
  rcases this.2 with h1|h1
  ·have:=of_decide_eq_true h1;omega
  ·exact of_decide_eq_true h1
end Go.Proofs.Ytgngidchldajhaa
namespace Go.Proofs.Ytgngidchldajhaa
open Go.RowKit
theorem forB_lev {f:List (List Int)} (h:forB f = true):∀ b ∈ f,LevP b:=fun b hb => by
 have:=(forB_spec h).2.1 b hb
 unfold canT at this
 rw [Bool.and_eq_true] at this
 exact lev8_lev this.1
theorem forB_can {f:List (List Int)} (h:forB f = true):∀ b ∈ f,canon b = b:=fun b hb => by
 have:=(forB_spec h).2.1 b hb
 unfold canT at this
 rw [Bool.and_eq_true] at this
 exact of_decide_eq_true this.2
end Go.Proofs.Ytgngidchldajhaa
namespace Go.Proofs.Ytgngidchldajhaa
open Go.RowKit
theorem a_impl_IsTree (t:List Int):AFn Try.prog 23 [eL t] (· = [.val (.bool (canT t))]):=by
 have h1:=a_impl_IsLevels t
 unfold canT
 cases h8:lev8 t
 ·rw [h8] at h1
  rw [Bool.false_and]
  refine AFn.of_runs (cfg_ok 11) Try.func23 rfl rfl rfl (by simp only [List.length_cons,List.length_nil];decide) ?_
  have hres:Try.f23.results.toList = [.tmp 2]:=rfl
  have hrts:Try.f23.resultTypes.toList = [4]:=rfl
  simp only [argRegs,argAV1,eL,eI,eLL,eB,Nat.zero_add,Nat.reduceAdd]
  intro M
  refine RunK.of ?_
  repeat' (first|with_reducible (first|refine Q1 ?_|refine Q2 ?_|refine Q3 ?_|refine Q4 ?_|refine Q5 ?_|refine Q6 ?_|refine Q7 ?_|refine Q8 ?_|refine Q9 ?_|refine Qa ?_|refine Qb ?_|refine Qc ?_|refine Qd ?_|refine Qe ?_|refine Qf ?_)|((with_reducible refine Qo ?_ ?_);focus rfl)|((with_reducible first|refine QT 3 (l:=?_) ?_ ?_|refine QF 3 (l:=?_) ?_ ?_);rotate_left 1;focus (simp only [Zu,Nat.reduceSub,Nat.reduceBEq];with_reducible rfl))|((with_reducible first|refine QS (cfg_ok 11) (Tab.none.at' 19 h1) (s':=?_) ?_ ?_|refine QC (b:=?_) ?_ ?_);rotate_left 1;focus ((with_reducible refine QW ?_);simp only [Zg,seval,if_true,if_false,reduceCtorEq,Nat.reduceEqDiff,eL];with_reducible rfl)))
  (refine Ends.mk (by simp) (rs:=?_) (ks:=?_) hres hrts ?_ ?_ ?_;rotate_left 2;(focus (simp only [Ze,Zg,seval,if_true,if_false,reduceCtorEq,Nat.reduceEqDiff];with_reducible rfl));(focus simp);focus (first|with_reducible rfl|(simp only [Zv];done)))
 ·rw [h8] at h1
  rw [Bool.true_and]
  have h2:=a_canonical t (lev8_lev h8) (lev8_len h8)
  have h3:=a_slicesEqual (canon t) t
  refine AFn.of_runs (cfg_ok 11) Try.func23 rfl rfl rfl (by simp only [List.length_cons,List.length_nil];decide) ?_
  have hres:Try.f23.results.toList = [.tmp 2]:=rfl
  have hrts:Try.f23.resultTypes.toList = [4]:=rfl
  simp only [argRegs,argAV1,eL,eI,eLL,eB,Nat.zero_add,Nat.reduceAdd]
  intro M
  refine RunK.of ?_
  repeat' (first|with_reducible (first|refine Q1 ?_|refine Q2 ?_|refine Q3 ?_|refine Q4 ?_|refine Q5 ?_|refine Q6 ?_|refine Q7 ?_|refine Q8 ?_|refine Q9 ?_|refine Qa ?_|refine Qb ?_|refine Qc ?_|refine Qd ?_|refine Qe ?_|refine Qf ?_)|((with_reducible refine Qo ?_ ?_);focus rfl)|((with_reducible first|refine QT 3 (l:=?_) ?_ ?_|refine QF 3 (l:=?_) ?_ ?_);rotate_left 1;focus (simp only [Zu,Nat.reduceSub,Nat.reduceBEq];with_reducible rfl))|((with_reducible first|refine QS (cfg_ok 11) (((Tab.none.at' 19 h1).at' 49 h2).at' 67 h3) (s':=?_) ?_ ?_|refine QC (b:=?_) ?_ ?_);rotate_left 1;focus ((with_reducible refine QW ?_);simp only [Zg,seval,if_true,if_false,reduceCtorEq,Nat.reduceEqDiff,eL];with_reducible rfl)))
  (refine Ends.mk (by simp) (rs:=?_) (ks:=?_) hres hrts ?_ ?_ ?_;rotate_left 2;(focus (simp only [Ze,Zg,seval,if_true,if_false,reduceCtorEq,Nat.reduceEqDiff];with_reducible rfl));(focus simp);focus (first|with_reducible rfl|(simp only [Zv];done)))
theorem a_spec_IsTree (t:List Int) (hsz:t.length ≤ 1048576):AFn Try.prog 97 [eL t] (· = [.val (.bool (canT t))]):=by
 have h1:=a_spec_l03Is t hsz
 unfold canT
 cases h8:lev8 t
 ·rw [h8] at h1
  rw [Bool.false_and]
  refine AFn.of_runs (cfg_ok 11) Try.func97 rfl rfl rfl (by simp only [List.length_cons,List.length_nil];decide) ?_
  have hres:Try.f97.results.toList = [.tmp 2]:=rfl
  have hrts:Try.f97.resultTypes.toList = [4]:=rfl
  simp only [argRegs,argAV1,eL,eI,eLL,eB,Nat.zero_add,Nat.reduceAdd]
  intro M
  refine RunK.of ?_
  repeat' (first|with_reducible (first|refine Q1 ?_|refine Q2 ?_|refine Q3 ?_|refine Q4 ?_|refine Q5 ?_|refine Q6 ?_|refine Q7 ?_|refine Q8 ?_|refine Q9 ?_|refine Qa ?_|refine Qb ?_|refine Qc ?_|refine Qd ?_|refine Qe ?_|refine Qf ?_)|((with_reducible refine Qo ?_ ?_);focus rfl)|((with_reducible first|refine QT 3 (l:=?_) ?_ ?_|refine QF 3 (l:=?_) ?_ ?_);rotate_left 1;focus (simp only [Zu,Nat.reduceSub,Nat.reduceBEq];with_reducible rfl))|((with_reducible first|refine QS (cfg_ok 11) (Tab.none.at' 56 h1) (s':=?_) ?_ ?_|refine QC (b:=?_) ?_ ?_);rotate_left 1;focus ((with_reducible refine QW ?_);simp only [Zg,seval,if_true,if_false,reduceCtorEq,Nat.reduceEqDiff,eL];with_reducible rfl)))
  (refine Ends.mk (by simp) (rs:=?_) (ks:=?_) hres hrts ?_ ?_ ?_;rotate_left 2;(focus (simp only [Ze,Zg,seval,if_true,if_false,reduceCtorEq,Nat.reduceEqDiff];with_reducible rfl));(focus simp);focus (first|with_reducible rfl|(simp only [Zv];done)))
 ·rw [h8] at h1
  rw [Bool.true_and]
  have h2:=a_l03Canon t (lev8_lev h8) (lev8_len h8)
  have h3:=a_l01Same (canon t) t
  refine AFn.of_runs (cfg_ok 11) Try.func97 rfl rfl rfl (by simp only [List.length_cons,List.length_nil];decide) ?_
  have hres:Try.f97.results.toList = [.tmp 2]:=rfl
  have hrts:Try.f97.resultTypes.toList = [4]:=rfl
  simp only [argRegs,argAV1,eL,eI,eLL,eB,Nat.zero_add,Nat.reduceAdd]
  intro M
  refine RunK.of ?_
  repeat' (first|with_reducible (first|refine Q1 ?_|refine Q2 ?_|refine Q3 ?_|refine Q4 ?_|refine Q5 ?_|refine Q6 ?_|refine Q7 ?_|refine Q8 ?_|refine Q9 ?_|refine Qa ?_|refine Qb ?_|refine Qc ?_|refine Qd ?_|refine Qe ?_|refine Qf ?_)|((with_reducible refine Qo ?_ ?_);focus rfl)|((with_reducible first|refine QT 3 (l:=?_) ?_ ?_|refine QF 3 (l:=?_) ?_ ?_);rotate_left 1;focus (simp only [Zu,Nat.reduceSub,Nat.reduceBEq];with_reducible rfl))|((with_reducible first|refine QS (cfg_ok 11) (((Tab.none.at' 56 h1).at' 64 h2).at' 98 h3) (s':=?_) ?_ ?_|refine QC (b:=?_) ?_ ?_);rotate_left 1;focus ((with_reducible refine QW ?_);simp only [Zg,seval,if_true,if_false,reduceCtorEq,Nat.reduceEqDiff,eL];with_reducible rfl)))
  (refine Ends.mk (by simp) (rs:=?_) (ks:=?_) hres hrts ?_ ?_ ?_;rotate_left 2;(focus (simp only [Ze,Zg,seval,if_true,if_false,reduceCtorEq,Nat.reduceEqDiff];with_reducible rfl));(focus simp);focus (first|with_reducible rfl|(simp only [Zv];done)))
noncomputable def TFor:Tab Try.prog :=
 ((Tab.none.add 23 (tab1 codL fun t => some [.val (.bool (canT t))]) (tab1_ok fun t rs h => by cases h;exact a_impl_IsTree t)).add
   63 (tab2 codL codL fun xs ys => some [.val (.int (cmpT xs ys))]) (tab2_ok fun xs ys rs h => by cases h;exact a_compareTrees xs ys)).add
   51 (tab1 codLL fun f => some [.val (.int (nodesB f))]) (tab1_ok fun f rs h => by cases h;exact a_nodesIn f)
noncomputable def TForS:Tab Try.prog :=
 ((Tab.none.add 97 (tab1 codL fun t => if t.length ≤ 1048576 then some [.val (.bool (canT t))] else none) (tab1_ok fun t rs h => by split at h;cases h;exact a_spec_IsTree t ‹_›;cases h)).add
   65 (tab2 codL codL fun xs ys => some [.val (.bool (decide (cmpT xs ys < 0)))]) (tab2_ok fun xs ys rs h => by cases h;exact a_l03Before xs ys)).add
   58 (tab1 codLL fun f => some [.val (.int (nodesB f))]) (tab1_ok fun f rs h => by cases h;exact a_l03Nodes f)
theorem all_range_succ {n:Nat} {p:Nat→Bool} (h:(List.range n).all p = true) (h2:p n = true):(List.range (n + 1)).all p = true :=
 all_range.2 (fun i hi => by
  by_cases e:i = n
  ·rw [e];exact h2
  ·exact all_range.1 h i (by omega))
set_option maxHeartbeats 4000000 in
theorem a_impl_IsForest (f:List (List Int)) (hsz:sumLen f ≤ 1000000000) (hln:f.length ≤ 1000000000):AFn Try.prog 25 [eLL f] (· = [.val (.bool (forB f))]):=by
 have hn:nodesB f = sumLen f:=nodesB_eq f (by omega)
 refine AFn.of_runs (cfg_ok 33) Try.func25 rfl rfl rfl (by simp only [List.length_cons,List.length_nil];decide) ?_
 have hres:Try.f25.results.toList = [.tmp 2]:=rfl
 have hrts:Try.f25.resultTypes.toList = [4]:=rfl
 simp only [argRegs,argAV1,eL,eI,eLL,eB,Nat.zero_add,Nat.reduceAdd]
 intro M
 refine RunK.of ?_
 by_cases h8:sumLen f ≤ 8
 ·have i8:((sumLen f:Int) > 8) = False:=eq_false (by omega)
  repeat' (first|with_reducible (first|refine Q1 ?_|refine Q2 ?_|refine Q3 ?_|refine Q4 ?_|refine Q5 ?_|refine Q6 ?_|refine Q7 ?_|refine Q8 ?_|refine Q9 ?_|refine Qa ?_|refine Qb ?_|refine Qc ?_|refine Qd ?_|refine Qe ?_|refine Qf ?_)|((with_reducible refine Qo ?_ ?_);focus rfl)|((with_reducible first|refine QT 11 (l:=?_) ?_ ?_|refine QF 11 (l:=?_) ?_ ?_);rotate_left 1;focus (simp only [Zu,Nat.reduceSub,Nat.reduceBEq];with_reducible rfl))|((with_reducible first|refine QS (cfg_ok 33) TFor (s':=?_) ?_ ?_|refine QC (b:=?_) ?_ ?_);rotate_left 1;focus ((with_reducible refine QW ?_);simp only [Zg,seval,if_true,if_false,reduceCtorEq,Nat.reduceEqDiff,TFor,hn,i8,eL];with_reducible rfl)))
  refine RunK.loop (β:=Nat) (γ:=Unit) (fun i => ⟨[(0,.c (.val (.sl 1 (f.map eL)))),(8,.c (.val (.sl 1 (f.map eL)))),(9,.c (.val (.int f.length))),(10,.c (.val (.int i)))],[]⟩) (fun i => i ≤ f.length∧(List.range i).all (okT f) = true) (fun i => f.length - i)
   (fun _ => ⟨[],[]⟩) (fun _ => (List.range f.length).all (okT f) = true) 0 ⟨Nat.zero_le _,rfl⟩ ?_ ?_ ?_
  ·(repeat' (first|with_reducible refine Qn|((with_reducible refine Qr ?_ ?_);focus (first|with_reducible rfl|(simp only [Zz,Nat.reduceBEq];done)|rfl))|((with_reducible refine Qj (o':=?_) ?_ ?_ ?_);rotate_left 1;focus rfl)|((with_reducible refine Qw ?_ ?_);(focus (first|with_reducible rfl|(simp only [Zv];done)));focus (first|exact id|exact (fun h => nomatch h)|exact (fun _ => rfl)))))
  ·rintro i ⟨hi,hall⟩
   have hw:=w64_succ (n:=i) (by omega)
   by_cases h:i < f.length
   ·have i1:((i:Int) < (f.length:Int)) = True:=eq_true (by omega)
    have i2:((0:Int) ≤ (i:Int)) = True:=eq_true (by omega)
    obtain ⟨t,ht⟩:∃ t,t = f[i]:=⟨_,rfl⟩
    have hg:(f.map eL)[i]? = some [.sl 1 (t.map eI)]:=by rw [map_get h,ht];rfl
    have hgd:f.getD i [] = t:=by rw [getD_at h,ht]
    by_cases hc:canT t = true
    ·by_cases h0:i = 0
     ·have j1:((i:Int) > 0) = False:=eq_false (by omega)
      have hok:okT f i = true:=by unfold okT;rw [hgd,hc,h0];rfl
      repeat' (first|with_reducible (first|refine Q1 ?_|refine Q2 ?_|refine Q3 ?_|refine Q4 ?_|refine Q5 ?_|refine Q6 ?_|refine Q7 ?_|refine Q8 ?_|refine Q9 ?_|refine Qa ?_|refine Qb ?_|refine Qc ?_|refine Qd ?_|refine Qe ?_|refine Qf ?_)|((with_reducible refine Qo ?_ ?_);focus rfl)|((with_reducible first|refine QT 11 (l:=?_) ?_ ?_|refine QF 11 (l:=?_) ?_ ?_);rotate_left 1;focus (simp only [Zu,Nat.reduceSub,Nat.reduceBEq];with_reducible rfl))|((with_reducible first|refine QS (cfg_ok 33) TFor (s':=?_) ?_ ?_|refine QC (b:=?_) ?_ ?_);rotate_left 1;focus ((with_reducible refine QW ?_);simp only [Zg,seval,if_true,if_false,reduceCtorEq,Nat.reduceEqDiff,TFor,i1,i2,hg,hw,hc,j1,Int.toNat_natCast,List.length_map];with_reducible rfl)))
      refine roundK.on (i + 1) ⟨⟨h,all_range_succ hall hok⟩,by omega⟩ ?_
      (repeat' (first|with_reducible refine Qn|((with_reducible refine Qr ?_ ?_);focus (first|with_reducible rfl|(simp only [Zz,Nat.reduceBEq];done)|rfl))|((with_reducible refine Qj (o':=?_) ?_ ?_ ?_);rotate_left 1;focus rfl)|((with_reducible refine Qw ?_ ?_);(focus (first|with_reducible rfl|(simp only [Zv];done)));focus (first|exact id|exact (fun h => nomatch h)|exact (fun _ => rfl)))))
     ·have j1:((i:Int) > 0) = True:=eq_true (by omega)
      have hw1:w64 ((i:Int) - 1) = ((i - 1:Nat):Int):=by rw [w64_eq (by omega)];omega
      have i3:((0:Int) ≤ ((i - 1:Nat):Int)) = True:=eq_true (by omega)
      have i4:(((i - 1:Nat):Int) < (f.length:Int)) = True:=eq_true (by omega)
      obtain ⟨s,hs⟩:∃ s,s = f[i - 1]:=⟨_,rfl⟩
      have hgs:(f.map eL)[i - 1]? = some [.sl 1 (s.map eI)]:=by rw [map_get (by omega),hs];rfl
      have hgds:f.getD (i - 1) [] = s:=by rw [getD_at (by omega),hs]
      by_cases hk:cmpT s t > 0
      ·have hok:okT f i = false:=by unfold okT;rw [hgd,hgds,hc,decide_eq_false h0,decide_eq_false (by omega)];rfl
       have hB:forB f = false:=by unfold forB;rw [all_range_no h hok,Bool.and_false]
       have k1:(cmpT s t > 0) = True:=eq_true hk
       rw [hB]
       repeat' (first|with_reducible (first|refine Q1 ?_|refine Q2 ?_|refine Q3 ?_|refine Q4 ?_|refine Q5 ?_|refine Q6 ?_|refine Q7 ?_|refine Q8 ?_|refine Q9 ?_|refine Qa ?_|refine Qb ?_|refine Qc ?_|refine Qd ?_|refine Qe ?_|refine Qf ?_)|((with_reducible refine Qo ?_ ?_);focus rfl)|((with_reducible first|refine QT 11 (l:=?_) ?_ ?_|refine QF 11 (l:=?_) ?_ ?_);rotate_left 1;focus (simp only [Zu,Nat.reduceSub,Nat.reduceBEq];with_reducible rfl))|((with_reducible first|refine QS (cfg_ok 33) TFor (s':=?_) ?_ ?_|refine QC (b:=?_) ?_ ?_);rotate_left 1;focus ((with_reducible refine QW ?_);simp only [Zg,seval,if_true,if_false,reduceCtorEq,Nat.reduceEqDiff,TFor,i1,i2,i3,i4,hg,hgs,hw,hw1,hc,j1,k1,Int.toNat_natCast,List.length_map];with_reducible rfl)))
       refine roundK.ret ?_
       repeat' (first|with_reducible (first|refine Q1 ?_|refine Q2 ?_|refine Q3 ?_|refine Q4 ?_|refine Q5 ?_|refine Q6 ?_|refine Q7 ?_|refine Q8 ?_|refine Q9 ?_|refine Qa ?_|refine Qb ?_|refine Qc ?_|refine Qd ?_|refine Qe ?_|refine Qf ?_)|((with_reducible refine Qo ?_ ?_);focus rfl)|((with_reducible first|refine QT 11 (l:=?_) ?_ ?_|refine QF 11 (l:=?_) ?_ ?_);rotate_left 1;focus (simp only [Zu,Nat.reduceSub,Nat.reduceBEq];with_reducible rfl))|((with_reducible first|refine QS (cfg_ok 33) TFor (s':=?_) ?_ ?_|refine QC (b:=?_) ?_ ?_);rotate_left 1;focus ((with_reducible refine QW ?_);simp only [Zg,seval,if_true,if_false,reduceCtorEq,Nat.reduceEqDiff,TFor];with_reducible rfl)))
       (refine Ends.mk (by simp) (rs:=?_) (ks:=?_) hres hrts ?_ ?_ ?_;rotate_left 2;(focus (simp only [Ze,Zg,seval,if_true,if_false,reduceCtorEq,Nat.reduceEqDiff];with_reducible rfl));(focus simp);focus (first|with_reducible rfl|(simp only [Zv];done)))
      ·have hok:okT f i = true:=by unfold okT;rw [hgd,hgds,hc,decide_eq_true (show cmpT s t ≤ 0 by omega),Bool.or_true];rfl
       have k1:(cmpT s t > 0) = False:=eq_false hk
       repeat' (first|with_reducible (first|refine Q1 ?_|refine Q2 ?_|refine Q3 ?_|refine Q4 ?_|refine Q5 ?_|refine Q6 ?_|refine Q7 ?_|refine Q8 ?_|refine Q9 ?_|refine Qa ?_|refine Qb ?_|refine Qc ?_|refine Qd ?_|refine Qe ?_|refine Qf ?_)|((with_reducible refine Qo ?_ ?_);focus rfl)|((with_reducible first|refine QT 11 (l:=?_) ?_ ?_|refine QF 11 (l:=?_) ?_ ?_);rotate_left 1;focus (simp only [Zu,Nat.reduceSub,Nat.reduceBEq];with_reducible rfl))|((with_reducible first|refine QS (cfg_ok 33) TFor (s':=?_) ?_ ?_|refine QC (b:=?_) ?_ ?_);rotate_left 1;focus ((with_reducible refine QW ?_);simp only [Zg,seval,if_true,if_false,reduceCtorEq,Nat.reduceEqDiff,TFor,i1,i2,i3,i4,hg,hgs,hw,hw1,hc,j1,k1,Int.toNat_natCast,List.length_map];with_reducible rfl)))
       refine roundK.on (i + 1) ⟨⟨h,all_range_succ hall hok⟩,by omega⟩ ?_
       (repeat' (first|with_reducible refine Qn|((with_reducible refine Qr ?_ ?_);focus (first|with_reducible rfl|(simp only [Zz,Nat.reduceBEq];done)|rfl))|((with_reducible refine Qj (o':=?_) ?_ ?_ ?_);rotate_left 1;focus rfl)|((with_reducible refine Qw ?_ ?_);(focus (first|with_reducible rfl|(simp only [Zv];done)));focus (first|exact id|exact (fun h => nomatch h)|exact (fun _ => rfl)))))
    ·have hc:canT t = false:=by simpa using hc
     have hok:okT f i = false:=by unfold okT;rw [hgd,hc,Bool.false_and]
     have hB:forB f = false:=by unfold forB;rw [all_range_no h hok,Bool.and_false]
     rw [hB]
     repeat' (first|with_reducible (first|refine Q1 ?_|refine Q2 ?_|refine Q3 ?_|refine Q4 ?_|refine Q5 ?_|refine Q6 ?_|refine Q7 ?_|refine Q8 ?_|refine Q9 ?_|refine Qa ?_|refine Qb ?_|refine Qc ?_|refine Qd ?_|refine Qe ?_|refine Qf ?_)|((with_reducible refine Qo ?_ ?_);focus rfl)|((with_reducible first|refine QT 11 (l:=?_) ?_ ?_|refine QF 11 (l:=?_) ?_ ?_);rotate_left 1;focus (simp only [Zu,Nat.reduceSub,Nat.reduceBEq];with_reducible rfl))|((with_reducible first|refine QS (cfg_ok 33) TFor (s':=?_) ?_ ?_|refine QC (b:=?_) ?_ ?_);rotate_left 1;focus ((with_reducible refine QW ?_);simp only [Zg,seval,if_true,if_false,reduceCtorEq,Nat.reduceEqDiff,TFor,i1,i2,hg,hw,hc,Int.toNat_natCast,List.length_map];with_reducible rfl)))
     refine roundK.ret ?_
     repeat' (first|with_reducible (first|refine Q1 ?_|refine Q2 ?_|refine Q3 ?_|refine Q4 ?_|refine Q5 ?_|refine Q6 ?_|refine Q7 ?_|refine Q8 ?_|refine Q9 ?_|refine Qa ?_|refine Qb ?_|refine Qc ?_|refine Qd ?_|refine Qe ?_|refine Qf ?_)|((with_reducible refine Qo ?_ ?_);focus rfl)|((with_reducible first|refine QT 11 (l:=?_) ?_ ?_|refine QF 11 (l:=?_) ?_ ?_);rotate_left 1;focus (simp only [Zu,Nat.reduceSub,Nat.reduceBEq];with_reducible rfl))|((with_reducible first|refine QS (cfg_ok 33) TFor (s':=?_) ?_ ?_|refine QC (b:=?_) ?_ ?_);rotate_left 1;focus ((with_reducible refine QW ?_);simp only [Zg,seval,if_true,if_false,reduceCtorEq,Nat.reduceEqDiff,TFor];with_reducible rfl)))
     (refine Ends.mk (by simp) (rs:=?_) (ks:=?_) hres hrts ?_ ?_ ?_;rotate_left 2;(focus (simp only [Ze,Zg,seval,if_true,if_false,reduceCtorEq,Nat.reduceEqDiff];with_reducible rfl));(focus simp);focus (first|with_reducible rfl|(simp only [Zv];done)))
   ·have i1:((i:Int) < (f.length:Int)) = False:=eq_false (by omega)
    obtain rfl:i = f.length:=by omega
    repeat' (first|with_reducible (first|refine Q1 ?_|refine Q2 ?_|refine Q3 ?_|refine Q4 ?_|refine Q5 ?_|refine Q6 ?_|refine Q7 ?_|refine Q8 ?_|refine Q9 ?_|refine Qa ?_|refine Qb ?_|refine Qc ?_|refine Qd ?_|refine Qe ?_|refine Qf ?_)|((with_reducible refine Qo ?_ ?_);focus rfl)|((with_reducible first|refine QT 11 (l:=?_) ?_ ?_|refine QF 11 (l:=?_) ?_ ?_);rotate_left 1;focus (simp only [Zu,Nat.reduceSub,Nat.reduceBEq];with_reducible rfl))|((with_reducible first|refine QS (cfg_ok 33) TFor (s':=?_) ?_ ?_|refine QC (b:=?_) ?_ ?_);rotate_left 1;focus ((with_reducible refine QW ?_);simp only [Zg,seval,if_true,if_false,reduceCtorEq,Nat.reduceEqDiff,TFor,i1];with_reducible rfl)))
    refine roundK.out () hall ?_
    (repeat' (first|with_reducible refine Qn|((with_reducible refine Qr ?_ ?_);focus (first|with_reducible rfl|(simp only [Zz,Nat.reduceBEq];done)|rfl))|((with_reducible refine Qj (o':=?_) ?_ ?_ ?_);rotate_left 1;focus rfl)|((with_reducible refine Qw ?_ ?_);(focus (first|with_reducible rfl|(simp only [Zv];done)));focus (first|exact id|exact (fun h => nomatch h)|exact (fun _ => rfl)))))
  ·rintro _ hall
   have hB:forB f = true:=by unfold forB;rw [hall,decide_eq_true h8];rfl
   rw [hB]
   repeat' (first|with_reducible (first|refine Q1 ?_|refine Q2 ?_|refine Q3 ?_|refine Q4 ?_|refine Q5 ?_|refine Q6 ?_|refine Q7 ?_|refine Q8 ?_|refine Q9 ?_|refine Qa ?_|refine Qb ?_|refine Qc ?_|refine Qd ?_|refine Qe ?_|refine Qf ?_)|((with_reducible refine Qo ?_ ?_);focus rfl)|((with_reducible first|refine QT 11 (l:=?_) ?_ ?_|refine QF 11 (l:=?_) ?_ ?_);rotate_left 1;focus (simp only [Zu,Nat.reduceSub,Nat.reduceBEq];with_reducible rfl))|((with_reducible first|refine QS (cfg_ok 33) TFor (s':=?_) ?_ ?_|refine QC (b:=?_) ?_ ?_);rotate_left 1;focus ((with_reducible refine QW ?_);simp only [Zg,seval,if_true,if_false,reduceCtorEq,Nat.reduceEqDiff,TFor];with_reducible rfl)))
   (refine Ends.mk (by simp) (rs:=?_) (ks:=?_) hres hrts ?_ ?_ ?_;rotate_left 2;(focus (simp only [Ze,Zg,seval,if_true,if_false,reduceCtorEq,Nat.reduceEqDiff];with_reducible rfl));(focus simp);focus (first|with_reducible rfl|(simp only [Zv];done)))
 ·have i8:((sumLen f:Int) > 8) = True:=eq_true (by omega)
  have hB:forB f = false:=by unfold forB;rw [decide_eq_false h8,Bool.false_and]
  rw [hB]
  repeat' (first|with_reducible (first|refine Q1 ?_|refine Q2 ?_|refine Q3 ?_|refine Q4 ?_|refine Q5 ?_|refine Q6 ?_|refine Q7 ?_|refine Q8 ?_|refine Q9 ?_|refine Qa ?_|refine Qb ?_|refine Qc ?_|refine Qd ?_|refine Qe ?_|refine Qf ?_)|((with_reducible refine Qo ?_ ?_);focus rfl)|((with_reducible first|refine QT 11 (l:=?_) ?_ ?_|refine QF 11 (l:=?_) ?_ ?_);rotate_left 1;focus (simp only [Zu,Nat.reduceSub,Nat.reduceBEq];with_reducible rfl))|((with_reducible first|refine QS (cfg_ok 33) TFor (s':=?_) ?_ ?_|refine QC (b:=?_) ?_ ?_);rotate_left 1;focus ((with_reducible refine QW ?_);simp only [Zg,seval,if_true,if_false,reduceCtorEq,Nat.reduceEqDiff,TFor,hn,i8,eL];with_reducible rfl)))
  (refine Ends.mk (by simp) (rs:=?_) (ks:=?_) hres hrts ?_ ?_ ?_;rotate_left 2;(focus (simp only [Ze,Zg,seval,if_true,if_false,reduceCtorEq,Nat.reduceEqDiff];with_reducible rfl));(focus simp);focus (first|with_reducible rfl|(simp only [Zv];done)))
end Go.Proofs.Ytgngidchldajhaa
namespace Go.Proofs.Ytgngidchldajhaa
open Go.RowKit
theorem getD_ltn {l:List Int} {i:Nat} (h:i < l.length):l.getD i 0 = l[i]:=by rw [List.getD_eq_getElem?_getD,List.getElem?_eq_getElem h];rfl
theorem mapI_get {l:List Int} {i:Nat} (h:i < l.length):(l.map eI)[i]? = some [.int (l.getD i 0)]:=by rw [List.getElem?_map,List.getElem?_eq_getElem h,getD_ltn h];rfl
set_option maxHeartbeats 4000000 in
theorem a_likeInts (xs ys:List Int) (hsz:xs.length ≤ 1000000000):AFn Try.prog 22 [eL xs,eL ys] (· = [.val (.bool (decide (xs = ys)))]):=by
 have hx:(xs.map eI).length = xs.length:=List.length_map _
 have hy:(ys.map eI).length = ys.length:=List.length_map _
 by_cases hl:xs.length = ys.length
 rotate_left
 ·have hne:xs ≠ ys:=fun e => hl (by rw [e])
  have b:(((xs.length:Nat):Int) != ((ys.length:Nat):Int)) = true:=bne_iff_ne.2 (by omega)
  rw [decide_eq_false hne]
  refine AFn.of_runs (cfg_ok 26) Try.func22 rfl rfl rfl (by simp only [List.length_cons,List.length_nil];decide) ?_
  have hres:Try.f22.results.toList = [.tmp 4]:=rfl
  have hrts:Try.f22.resultTypes.toList = [4]:=rfl
  simp only [argRegs,argAV1,eL,eI,eLL,eB,Nat.zero_add,Nat.reduceAdd]
  intro M
  refine RunK.of ?_
  repeat' (first|with_reducible (first|refine Q1 ?_|refine Q2 ?_|refine Q3 ?_|refine Q4 ?_|refine Q5 ?_|refine Q6 ?_|refine Q7 ?_|refine Q8 ?_|refine Q9 ?_|refine Qa ?_|refine Qb ?_|refine Qc ?_|refine Qd ?_|refine Qe ?_|refine Qf ?_)|((with_reducible refine Qo ?_ ?_);focus rfl)|((with_reducible first|refine QT 6 (l:=?_) ?_ ?_|refine QF 6 (l:=?_) ?_ ?_);rotate_left 1;focus (simp only [Zu,Nat.reduceSub,Nat.reduceBEq];with_reducible rfl))|((with_reducible first|refine QS (cfg_ok 26) Tab.none (s':=?_) ?_ ?_|refine QC (b:=?_) ?_ ?_);rotate_left 1;focus ((with_reducible refine QW ?_);simp only [Zg,seval,if_true,if_false,reduceCtorEq,Nat.reduceEqDiff,b,hx,hy];with_reducible rfl))|((with_reducible refine QD (cfg_ok 26) Tab.none mixed_ok (tr:=?_) (s':=?_) ?_ ?_ ?_);rotate_left 2;(focus ((with_reducible refine QW ?_);simp only [Zg,Zd,seval,if_true,if_false,reduceCtorEq,Nat.reduceEqDiff,b,hx,hy];with_reducible rfl));focus ((with_reducible refine QK ?_);simp only [Zk];kernel_rfl)))
  (refine Ends.mk (by simp) (rs:=?_) (ks:=?_) hres hrts ?_ ?_ ?_;rotate_left 2;(focus (simp only [Ze,Zg,seval,if_true,if_false,reduceCtorEq,Nat.reduceEqDiff];with_reducible rfl));(focus simp);focus (first|with_reducible rfl|(simp only [Zv];done)))
 have b:(((ys.length:Nat):Int) != ((ys.length:Nat):Int)) = false:=by simp
 refine AFn.of_runs (cfg_ok 26) Try.func22 rfl rfl rfl (by simp only [List.length_cons,List.length_nil];decide) ?_
 have hres:Try.f22.results.toList = [.tmp 4]:=rfl
 have hrts:Try.f22.resultTypes.toList = [4]:=rfl
 simp only [argRegs,argAV1,eL,eI,eLL,eB,Nat.zero_add,Nat.reduceAdd]
 intro M
 refine RunK.of ?_
 repeat' (first|with_reducible (first|refine Q1 ?_|refine Q2 ?_|refine Q3 ?_|refine Q4 ?_|refine Q5 ?_|refine Q6 ?_|refine Q7 ?_|refine Q8 ?_|refine Q9 ?_|refine Qa ?_|refine Qb ?_|refine Qc ?_|refine Qd ?_|refine Qe ?_|refine Qf ?_)|((with_reducible refine Qo ?_ ?_);focus rfl)|((with_reducible first|refine QT 6 (l:=?_) ?_ ?_|refine QF 6 (l:=?_) ?_ ?_);rotate_left 1;focus (simp only [Zu,Nat.reduceSub,Nat.reduceBEq];with_reducible rfl))|((with_reducible first|refine QS (cfg_ok 26) Tab.none (s':=?_) ?_ ?_|refine QC (b:=?_) ?_ ?_);rotate_left 1;focus ((with_reducible refine QW ?_);simp only [Zg,seval,if_true,if_false,reduceCtorEq,Nat.reduceEqDiff,b,hx,hy,hl];with_reducible rfl))|((with_reducible refine QD (cfg_ok 26) Tab.none mixed_ok (tr:=?_) (s':=?_) ?_ ?_ ?_);rotate_left 2;(focus ((with_reducible refine QW ?_);simp only [Zg,Zd,seval,if_true,if_false,reduceCtorEq,Nat.reduceEqDiff,b,hx,hy,hl];with_reducible rfl));focus ((with_reducible refine QK ?_);simp only [Zk];kernel_rfl)))
 refine RunK.loop (β:=Nat) (γ:=Unit) (fun i => ⟨[(0,.c (.val (.sl 1 (xs.map eI)))),(1,.c (.val (.sl 1 (ys.map eI)))),(5,.c (.val (.int i)))],[]⟩) (fun i => i ≤ xs.length∧xs.take i = ys.take i) (fun i => xs.length - i)
  (fun _ => ⟨[],[]⟩) (fun _ => xs = ys) 0 ⟨Nat.zero_le _,rfl⟩ ?_ ?_ ?_
 ·(repeat' (first|with_reducible refine Qn|((with_reducible refine Qr ?_ ?_);focus (first|with_reducible rfl|(simp only [Zz,Nat.reduceBEq,Int.natCast_zero];done)|rfl))|((with_reducible refine Qj (o':=?_) ?_ ?_ ?_);rotate_left 1;focus rfl)|((with_reducible refine Qw ?_ ?_);(focus (first|with_reducible rfl|(simp only [Zv,Int.natCast_zero];done)));focus (first|exact id|exact (fun h => nomatch h)|exact (fun _ => rfl)))))
 ·rintro i ⟨hi,ht⟩
  have hw:=w64_succ (n:=i) (by omega)
  by_cases h:i < xs.length
  ·have i1:((i:Int) < (ys.length:Int)) = True:=eq_true (by omega)
   have i2:((0:Int) ≤ (i:Int)) = True:=eq_true (by omega)
   have g1:=mapI_get h
   have g2:=mapI_get (l:=ys) (i:=i) (by omega)
   by_cases he:xs.getD i 0 = ys.getD i 0
   ·have e0:(xs.getD i 0 != ys.getD i 0) = false:=by rw [he];simp only [bne_self_eq_false]
    repeat' (first|with_reducible (first|refine Q1 ?_|refine Q2 ?_|refine Q3 ?_|refine Q4 ?_|refine Q5 ?_|refine Q6 ?_|refine Q7 ?_|refine Q8 ?_|refine Q9 ?_|refine Qa ?_|refine Qb ?_|refine Qc ?_|refine Qd ?_|refine Qe ?_|refine Qf ?_)|((with_reducible refine Qo ?_ ?_);focus rfl)|((with_reducible first|refine QT 6 (l:=?_) ?_ ?_|refine QF 6 (l:=?_) ?_ ?_);rotate_left 1;focus (simp only [Zu,Nat.reduceSub,Nat.reduceBEq];with_reducible rfl))|((with_reducible first|refine QS (cfg_ok 26) Tab.none (s':=?_) ?_ ?_|refine QC (b:=?_) ?_ ?_);rotate_left 1;focus ((with_reducible refine QW ?_);simp only [Zg,seval,if_true,if_false,reduceCtorEq,Nat.reduceEqDiff,i1,i2,g1,g2,hx,hy,hl,hw,e0,Int.toNat_natCast];with_reducible rfl))|((with_reducible refine QD (cfg_ok 26) Tab.none mixed_ok (tr:=?_) (s':=?_) ?_ ?_ ?_);rotate_left 2;(focus ((with_reducible refine QW ?_);simp only [Zg,Zd,seval,if_true,if_false,reduceCtorEq,Nat.reduceEqDiff,i1,i2,g1,g2,hx,hy,hl,hw,e0,Int.toNat_natCast];with_reducible rfl));focus ((with_reducible refine QK ?_);simp only [Zk];kernel_rfl)))
    refine roundK.on (i + 1) ⟨⟨h,?_⟩,by omega⟩ ?_
    ·rw [getD_ltn h,getD_ltn (by omega)] at he
     rw [List.take_succ_eq_append_getElem h,List.take_succ_eq_append_getElem (by omega),ht,he]
    (repeat' (first|with_reducible refine Qn|((with_reducible refine Qr ?_ ?_);focus (first|with_reducible rfl|(simp only [Zz,Nat.reduceBEq];done)|rfl))|((with_reducible refine Qj (o':=?_) ?_ ?_ ?_);rotate_left 1;focus rfl)|((with_reducible refine Qw ?_ ?_);(focus (first|with_reducible rfl|(simp only [Zv];done)));focus (first|exact id|exact (fun h => nomatch h)|exact (fun _ => rfl)))))
   ·have e0:(xs.getD i 0 != ys.getD i 0) = true:=bne_iff_ne.2 he
    have hne:xs ≠ ys:=fun e => he (by rw [e])
    rw [decide_eq_false hne]
    repeat' (first|with_reducible (first|refine Q1 ?_|refine Q2 ?_|refine Q3 ?_|refine Q4 ?_|refine Q5 ?_|refine Q6 ?_|refine Q7 ?_|refine Q8 ?_|refine Q9 ?_|refine Qa ?_|refine Qb ?_|refine Qc ?_|refine Qd ?_|refine Qe ?_|refine Qf ?_)|((with_reducible refine Qo ?_ ?_);focus rfl)|((with_reducible first|refine QT 6 (l:=?_) ?_ ?_|refine QF 6 (l:=?_) ?_ ?_);rotate_left 1;focus (simp only [Zu,Nat.reduceSub,Nat.reduceBEq];with_reducible rfl))|((with_reducible first|refine QS (cfg_ok 26) Tab.none (s':=?_) ?_ ?_|refine QC (b:=?_) ?_ ?_);rotate_left 1;focus ((with_reducible refine QW ?_);simp only [Zg,seval,if_true,if_false,reduceCtorEq,Nat.reduceEqDiff,i1,i2,g1,g2,hx,hy,hl,hw,e0,Int.toNat_natCast];with_reducible rfl))|((with_reducible refine QD (cfg_ok 26) Tab.none mixed_ok (tr:=?_) (s':=?_) ?_ ?_ ?_);rotate_left 2;(focus ((with_reducible refine QW ?_);simp only [Zg,Zd,seval,if_true,if_false,reduceCtorEq,Nat.reduceEqDiff,i1,i2,g1,g2,hx,hy,hl,hw,e0,Int.toNat_natCast];with_reducible rfl));focus ((with_reducible refine QK ?_);simp only [Zk];kernel_rfl)))
    refine roundK.ret ?_
    repeat' (first|with_reducible (first|refine Q1 ?_|refine Q2 ?_|refine Q3 ?_|refine Q4 ?_|refine Q5 ?_|refine Q6 ?_|refine Q7 ?_|refine Q8 ?_|refine Q9 ?_|refine Qa ?_|refine Qb ?_|refine Qc ?_|refine Qd ?_|refine Qe ?_|refine Qf ?_)|((with_reducible refine Qo ?_ ?_);focus rfl)|((with_reducible first|refine QT 6 (l:=?_) ?_ ?_|refine QF 6 (l:=?_) ?_ ?_);rotate_left 1;focus (simp only [Zu,Nat.reduceSub,Nat.reduceBEq];with_reducible rfl))|((with_reducible first|refine QS (cfg_ok 26) Tab.none (s':=?_) ?_ ?_|refine QC (b:=?_) ?_ ?_);rotate_left 1;focus ((with_reducible refine QW ?_);simp only [Zg,seval,if_true,if_false,reduceCtorEq,Nat.reduceEqDiff];with_reducible rfl))|((with_reducible refine QD (cfg_ok 26) Tab.none mixed_ok (tr:=?_) (s':=?_) ?_ ?_ ?_);rotate_left 2;(focus ((with_reducible refine QW ?_);simp only [Zg,Zd,seval,if_true,if_false,reduceCtorEq,Nat.reduceEqDiff];with_reducible rfl));focus ((with_reducible refine QK ?_);simp only [Zk];kernel_rfl)))
    (refine Ends.mk (by simp) (rs:=?_) (ks:=?_) hres hrts ?_ ?_ ?_;rotate_left 2;(focus (simp only [Ze,Zg,seval,if_true,if_false,reduceCtorEq,Nat.reduceEqDiff];with_reducible rfl));(focus simp);focus (first|with_reducible rfl|(simp only [Zv];done)))
  ·have i1:((i:Int) < (ys.length:Int)) = False:=eq_false (by omega)
   repeat' (first|with_reducible (first|refine Q1 ?_|refine Q2 ?_|refine Q3 ?_|refine Q4 ?_|refine Q5 ?_|refine Q6 ?_|refine Q7 ?_|refine Q8 ?_|refine Q9 ?_|refine Qa ?_|refine Qb ?_|refine Qc ?_|refine Qd ?_|refine Qe ?_|refine Qf ?_)|((with_reducible refine Qo ?_ ?_);focus rfl)|((with_reducible first|refine QT 6 (l:=?_) ?_ ?_|refine QF 6 (l:=?_) ?_ ?_);rotate_left 1;focus (simp only [Zu,Nat.reduceSub,Nat.reduceBEq];with_reducible rfl))|((with_reducible first|refine QS (cfg_ok 26) Tab.none (s':=?_) ?_ ?_|refine QC (b:=?_) ?_ ?_);rotate_left 1;focus ((with_reducible refine QW ?_);simp only [Zg,seval,if_true,if_false,reduceCtorEq,Nat.reduceEqDiff,i1,hx,hl];with_reducible rfl))|((with_reducible refine QD (cfg_ok 26) Tab.none mixed_ok (tr:=?_) (s':=?_) ?_ ?_ ?_);rotate_left 2;(focus ((with_reducible refine QW ?_);simp only [Zg,Zd,seval,if_true,if_false,reduceCtorEq,Nat.reduceEqDiff,i1,hx,hl];with_reducible rfl));focus ((with_reducible refine QK ?_);simp only [Zk];kernel_rfl)))
   refine roundK.out () ?_ ?_
   ·rw [List.take_of_length_le (by omega),List.take_of_length_le (by omega)] at ht
    exact ht
   (repeat' (first|with_reducible refine Qn|((with_reducible refine Qr ?_ ?_);focus (first|with_reducible rfl|(simp only [Zz,Nat.reduceBEq];done)|rfl))|((with_reducible refine Qj (o':=?_) ?_ ?_ ?_);rotate_left 1;focus rfl)|((with_reducible refine Qw ?_ ?_);(focus (first|with_reducible rfl|(simp only [Zv];done)));focus (first|exact id|exact (fun h => nomatch h)|exact (fun _ => rfl)))))
 ·intro _ he
  rw [decide_eq_true he]
  repeat' (first|with_reducible (first|refine Q1 ?_|refine Q2 ?_|refine Q3 ?_|refine Q4 ?_|refine Q5 ?_|refine Q6 ?_|refine Q7 ?_|refine Q8 ?_|refine Q9 ?_|refine Qa ?_|refine Qb ?_|refine Qc ?_|refine Qd ?_|refine Qe ?_|refine Qf ?_)|((with_reducible refine Qo ?_ ?_);focus rfl)|((with_reducible first|refine QT 6 (l:=?_) ?_ ?_|refine QF 6 (l:=?_) ?_ ?_);rotate_left 1;focus (simp only [Zu,Nat.reduceSub,Nat.reduceBEq];with_reducible rfl))|((with_reducible first|refine QS (cfg_ok 26) Tab.none (s':=?_) ?_ ?_|refine QC (b:=?_) ?_ ?_);rotate_left 1;focus ((with_reducible refine QW ?_);simp only [Zg,seval,if_true,if_false,reduceCtorEq,Nat.reduceEqDiff];with_reducible rfl))|((with_reducible refine QD (cfg_ok 26) Tab.none mixed_ok (tr:=?_) (s':=?_) ?_ ?_ ?_);rotate_left 2;(focus ((with_reducible refine QW ?_);simp only [Zg,Zd,seval,if_true,if_false,reduceCtorEq,Nat.reduceEqDiff];with_reducible rfl));focus ((with_reducible refine QK ?_);simp only [Zk];kernel_rfl)))
  (refine Ends.mk (by simp) (rs:=?_) (ks:=?_) hres hrts ?_ ?_ ?_;rotate_left 2;(focus (simp only [Ze,Zg,seval,if_true,if_false,reduceCtorEq,Nat.reduceEqDiff];with_reducible rfl));(focus simp);focus (first|with_reducible rfl|(simp only [Zv];done)))
end Go.Proofs.Ytgngidchldajhaa
namespace Go.Proofs.Ytgngidchldajhaa
open Go.RowKit
def cutAt (t:List Int) (n:Nat):List Int × List Int:=(canon (cutT t n),canon (cutB t n))
def cntTo (t:List Int) (p:List Int × List Int):Nat→Nat
 | 0 => 0
 | k + 1 => cntTo t p k + (if cutAt t (k + 1) = p then 1 else 0)
def cctOf (t a b:List Int):Int × Int:=if (lev8 t && lev8 a && lev8 b) = true then (((cntTo t (canon a,canon b) (t.length - 1):Nat):Int),(0:Int)) else (0,1)
end Go.Proofs.Ytgngidchldajhaa
namespace Go.Proofs.Ytgngidchldajhaa
open Go.RowKit
def sum9F:List (List Int × Int)→List Int→Int→List (List Int × Int)
 | [],t,c => [(t,c)]
 | z :: L,t,c => if z.1 = t then (z.1,z.2 + c) :: L else z :: sum9F L t c
theorem sum9_miss {t:List Int} {c:Int}:∀ {L:List (List Int × Int)},(∀ z ∈ L,z.1 ≠ t)→sum9F L t c = L ++ [(t,c)]
 | [],_ => rfl
 | z :: L,h => by
  unfold sum9F
  rw [if_neg (h z (by simp)),sum9_miss (fun y hy => h y (by simp [hy]))];rfl
theorem sum9_hit {t:List Int} {c:Int}:∀ {L:List (List Int × Int)} {i:Nat} (hi:i < L.length),(∀ z ∈ L.take i,z.1 ≠ t)→L[i].1 = t→sum9F L t c = L.set i (L[i].1,L[i].2 + c)
 | z :: L,0,_,_,h => by
  have h':z.1 = t:=h
  show (if z.1 = t then (z.1,z.2 + c) :: L else z :: sum9F L t c) = (z.1,z.2 + c) :: L
  rw [if_pos h']
 | z :: L,i + 1,hi,h0,h => by
  have hi':i < L.length:=by simpa using hi
  have h':L[i].1 = t:=h
  have ih:=sum9_hit (c:=c) (L:=L) hi' (fun y hy => h0 y (by simp [hy])) h'
  show (if z.1 = t then (z.1,z.2 + c) :: L else z :: sum9F L t c) = z :: L.set i (L[i].1,L[i].2 + c)
  rw [if_neg (h0 z (by simp)),ih]
theorem sum9_mem {t:List Int} {c:Int} {z:List Int × Int}:∀ {L:List (List Int × Int)},z ∈ sum9F L t c→(z.1 = t∧∃ b:Int,(b = 0 ∨ ∃ y ∈ L,y.2 = b)∧z.2 = b + c) ∨ z ∈ L
 | [],h => by
  have:z = (t,c):=by simpa [sum9F] using h
  subst this
  exact .inl ⟨rfl,0,.inl rfl,by simp⟩
 | y :: L,h => by
  unfold sum9F at h
  split at h
  ·rename_i e
   rcases List.mem_cons.1 h with rfl|h
   ·exact .inl ⟨e,y.2,.inr ⟨y,by simp,rfl⟩,rfl⟩
   ·exact .inr (by simp [h])
  ·rcases List.mem_cons.1 h with rfl|h
   ·exact .inr (by simp)
   ·rcases sum9_mem h with ⟨h1,b,h2,h3⟩|h1
    ·refine .inl ⟨h1,b,?_,h3⟩
     rcases h2 with h2|⟨x,hx,h2⟩
     ·exact .inl h2
     ·exact .inr ⟨x,by simp [hx],h2⟩
    ·exact .inr (by simp [h1])
theorem sum9_len {t:List Int} {c:Int}:∀ {L:List (List Int × Int)},(sum9F L t c).length ≤ L.length + 1
 | [] => by simp [sum9F]
 | z :: L => by
  unfold sum9F
  split
  ·simp
  ·have:=sum9_len (t:=t) (c:=c) (L:=L)
   simp;omega
def Sm9 (n:Nat) (B:Int) (L:List (List Int × Int)):Prop:=L.length ≤ n∧∀ z ∈ L,z.1.length ≤ 8∧-B ≤ z.2∧z.2 ≤ B
theorem Sm9.add {n:Nat} {B b:Int} {L:List (List Int × Int)} {t:List Int} {c:Int} (h:Sm9 n B L) (hB:0 ≤ B) (ht:t.length ≤ 8) (hc:-b ≤ c∧c ≤ b):Sm9 (n + 1) (B + b) (sum9F L t c):=by
 refine ⟨Nat.le_trans sum9_len (by have:=h.1;omega),fun z hz => ?_⟩
 rcases sum9_mem hz with ⟨h1,x,h2,h3⟩|h1
 ·rw [h1,h3]
  rcases h2 with rfl|⟨y,hy,rfl⟩
  ·omega
  ·have:=h.2 y hy
   omega
 ·have:=h.2 z h1
  omega
set_option maxHeartbeats 4000000 in
theorem a_sum9 (L:List (List Int × Int)) (t:List Int) (c:Int) {n:Nat} {B:Int} (hL:Sm9 n B L) (hn:n ≤ 100000) (hB:B ≤ 1000000000) (hc:-1000000000 ≤ c∧c ≤ 1000000000) (ht:t.length ≤ 1000) :
  AFn Try.prog 13 [[.sl 2 (L.map eCt)],eL t,eI c] (· = [.own 2 ((sum9F L t c).map eCt) false]):=by
 have hlm:(L.map eCt).length = L.length:=List.length_map _
 have hll:=hL.1
 have q1:=big_le (n:=L.length) (by omega)
 have q2:=big_mul (n:=L.length) (c:=32) (by omega) (by omega)
 have q3:=big_le (n:=L.length + 1) (by omega)
 have q4:=big_mul (n:=L.length + 1) (c:=32) (by omega) (by omega)
 have q5:=big_le (n:=0 + L.length) (by omega)
 have q6:=big_mul (n:=0 + L.length) (c:=32) (by omega) (by omega)
 refine AFn.of_runs (cfg_ok 43) Try.func13 rfl rfl rfl (by simp only [List.length_cons,List.length_nil];decide) ?_
 have hres:Try.f13.results.toList = [.tmp 6]:=rfl
 have hrts:Try.f13.resultTypes.toList = [31]:=rfl
 simp only [argRegs,argAV1,eL,eI,eLL,eB,Nat.zero_add,Nat.reduceAdd]
 intro M
 refine RunK.of ?_
 repeat' (first|with_reducible (first|refine Q1 ?_|refine Q2 ?_|refine Q3 ?_|refine Q4 ?_|refine Q5 ?_|refine Q6 ?_|refine Q7 ?_|refine Q8 ?_|refine Q9 ?_|refine Qa ?_|refine Qb ?_|refine Qc ?_|refine Qd ?_|refine Qe ?_|refine Qf ?_)|((with_reducible refine Qo ?_ ?_);focus rfl)|((with_reducible first|refine QT 9 (l:=?_) ?_ ?_|refine QF 9 (l:=?_) ?_ ?_);rotate_left 1;focus (simp only [Zu,Nat.reduceSub,Nat.reduceBEq];with_reducible rfl))|((with_reducible first|refine QS (cfg_ok 43) Tab.none (s':=?_) ?_ ?_|refine QC (b:=?_) ?_ ?_);rotate_left 1;focus ((with_reducible refine QW ?_);simp only [Zg,seval,if_true,if_false,reduceCtorEq,Nat.reduceEqDiff,hlm,q1,q2,q5,q6];with_reducible rfl)))
 refine RunK.loop (β:=Nat) (γ:=Unit) (fun i => ⟨[(1,.c (.val (.sl 1 (t.map eI)))),(2,.c (.val (.int c))),(7,.c (.own 7 L.length)),(8,.c (.val (.int i)))],[(7,.row 2 (L.map eCt) false)]⟩) (fun i => i ≤ L.length∧∀ z ∈ L.take i,z.1 ≠ t) (fun i => L.length - i)
  (fun _ => ⟨[(1,.c (.val (.sl 1 (t.map eI)))),(2,.c (.val (.int c))),(7,.c (.own 7 L.length))],[(7,.row 2 (L.map eCt) false)]⟩) (fun _ => ∀ z ∈ L,z.1 ≠ t) 0 ⟨Nat.zero_le _,by simp⟩ ?_ ?_ ?_
 ·(repeat' (first|with_reducible refine Qn|((with_reducible refine Qr ?_ ?_);focus (first|with_reducible rfl|(simp only [Zz,Nat.reduceBEq,Int.natCast_zero,List.length_map,List.nil_append];done)|rfl))|((with_reducible refine Qj (o':=?_) ?_ ?_ ?_);rotate_left 1;focus rfl)|((with_reducible refine Qw ?_ ?_);(focus (first|with_reducible rfl|(simp only [Zv,Int.natCast_zero,List.length_map,List.nil_append];done)));focus (first|exact id|exact (fun h => nomatch h)|exact (fun _ => rfl)))))
  all_goals first|exact ⟨rfl,rfl⟩|exact ⟨rfl,rfl,id⟩|exact ⟨rfl,rfl,fun h => nomatch h⟩
 ·rintro i ⟨hi,hms⟩
  have hw:=w64_succ (n:=i) (by omega)
  by_cases h:i < L.length
  ·have i1:((i:Int) < (L.length:Int)) = True:=eq_true (by omega)
   have i2:((0:Int) ≤ (i:Int)) = True:=eq_true (by omega)
   have hg:(L.map eCt)[i]? = some (eCt L[i]):=by rw [List.getElem?_map,List.getElem?_eq_getElem h];rfl
   have hzb:=hL.2 L[i] (List.getElem_mem _)
   have hit:=sum9_hit (c:=c) h hms
   have htk:L.take (i + 1) = L.take i ++ [L[i]]:=List.take_succ_eq_append_getElem h
   obtain ⟨⟨z,k⟩,hz⟩:∃ q,q = L[i]:=⟨_,rfl⟩
   rw [← hz] at hg hzb hit htk
   simp only at hzb hit
   have hlk:=a_likeInts z t (by omega)
   simp only [eCt] at hg
   simp only [eL] at hlk
   by_cases he:z = t
   ·rw [decide_eq_true he] at hlk
    have hws:w64 (k + c) = k + c:=w64_eq (by omega)
    have hse:(L.map eCt).set i [.sl 1 (z.map eI),.int (k + c)] = (sum9F L t c).map eCt:=by
     rw [hit he,List.map_set];rfl
    repeat' (first|with_reducible (first|refine Q1 ?_|refine Q2 ?_|refine Q3 ?_|refine Q4 ?_|refine Q5 ?_|refine Q6 ?_|refine Q7 ?_|refine Q8 ?_|refine Q9 ?_|refine Qa ?_|refine Qb ?_|refine Qc ?_|refine Qd ?_|refine Qe ?_|refine Qf ?_)|((with_reducible refine Qo ?_ ?_);focus rfl)|((with_reducible first|refine QT 9 (l:=?_) ?_ ?_|refine QF 9 (l:=?_) ?_ ?_);rotate_left 1;focus (simp only [Zu,Nat.reduceSub,Nat.reduceBEq];with_reducible rfl))|((with_reducible first|refine QS (cfg_ok 43) (Tab.none.at' 22 hlk) (s':=?_) ?_ ?_|refine QC (b:=?_) ?_ ?_);rotate_left 1;focus ((with_reducible refine QW ?_);simp only [Zg,seval,if_true,if_false,reduceCtorEq,Nat.reduceEqDiff,i1,i2,hlm,hg,hws,Int.toNat_natCast];with_reducible rfl)))
    refine roundK.ret ?_
    rw [hse]
    repeat' (first|with_reducible (first|refine Q1 ?_|refine Q2 ?_|refine Q3 ?_|refine Q4 ?_|refine Q5 ?_|refine Q6 ?_|refine Q7 ?_|refine Q8 ?_|refine Q9 ?_|refine Qa ?_|refine Qb ?_|refine Qc ?_|refine Qd ?_|refine Qe ?_|refine Qf ?_)|((with_reducible refine Qo ?_ ?_);focus rfl)|((with_reducible first|refine QT 9 (l:=?_) ?_ ?_|refine QF 9 (l:=?_) ?_ ?_);rotate_left 1;focus (simp only [Zu,Nat.reduceSub,Nat.reduceBEq];with_reducible rfl))|((with_reducible first|refine QS (cfg_ok 43) Tab.none (s':=?_) ?_ ?_|refine QC (b:=?_) ?_ ?_);rotate_left 1;focus ((with_reducible refine QW ?_);simp only [Zg,seval,if_true,if_false,reduceCtorEq,Nat.reduceEqDiff];with_reducible rfl)))
    (refine Ends.mk (by simp) (rs:=?_) (ks:=?_) hres hrts ?_ ?_ ?_;rotate_left 2;(focus (simp only [Ze,Zg,seval,if_true,if_false,reduceCtorEq,Nat.reduceEqDiff];with_reducible rfl));(focus simp);focus (first|with_reducible rfl|(simp only [Zv];done)))
   ·rw [decide_eq_false he] at hlk
    repeat' (first|with_reducible (first|refine Q1 ?_|refine Q2 ?_|refine Q3 ?_|refine Q4 ?_|refine Q5 ?_|refine Q6 ?_|refine Q7 ?_|refine Q8 ?_|refine Q9 ?_|refine Qa ?_|refine Qb ?_|refine Qc ?_|refine Qd ?_|refine Qe ?_|refine Qf ?_)|((with_reducible refine Qo ?_ ?_);focus rfl)|((with_reducible first|refine QT 9 (l:=?_) ?_ ?_|refine QF 9 (l:=?_) ?_ ?_);rotate_left 1;focus (simp only [Zu,Nat.reduceSub,Nat.reduceBEq];with_reducible rfl))|((with_reducible first|refine QS (cfg_ok 43) (Tab.none.at' 22 hlk) (s':=?_) ?_ ?_|refine QC (b:=?_) ?_ ?_);rotate_left 1;focus ((with_reducible refine QW ?_);simp only [Zg,seval,if_true,if_false,reduceCtorEq,Nat.reduceEqDiff,i1,i2,hlm,hg,hw,Int.toNat_natCast];with_reducible rfl)))
    refine roundK.on (i + 1) ⟨⟨h,fun y hy => ?_⟩,by omega⟩ ?_
    ·rw [htk] at hy
     rcases List.mem_append.1 hy with hy|hy
     ·exact hms y hy
     ·rw [List.mem_singleton] at hy;rw [hy];exact he
    (repeat' (first|with_reducible refine Qn|((with_reducible refine Qr ?_ ?_);focus (first|with_reducible rfl|(simp only [Zz,Nat.reduceBEq];done)|rfl))|((with_reducible refine Qj (o':=?_) ?_ ?_ ?_);rotate_left 1;focus rfl)|((with_reducible refine Qw ?_ ?_);(focus (first|with_reducible rfl|(simp only [Zv];done)));focus (first|exact id|exact (fun h => nomatch h)|exact (fun _ => rfl)))))
  ·have i1:((i:Int) < (L.length:Int)) = False:=eq_false (by omega)
   repeat' (first|with_reducible (first|refine Q1 ?_|refine Q2 ?_|refine Q3 ?_|refine Q4 ?_|refine Q5 ?_|refine Q6 ?_|refine Q7 ?_|refine Q8 ?_|refine Q9 ?_|refine Qa ?_|refine Qb ?_|refine Qc ?_|refine Qd ?_|refine Qe ?_|refine Qf ?_)|((with_reducible refine Qo ?_ ?_);focus rfl)|((with_reducible first|refine QT 9 (l:=?_) ?_ ?_|refine QF 9 (l:=?_) ?_ ?_);rotate_left 1;focus (simp only [Zu,Nat.reduceSub,Nat.reduceBEq];with_reducible rfl))|((with_reducible first|refine QS (cfg_ok 43) Tab.none (s':=?_) ?_ ?_|refine QC (b:=?_) ?_ ?_);rotate_left 1;focus ((with_reducible refine QW ?_);simp only [Zg,seval,if_true,if_false,reduceCtorEq,Nat.reduceEqDiff,i1,hlm];with_reducible rfl)))
   refine roundK.out () (by rw [List.take_of_length_le (by omega)] at hms;exact hms) ?_
   (repeat' (first|with_reducible refine Qn|((with_reducible refine Qr ?_ ?_);focus (first|with_reducible rfl|(simp only [Zz,Nat.reduceBEq];done)|rfl))|((with_reducible refine Qj (o':=?_) ?_ ?_ ?_);rotate_left 1;focus rfl)|((with_reducible refine Qw ?_ ?_);(focus (first|with_reducible rfl|(simp only [Zv];done)));focus (first|exact id|exact (fun h => nomatch h)|exact (fun _ => rfl)))))
 ·intro _ hms
  rw [sum9_miss hms,show (L ++ [(t,c)]).map eCt = L.map eCt ++ [[.sl 1 (t.map eI),.int c]] by rw [List.map_append];rfl]
  repeat' (first|with_reducible (first|refine Q1 ?_|refine Q2 ?_|refine Q3 ?_|refine Q4 ?_|refine Q5 ?_|refine Q6 ?_|refine Q7 ?_|refine Q8 ?_|refine Q9 ?_|refine Qa ?_|refine Qb ?_|refine Qc ?_|refine Qd ?_|refine Qe ?_|refine Qf ?_)|((with_reducible refine Qo ?_ ?_);focus rfl)|((with_reducible first|refine QT 9 (l:=?_) ?_ ?_|refine QF 9 (l:=?_) ?_ ?_);rotate_left 1;focus (simp only [Zu,Nat.reduceSub,Nat.reduceBEq];with_reducible rfl))|((with_reducible first|refine QS (cfg_ok 43) Tab.none (s':=?_) ?_ ?_|refine QC (b:=?_) ?_ ?_);rotate_left 1;focus ((with_reducible refine QW ?_);simp only [Zg,seval,if_true,if_false,reduceCtorEq,Nat.reduceEqDiff,hlm,q3,q4];with_reducible rfl)))
  (refine Ends.mk (by simp) (rs:=?_) (ks:=?_) hres hrts ?_ ?_ ?_;rotate_left 2;(focus (simp only [Ze,Zg,seval,if_true,if_false,reduceCtorEq,Nat.reduceEqDiff];with_reducible rfl));(focus simp);focus (first|with_reducible rfl|(simp only [Zv];done)))
end Go.Proofs.Ytgngidchldajhaa
namespace Go.Proofs.Ytgngidchldajhaa
open Go.RowKit
theorem nearStep_bd {near:List (List Int)} {i:Nat} {k B:Int} (h:∀ x ∈ near,∀ y ∈ x,0 ≤ y∧y < B) (hi:(i:Int) < B) (hk:k < B):∀ x ∈ nearStep near i k,∀ y ∈ x,0 ≤ y∧y < B:=by
 intro x hx y hy
 have h0:∀ (near:List (List Int)) (j:Nat) (z:Int),(∀ x ∈ near,∀ y ∈ x,0 ≤ y∧y < B)→0 ≤ z→z < B→∀ x ∈ near.set j (near.getD j [] ++ [z]),∀ y ∈ x,0 ≤ y∧y < B:=by
  intro near j z h z0 z1 x hx y hy
  rcases List.mem_or_eq_of_mem_set hx with hx|rfl
  ·exact h x hx y hy
  ·rcases List.mem_append.1 hy with hy|hy
   ·by_cases hj:j < near.length
    ·simp only [List.getD_eq_getElem?_getD,List.getElem?_eq_getElem hj,Option.getD_some] at hy
     exact h _ (List.getElem_mem hj) y hy
    ·simp [List.getD_eq_getElem?_getD,List.getElem?_eq_none (Nat.le_of_not_lt hj)] at hy
   ·rw [List.mem_singleton] at hy;subst hy;exact ⟨z0,z1⟩
 unfold nearStep at hx
 split at hx
 ·exact h0 _ _ _ (h0 near i k h ‹_› hk) (by omega) hi x hx y hy
 ·exact h x hx y hy
theorem nearTo_bd (t:List Int):∀ i,i ≤ t.length→∀ x ∈ nearTo t i,∀ y ∈ x,0 ≤ y∧y < t.length
 | 0,_,x,hx,y,hy => by rw [nearTo,List.mem_replicate] at hx;rw [hx.2] at hy;cases hy
 | i + 1,hi,x,hx,y,hy => by
  have:=(parS_lt t (t.getD i 0 - 1) i).2
  exact nearStep_bd (nearTo_bd t i (by omega)) (by omega) (by show parAt t i < _;unfold parAt;omega) x hx y hy
def movedL (base:Nat) (k:Nat) (others:List Int) (nd:Int):List Int:=others.map (fun x => (base:Int) + x) ++ (if k = 0 then [nd] else [])
def addTo (base:Nat) (nvs:List (List Int)) (nd:Int):Nat→List (List Int)
 | 0 => []
 | k + 1 => addTo base nvs nd k ++ [movedL base k (nvs.getD k []) nd]
theorem addTo_len (base:Nat) (nvs:List (List Int)) (nd:Int):∀ k,(addTo base nvs nd k).length = k
 | 0 => rfl
 | k + 1 => by rw [addTo,List.length_append,addTo_len base nvs nd k];rfl
def graft1 (near:List (List Int)) (nd:Int) (v:List Int):List (List Int) :=
 (near ++ addTo near.length (nears v) nd v.length).set nd.toNat ((near ++ addTo near.length (nears v) nd v.length).getD nd.toNat [] ++ [(near.length:Int)])
theorem graft1_len (near:List (List Int)) (nd:Int) (v:List Int):(graft1 near nd v).length = near.length + v.length:=by
 unfold graft1
 rw [List.length_set,List.length_append,addTo_len]
def graftTo (u:List Int) (nodes:List Int) (list:List (List Int)):Nat→List (List Int)
 | 0 => nears u
 | i + 1 => graft1 (graftTo u nodes list i) (nodes.getD i 0) (list.getD i [])
theorem graftTo_len (u:List Int) (nodes:List Int) (list:List (List Int)):∀ i,i ≤ list.length→(graftTo u nodes list i).length = u.length + sumLen (list.take i)
 | 0,_ => by rw [graftTo];unfold nears;rw [nearTo_len];simp [sumLen]
 | i + 1,hi => by
  rw [graftTo,graft1_len,graftTo_len u nodes list i (by omega),sumLen_take_succ list i (by omega)]
  simp [show i < list.length by omega]
  omega
theorem getD_len {near:List (List Int)} {B:Nat} (h:∀ x ∈ near,x.length ≤ B) (i:Nat):(near.getD i []).length ≤ B:=by
 by_cases hi:i < near.length
 ·simp only [List.getD_eq_getElem?_getD,List.getElem?_eq_getElem hi,Option.getD_some];exact h _ (List.getElem_mem hi)
 ·simp [List.getD_eq_getElem?_getD,List.getElem?_eq_none (Nat.le_of_not_lt hi)]
theorem addTo_each {base:Nat} {nvs:List (List Int)} {nd:Int} {B:Nat} (h:∀ x ∈ nvs,x.length ≤ B):∀ k,∀ y ∈ addTo base nvs nd k,y.length ≤ B + 1
 | 0,y,hy => by cases hy
 | k + 1,y,hy => by
  rw [addTo] at hy
  rcases List.mem_append.1 hy with hy|hy
  ·exact addTo_each h k y hy
  ·rw [List.mem_singleton] at hy
   subst hy
   have:=getD_len h k
   generalize nvs.getD k [] = g at this ⊢
   unfold movedL
   rw [List.length_append,List.length_map]
   split
   ·rw [List.length_singleton];omega
   ·rw [List.length_nil];omega
theorem graft1_each {near:List (List Int)} {nd:Int} {v:List Int} {B:Nat} (h:∀ x ∈ near,x.length ≤ B) (hv:v.length ≤ 8) (hB:17 ≤ B):∀ y ∈ graft1 near nd v,y.length ≤ B + 1:=by
 have h1:∀ y ∈ near ++ addTo near.length (nears v) nd v.length,y.length ≤ B:=by
  intro y hy
  rcases List.mem_append.1 hy with hy|hy
  ·exact h y hy
  ·have:=addTo_each (B:=16) (fun x hx => by have:=nearTo_each v v.length x hx;omega) _ y hy
   omega
 intro y hy
 unfold graft1 at hy
 rcases List.mem_or_eq_of_mem_set hy with hy|rfl
 ·have:=h1 y hy;omega
 ·have:=getD_len h1 nd.toNat
  rw [List.length_append,List.length_singleton]
  omega
theorem graftTo_each {u:List Int} {nodes:List Int} {list:List (List Int)} (hu:u.length ≤ 8) (hl:∀ v ∈ list,v.length ≤ 8):∀ i,∀ y ∈ graftTo u nodes list i,y.length ≤ 17 + i
 | 0,y,hy => by have:=nearTo_each u u.length y hy;omega
 | i + 1,y,hy => by
  have:=graft1_each (graftTo_each hu hl i) (getD_len hl i) (by omega) y hy
  omega
def graftN (u:List Int) (nodes:List Int) (list:List (List Int)):List Int:=treeF 9 (graftTo u nodes list list.length) 0 (-1)
def graftOk (u:List Int) (nodes:List Int) (list:List (List Int)):Bool :=
 treeOk 9 (graftTo u nodes list list.length) 0 (-1) && Nat.ble (treeSm 9 (graftTo u nodes list list.length) 0 (-1)) 13
section
variable {α:Type} {R:Rep α}
theorem OwnF.snoc {w w':World} {v v':Value} {xs:List α} {x:α} {c:List Value} {ds:List Value} {og og':Option Nat} {F G:List Nat}
  (hel:ownL R w ds xs F) (hF:(og.toList ++ F).Nodup) (hlt:∀ b,b ∈ og.toList ++ F→b < w.heap.size) (hx:OwnF R G w c x) (hd:∀ b,b ∈ G→b ∉ og.toList ++ F)
  (h:Appended w w' v' R.k (xs.length + 1) (ds ++ c) og og') :
  OwnF (RS R) (og'.toList ++ (F ++ G)) w' [v'] (xs ++ [x])∧(∀ b,b ∈ og'.toList ++ (F ++ G)→b ∈ og.toList ++ F ∨ b ∈ G ∨ w.heap.size ≤ b)∧ChgF (og.toList ++ F) w w':=by
 obtain ⟨h1,h2,h3⟩:=h
 have hGl:=hx.lt
 have hFx:∀ b,b ∈ F ++ G→w'.heap[b]? = w.heap[b]?:=by
  intro b hb
  refine h2.block b ?_ ?_
  ·rcases List.mem_append.1 hb with hb|hb
   ·exact hlt b (by simp [hb])
   ·exact hGl b hb
  ·intro e
   rcases List.mem_append.1 hb with hb|hb
   ·exact (List.nodup_append.1 hF).2.2 b (by simp [← e]) b hb rfl
   ·exact hd b hb (by simp [← e])
 have hel':ownL R w' (ds ++ c) (xs ++ [x]) (F ++ G):=(hel.append (ownL.single hx.1)).frame hFx
 refine ⟨⟨⟨v',og',ds ++ c,F ++ G,rfl,by simpa using h1,hel',rfl⟩,?_⟩,?_,?_⟩
 ·have hFG:(F ++ G).Nodup:=List.nodup_append.2 ⟨(List.nodup_append.1 hF).2.1,hx.2,fun b hb b' hb' e => by subst e;exact hd b hb' (by simp [hb])⟩
  refine List.nodup_append.2 ⟨by cases og' <;> simp,hFG,fun b hb b' hb' e => ?_⟩
  subst e
  have hbo:og' = some b:=by simpa using hb
  rcases h3 with h3|⟨g,h3,hg⟩
  ·rcases List.mem_append.1 hb' with hb'|hb'
   ·exact (List.nodup_append.1 hF).2.2 b (by simp [← h3,hbo]) b hb' rfl
   ·exact hd b hb' (by simp [← h3,hbo])
  ·rw [hbo] at h3
   cases h3
   rcases List.mem_append.1 hb' with hb'|hb'
   ·have:=hlt b (by simp [hb']);omega
   ·have:=hGl b hb';omega
 ·intro b hb
  simp only [List.mem_append,Option.mem_toList] at hb
  rcases hb with hb|hb|hb
  ·rcases h3 with h3|⟨g,h3,hg⟩
   ·exact .inl (by simp [← h3,hb])
   ·rw [hb] at h3;cases h3;exact .inr (.inr hg)
  ·exact .inl (by simp [hb])
  ·exact .inr (.inl hb)
 ·exact (ChgF.of_grown h2).mono (fun b hb => by simp [Option.mem_toList.1 hb])
theorem wpList_snocF {P:Program} {w:World} {ops:Array Oper} {rest:List Oper} {o:Oper} {a:Act} {Q:Exit→Act→World→Prop} (hgd:o.guard = none) (s x:Operand) (t:TypeId)
  (ho:o.op = .call { callee:=.builtin .append,args:=#[s,x],argTypes:=#[t,t] })
  (e:TypeId) (z:Value) (k bytes:Nat) (T:ST P t e z k bytes) (hk:R.k = k)
  (v:Value) (xs:List α) (y:α) (c:List Value) (F G:List Nat) (hs:a.eval s = v) (hv:OwnF (RS R) F w [v] xs) (hy:OwnF R G w c y) (hd:∀ b,b ∈ G→b ∉ F) (E:TypeId)
  {H:Nat} (hx:a.eval x = .slice (some ⟨H,0,none⟩) 1 1) (hH:H = w.heap.size)
  (hbytes:(xs.length + 1) * bytes ≤ 140737488355328) (h63:xs.length + 1 ≤ 140737488355328)
  (h:∀ oa cap w' F',OwnF (RS R) F' w' [.slice oa (xs.length + 1) cap] (xs ++ [y])→xs.length + 1 ≤ cap→cap ≤ 9223372036854775807→(∀ b,b ∈ F'→b ∈ F ∨ b ∈ G ∨ w.heap.size ≤ b)→ChgF F w w'→wpList P ops Q rest (a.put o.dst (.slice oa (xs.length + 1) cap)) w') :
  wpList P ops Q (o :: rest) a (w.alloc (.cells c.toArray E)):=by
 subst hk
 have hlt:=hv.lt
 obtain ⟨⟨v',og,ds,F0,h1,hrow,hel,rfl⟩,hn⟩:=hv
 simp only [List.cons.injEq,and_true] at h1
 subst h1
 refine wpList_append1 (w:=w) hgd s x t ho e z R.k bytes T v xs.length ds og hs hrow E c hx hH (R.rd_len (R.own_rd hy.1)) (R.rd_one (R.own_rd hy.1)) hbytes (by unfold maxLen;omega) ?_
 intro v1 w1 og1 happ
 obtain ⟨k1,k2,k3⟩:=OwnF.snoc (v:=v) hel hn hlt hy hd happ
 obtain ⟨oa,cap,e1,q1,q2⟩:=(OwnF.rd k1).val
 subst e1
 rw [List.length_append,List.length_singleton] at *
 unfold maxLen at q2
 exact h oa cap w1 _ k1 q1 (by omega) k2 k3
theorem OwnF.setRow {w:World} {v:Value} {xs:List α} {F:List Nat} (h:OwnF (RS R) F w [v] xs) (hk:R.k = 1) (i:Nat) (hi:i < xs.length) :
  ∃ g cap a,v = .slice (some ⟨g,0,none⟩) xs.length cap∧xs.length ≤ cap∧cap ≤ 9223372036854775807∧g < w.heap.size∧g ∈ F∧w.cell? ⟨g,i,none⟩ = some a∧Rd R w [a] xs[i] ∧
   ∀ (w1:World) (y:α) (u:Value) (G:List Nat),Below w.heap.size w w1→OwnF R G w1 [u] y→(∀ b,b ∈ G→w.heap.size ≤ b) →
    w1.cell? ⟨g,i,none⟩ = some a∧w1.frozen? ⟨g,i,none⟩ = false∧∃ F',OwnF (RS R) F' (w1.setCell ⟨g,i,none⟩ u) [v] (xs.set i y)∧(∀ b,b ∈ F'→b ∈ F ∨ w.heap.size ≤ b)∧ChgF F w (w1.setCell ⟨g,i,none⟩ u):=by
 have hlt:=h.lt
 have hnd:=h.2
 obtain ⟨g,cap,d1,c,d2,F1,G0,F2,hv,hc1,hc2,rfl,hcl,hd1,hx,hrow,hK⟩:=h.lens i hi
 rw [hk] at hcl hd1
 rw [Nat.mul_one] at hd1
 match c,hcl with
 | [a],_ =>
 have hcell:w.cell? ⟨g,i,none⟩ = some a:=hrow.cells i a (by rw [List.getElem?_append_right (by omega),hd1];simp)
 have hgl:=hlt g (by simp)
 refine ⟨g,cap,a,hv,hc1,hc2,hgl,by simp,hcell,Rd.of (R.own_rd hx),?_⟩
 intro w1 y u G hbel hy hGl
 have hn1:=List.nodup_cons.1 hnd
 have hrow1:Row w1 v R.k xs.length (d1 ++ ([a] ++ d2)) (some g):=hrow.frame (fun g' hg' => by cases hg';exact hbel.block g hgl)
 obtain ⟨hst,hgr⟩:=hrow1.store i u
 have hset:(d1 ++ ([a] ++ d2)).set i u = d1 ++ ([u] ++ d2):=by
  rw [List.set_append_right _ _ (by omega),hd1,Nat.sub_self];rfl
 rw [hset] at hst
 have hsub:∀ b,b ∈ F1 ++ F2→b ≠ g:=fun b hm e => hn1.1 (by
  subst e
  rcases List.mem_append.1 hm with hm|hm
  ·simp [hm]
  ·simp [hm])
 have hfr:∀ b,b ∈ F1 ++ F2→(w1.setCell ⟨g,i,none⟩ u).heap[b]? = w.heap[b]?:=by
  intro b hm
  rw [heap_setCell_other w1 ⟨g,i,none⟩ b u (hsub b hm)]
  refine hbel.block b (hlt b ?_)
  rcases List.mem_append.1 hm with hm|hm
  ·simp [hm]
  ·simp [hm]
 have hy':R.own (w1.setCell ⟨g,i,none⟩ u) [u] y G:=R.own_frame hy.1 (fun b hb => heap_setCell_other w1 ⟨g,i,none⟩ b u (by have:=hGl b hb;show b ≠ g;omega))
 have hG:∀ b,b ∈ G→b ∉ g :: (F1 ++ F2):=fun b hb hm => by
  have h1:=hGl b hb
  have:b < w.heap.size:=by
   rcases List.mem_cons.1 hm with rfl|hm
   ·exact hgl
   ·rcases List.mem_append.1 hm with hm|hm
    ·exact hlt b (by simp [hm])
    ·exact hlt b (by simp [hm])
  omega
 have hnd':(g :: (F1 ++ (G ++ F2))).Nodup:=by
  have h2:=List.nodup_append.1 hn1.2
  have h3:=List.nodup_append.1 h2.2.1
  refine List.nodup_cons.2 ⟨?_,?_⟩
  ·intro hm
   simp only [List.mem_append] at hm
   rcases hm with hm|hm|hm
   ·exact hsub g (by simp [hm]) rfl
   ·exact hG g hm (by simp)
   ·exact hsub g (by simp [hm]) rfl
  ·refine List.nodup_append.2 ⟨h2.1,List.nodup_append.2 ⟨hy.2,h3.2.1,fun b hb b' hb' e => ?_⟩,fun b hb b' hb' e => ?_⟩
   ·subst e;exact hG b hb (by simp [hb'])
   ·subst e
    rcases List.mem_append.1 hb' with hb'|hb'
    ·exact hG b hb' (by simp [hb])
    ·exact h2.2.2 b hb b (by simp [hb']) rfl
 refine ⟨hrow1.cells i a (by rw [List.getElem?_append_right (by omega),hd1];simp),hrow1.frozen i,_,hK _ [u] y G (by rw [hk];rfl) hy' hfr hst hnd',?_,?_⟩
 ·intro b hb
  simp only [List.mem_cons,List.mem_append] at hb
  rcases hb with hb|hb|hb|hb
  ·exact .inl (by simp [hb])
  ·exact .inl (by simp [hb])
  ·exact .inr (hGl b hb)
  ·exact .inl (by simp [hb])
 ·refine (Below.chgF hbel).trans ((ChgF.of_grown hgr).mono (fun b hb => ?_))
  simp at hb
  simp [hb]
end
end Go.Proofs.Ytgngidchldajhaa
namespace Go.Proofs.Ytgngidchldajhaa
open Go.RowKit
def listsTo (n:Nat):List (List Int):=(List.range n).flatMap levels
theorem mem_listsTo {t:List Int} {n:Nat} (h:LevP t) (hn:t.length ≤ n):t ∈ listsTo n:=by
 have hp:=h.pos
 exact List.mem_flatMap.2 ⟨t.length - 1,List.mem_range.2 (by omega),mem_levels _ t h (by omega)⟩
theorem graft_check:trees8.all (fun u => (List.range u.length).all fun n => (listsTo (8 - u.length)).all fun v =>
  graftOk u [(n:Int)] [v] && (levQ (graftL u n v) && decide (graftN u [(n:Int)] [v] = canon (graftL u n v)))) = true:=by decide +kernel
theorem graft_ok {t:List Int} (h:lev8 t = true) {n:Nat} (hn:n < t.length) {v:List Int} (hv:LevP v) (h8:t.length + v.length ≤ 8) :
  graftOk (canon t) [(n:Int)] [v] = true∧lev8 (graftL (canon t) n v) = true∧graftN (canon t) [(n:Int)] [v] = canon (graftL (canon t) n v):=by
 have hl:=canon_len (lev8_lev h)
 have h1:=List.all_eq_true.1 (trees8_all graft_check h) n (List.mem_range.2 (by rw [hl];exact hn))
 have h2:=List.all_eq_true.1 h1 v (mem_listsTo hv (by rw [hl];omega))
 rw [Bool.and_eq_true,Bool.and_eq_true,decide_eq_true_eq] at h2
 exact ⟨h2.1,levQ_lev8 h2.2.1,h2.2.2⟩
end Go.Proofs.Ytgngidchldajhaa
namespace Go.Proofs.Ytgngidchldajhaa
def grs (u v:List Int):List (List Int):=(List.range u.length).map fun n => canon (graftL u n v)
def gsOk (u:List Int):Bool:=(listsTo (8 - u.length)).all fun v => ((List.range u.length).all fun n => levQ (graftL u n v)) && decide (cntOf (grs (canon u) v) = sumOf (grs u v))
theorem gs_check0:(levels 0).all gsOk = true:=by decide +kernel
theorem gs_check1:(levels 1).all gsOk = true:=by decide +kernel
theorem gs_check2:(levels 2).all gsOk = true:=by decide +kernel
theorem gs_check3:(levels 3).all gsOk = true:=by decide +kernel
theorem gs_check4:(levels 4).all gsOk = true:=by decide +kernel
theorem gs_check5:(levels 5).all gsOk = true:=by decide +kernel
theorem gs_check6:(levels 6).all gsOk = true:=by decide +kernel
theorem gs_ok {u v:List Int} (hu:lev8 u = true) (hv:lev8 v = true) (h:u.length + v.length ≤ 8):(∀ n,n < u.length→lev8 (graftL u n v) = true)∧cntOf (grs (canon u) v) = sumOf (grs u v):=by
 have hup:=(lev8_lev hu).pos
 have hvp:=(lev8_lev hv).pos
 have hk:gsOk u = true:=by
  have hc:∀ k,k < 7→(levels k).all gsOk = true:=fun k hk => by
   have h:k = 0 ∨ k = 1 ∨ k = 2 ∨ k = 3 ∨ k = 4 ∨ k = 5 ∨ k = 6:=by omega
   rcases h with rfl|rfl|rfl|rfl|rfl|rfl|rfl
   ·exact gs_check0
   ·exact gs_check1
   ·exact gs_check2
   ·exact gs_check3
   ·exact gs_check4
   ·exact gs_check5
   ·exact gs_check6
  exact List.all_eq_true.1 (hc (u.length - 1) (by omega)) u (mem_levels (u.length - 1) u (lev8_lev hu) (by omega))
 have h2:=List.all_eq_true.1 hk v (mem_listsTo (lev8_lev hv) (by omega))
 rw [Bool.and_eq_true,decide_eq_true_eq] at h2
 exact ⟨fun n hn => levQ_lev8 (List.all_eq_true.1 h2.1 n (List.mem_range.2 hn)),h2.2⟩
end Go.Proofs.Ytgngidchldajhaa
namespace Go.Proofs.Ytgngidchldajhaa
open Go.RowKit
theorem sub_flat2 {α:Type} {l1 l2:List (List α)} (h:l1.Sublist l2):l1.flatten.Sublist l2.flatten:=by
 induction h with
 | slnil => exact .slnil
 | cons a _ ih => rw [List.flatten_cons];exact ih.trans (List.sublist_append_right _ _)
 | cons_cons a _ ih => rw [List.flatten_cons,List.flatten_cons];exact List.Sublist.append (List.Sublist.refl _) ih
def eCtT (z:(List Int × List Nat) × Int):List D:=[.tag z.1.2 (.sl 1 (z.1.1.map eI)),.int z.2]
theorem tag_mk2:∀ (zs:List ((List Int × List Nat) × Int)),TagL ((zs.map fun z => (z.1.1,z.2)).map eCt) (zs.map eCtT) ((zs.map (·.1.2)).flatten)
 | [] => ⟨rfl,rfl⟩
 | z :: zs => ⟨_,_,z.1.2,_,rfl,rfl,⟨_,[.int z.2],z.1.2,[],rfl,(List.append_nil _).symm,.inl rfl,⟨.int z.2,[],[],[],rfl,rfl,.inr ⟨rfl,rfl,rfl⟩,rfl,rfl⟩⟩,tag_mk2 zs⟩
theorem a_forestOf' (f:List (List Int)) (hl:f.length ≤ 19) (hs:sumLen f ≤ 1000000000):AFn Try.prog 52 [eLL f] (· = [.own 1 ((forest f).map eL) true]) :=
 afn_LLL_oo (enters_of Try.func52 rfl rfl) (fun u w h => c_impl_forestOf u f w h hl (fun b hb => Nat.le_trans (sumLen_mem hb) hs))
noncomputable def TEq:Tab Try.prog:=Tab.none.add 67 (tab2 codL codL fun xs ys => some [.val (.bool (decide (xs = ys)))]) (tab2_ok fun xs ys rs h => by cases h;exact a_slicesEqual xs ys)
set_option maxHeartbeats 4000000 in
theorem a_counted (ts:List (List Int)) (hl:ts.length ≤ 19) (hs:sumLen ts ≤ 1000000):AFn Try.prog 47 [eLL ts] (· = [.own 2 ((cntOf ts).map eCt) true]):=by
 have hfo:=a_forestOf' ts hl (by omega)
 refine AFn.of_runs (cfg_ok 45) Try.func47 rfl rfl rfl (by simp only [List.length_cons,List.length_nil];decide) ?_
 have hres:Try.f47.results.toList = [.tmp 2]:=rfl
 have hrts:Try.f47.resultTypes.toList = [31]:=rfl
 simp only [argRegs,argAV1,eL,eI,eLL,eB,Nat.zero_add,Nat.reduceAdd]
 intro M
 refine RunK.of ?_
 repeat' (first|with_reducible (first|refine Q1 ?_|refine Q2 ?_|refine Q3 ?_|refine Q4 ?_|refine Q5 ?_|refine Q6 ?_|refine Q7 ?_|refine Q8 ?_|refine Q9 ?_|refine Qa ?_|refine Qb ?_|refine Qc ?_|refine Qd ?_|refine Qe ?_|refine Qf ?_)|((with_reducible refine Qo ?_ ?_);focus rfl)|((with_reducible first|refine QT 12 (l:=?_) ?_ ?_|refine QF 12 (l:=?_) ?_ ?_);rotate_left 1;focus (simp only [Zu,Nat.reduceSub,Nat.reduceBEq];with_reducible rfl))|((with_reducible first|refine QS (cfg_ok 45) Tab.none (s':=?_) ?_ ?_|refine QC (b:=?_) ?_ ?_);rotate_left 1;focus ((with_reducible refine QW ?_);simp only [Zg,seval,if_true,if_false,reduceCtorEq,Nat.reduceEqDiff];with_reducible rfl)))
 refine RunK.regTag (cfg_ok 45) (Tab.none.at' 52 hfo) 2 9 (k:=1) (xs:=(forest ts).map eL) (s1:=?_) ?_ ?_ ?_
 rotate_left 1
 focus (simp only [Zg,seval,if_true,if_false,reduceCtorEq,Nat.reduceEqDiff,eL,eLL];with_reducible rfl)
 focus rfl
 intro xs' F ht hnd hF
 obtain ⟨ps,e1,e2,e3⟩:=tag_rows ht
 subst e2
 have hpl:ps.length = ts.length:=by
  have:=congrArg List.length e1
  rw [List.length_map] at this
  rw [← this]
  exact (show (sortC cmpT ts).Perm ts from sortC_perm ts).length_eq
 refine ROps.opsT (cfg_ok 45) (T:=Tab.none) (s':=?_) ?_ ?_
 rotate_left 1
 focus (simp only [Zg,seval,if_true,if_false,reduceCtorEq,Nat.reduceEqDiff,List.length_map];with_reducible rfl)
 repeat' (first|with_reducible (first|refine Q1 ?_|refine Q2 ?_|refine Q3 ?_|refine Q4 ?_|refine Q5 ?_|refine Q6 ?_|refine Q7 ?_|refine Q8 ?_|refine Q9 ?_|refine Qa ?_|refine Qb ?_|refine Qc ?_|refine Qd ?_|refine Qe ?_|refine Qf ?_)|((with_reducible refine Qo ?_ ?_);focus rfl)|((with_reducible first|refine QT 12 (l:=?_) ?_ ?_|refine QF 12 (l:=?_) ?_ ?_);rotate_left 1;focus (simp only [Zu,Nat.reduceSub,Nat.reduceBEq];with_reducible rfl))|((with_reducible first|refine QS (cfg_ok 45) Tab.none (s':=?_) ?_ ?_|refine QC (b:=?_) ?_ ?_);rotate_left 1;focus ((with_reducible refine QW ?_);simp only [Zg,seval,if_true,if_false,reduceCtorEq,Nat.reduceEqDiff];with_reducible rfl)))
 obtain ⟨R,hR⟩:∃ R,R = fun i => runsF (fun p:List Int × List Nat => p.1) (ps.take i):=⟨_,rfl⟩
 have hRb:∀ i,i ≤ ps.length→(R i).length ≤ 19∧∀ z ∈ R i,1 ≤ z.2∧z.2 ≤ 19:=fun i hi => by
  rw [hR]
  obtain ⟨h1,h2⟩:=runsF_sub (fun p:List Int × List Nat => p.1) _ (ps.take i) rfl
  have h3:=h1.length_le
  rw [List.length_map,List.length_take] at h3
  rw [List.length_take] at h2
  exact ⟨by show (runsF _ _).length ≤ 19;omega,fun z hz => by have:=h2 z hz;omega⟩
 refine RunK.loop (β:=Nat) (γ:=Unit) (fun i => ⟨[(3,.c (.own 3 (R i).length)),(9,.c (.own 9 ps.length)),(10,.c (.val (.int ps.length))),(11,.c (.val (.int i)))],[(3,.row 2 ((R i).map eCtT) false),(9,.row 1 (ps.map eLT) false)]⟩) (fun i => i ≤ ps.length) (fun i => ps.length - i)
  (fun _ => ⟨[(3,.c (.own 3 (R ps.length).length))],[(3,.row 2 ((R ps.length).map eCtT) false)]⟩) (fun _ => True) 0 (Nat.zero_le _) ?_ ?_ ?_
 ·have e0:R 0 = []:=by rw [hR];rfl
  have hfl:(forest ts).length = ps.length:=by rw [hpl];exact (show (sortC cmpT ts).Perm ts from sortC_perm ts).length_eq
  rw [e0,hfl]
  (repeat' (first|with_reducible refine Qn|((with_reducible refine Qr ?_ ?_);focus (first|with_reducible rfl|(simp only [Zz,Nat.reduceBEq,List.map_nil,List.length_map,Int.natCast_zero];done)|rfl))|((with_reducible refine Qj (o':=?_) ?_ ?_ ?_);rotate_left 1;focus rfl)|((with_reducible refine Qw ?_ ?_);(focus (first|with_reducible rfl|(simp only [Zv,List.map_nil,List.length_map,Int.natCast_zero];done)));focus (first|exact id|exact (fun h => nomatch h)|exact (fun _ => rfl)))))
 ·intro i hi
  have hi:i ≤ ps.length:=hi
  have hw:=w64_succ (n:=i) (by omega)
  obtain ⟨hb1,hb2⟩:=hRb i hi
  by_cases h:i < ps.length
  ·have i1:((i:Int) < (ps.length:Int)) = True:=eq_true (by omega)
   have i2:((0:Int) ≤ (i:Int)) = True:=eq_true (by omega)
   obtain ⟨p,hp⟩:∃ p,p = ps[i]:=⟨_,rfl⟩
   have hg:(ps.map eLT)[i]? = some [.tag p.2 (.sl 1 (p.1.map eI))]:=by rw [map_get h,hp];rfl
   have hst:R (i + 1) = stepC (fun p:List Int × List Nat => p.1) (R i) p:=by
    rw [hR]
    show runsF _ (ps.take (i + 1)) = stepC _ (runsF _ (ps.take i)) p
    rw [List.take_succ_eq_append_getElem h,runsF_snoc,hp]
   have q1:=big_le (n:=(R i).length + 1) (by omega)
   have q2:=big_mul (n:=(R i).length + 1) (c:=32) (by omega) (by omega)
   by_cases h0:R i = []
   ·rw [h0,stepC_nil] at hst
    have j1:(((0:Nat):Int) > 0) = False:=eq_false (by omega)
    rw [h0] at q1 q2 ⊢
    simp only [List.length_nil] at q1 q2
    repeat' (first|with_reducible (first|refine Q1 ?_|refine Q2 ?_|refine Q3 ?_|refine Q4 ?_|refine Q5 ?_|refine Q6 ?_|refine Q7 ?_|refine Q8 ?_|refine Q9 ?_|refine Qa ?_|refine Qb ?_|refine Qc ?_|refine Qd ?_|refine Qe ?_|refine Qf ?_)|((with_reducible refine Qo ?_ ?_);focus rfl)|((with_reducible first|refine QT 12 (l:=?_) ?_ ?_|refine QF 12 (l:=?_) ?_ ?_);rotate_left 1;focus (simp only [Zu,Nat.reduceSub,Nat.reduceBEq];with_reducible rfl))|((with_reducible first|refine QS (cfg_ok 45) TEq (s':=?_) ?_ ?_|refine QC (b:=?_) ?_ ?_);rotate_left 1;focus ((with_reducible refine QW ?_);simp only [Zg,seval,if_true,if_false,reduceCtorEq,Nat.reduceEqDiff,TEq,i1,i2,hg,hw,j1,q1,q2,Int.toNat_natCast,List.length_map,List.length_nil];with_reducible rfl)))
    refine roundK.on (i + 1) ⟨h,by omega⟩ ?_
    rw [hst]
    (repeat' (first|with_reducible refine Qn|((with_reducible refine Qr ?_ ?_);focus (first|with_reducible rfl|(simp only [Zz,Nat.reduceBEq,eCtT,List.map_nil];done)|rfl))|((with_reducible refine Qj (o':=?_) ?_ ?_ ?_);rotate_left 1;focus rfl)|((with_reducible refine Qw ?_ ?_);(focus (first|with_reducible rfl|(simp only [Zv,eCtT,List.map_nil];done)));focus (first|exact id|exact (fun h => nomatch h)|exact (fun _ => rfl)))))
   ·obtain ⟨out,z,ez⟩:=snoc_of h0
    have hzb:=hb2 z (by rw [ez];simp)
    rw [ez] at hst hb1 q1 q2 ⊢
    simp only [List.length_append,List.length_singleton] at hb1 q1 q2
    have hlz:(out ++ [z]).length = out.length + 1:=by simp
    have j1:((((out.length + 1:Nat)):Int) > 0) = True:=eq_true (by omega)
    have hw1:w64 (((out.length + 1:Nat):Int) - 1) = ((out.length:Nat):Int):=by rw [w64_eq (by omega)];omega
    have i3:((0:Int) ≤ ((out.length:Nat):Int)) = True:=eq_true (by omega)
    have i4:(((out.length:Nat):Int) < ((out.length + 1:Nat):Int)) = True:=eq_true (by omega)
    have hgz:((out ++ [z]).map eCtT)[out.length]? = some [.tag z.1.2 (.sl 1 (z.1.1.map eI)),.int z.2]:=by
     rw [List.map_append,List.getElem?_append_right (by simp)];simp [eCtT]
    by_cases he:z.1.1 = p.1
    ·rw [stepC_eq _ out z p he] at hst
     have hd:decide (z.1.1 = p.1) = true:=decide_eq_true he
     have hwz:=w64_eq (n:=z.2 + 1) (by omega)
     repeat' (first|with_reducible (first|refine Q1 ?_|refine Q2 ?_|refine Q3 ?_|refine Q4 ?_|refine Q5 ?_|refine Q6 ?_|refine Q7 ?_|refine Q8 ?_|refine Q9 ?_|refine Qa ?_|refine Qb ?_|refine Qc ?_|refine Qd ?_|refine Qe ?_|refine Qf ?_)|((with_reducible refine Qo ?_ ?_);focus rfl)|((with_reducible first|refine QT 12 (l:=?_) ?_ ?_|refine QF 12 (l:=?_) ?_ ?_);rotate_left 1;focus (simp only [Zu,Nat.reduceSub,Nat.reduceBEq];with_reducible rfl))|((with_reducible first|refine QS (cfg_ok 45) TEq (s':=?_) ?_ ?_|refine QC (b:=?_) ?_ ?_);rotate_left 1;focus ((with_reducible refine QW ?_);simp only [Zg,seval,if_true,if_false,reduceCtorEq,Nat.reduceEqDiff,TEq,TEq,i1,i2,i3,i4,hg,hgz,hlz,hw,hw1,hwz,hd,j1,Int.toNat_natCast,List.length_map];with_reducible rfl)))
     have hse:((out ++ [z]).map eCtT).set out.length [.tag z.1.2 (.sl 1 (z.1.1.map eI)),.int (z.2 + 1)] = (out ++ [(z.1,z.2 + 1)]).map eCtT:=by
      rw [List.map_append,List.set_append_right _ _ (by simp)];simp [eCtT]
     refine roundK.on (i + 1) ⟨h,by omega⟩ ?_
     rw [hst,hse]
     (repeat' (first|with_reducible refine Qn|((with_reducible refine Qr ?_ ?_);focus (first|with_reducible rfl|(simp only [Zz,Nat.reduceBEq,eCtT];done)|rfl))|((with_reducible refine Qj (o':=?_) ?_ ?_ ?_);rotate_left 1;focus rfl)|((with_reducible refine Qw ?_ ?_);(focus (first|with_reducible rfl|(simp only [Zv,eCtT];done)));focus (first|exact id|exact (fun h => nomatch h)|exact (fun _ => rfl)))))
    ·rw [stepC_ne _ out z p he] at hst
     have hd:decide (z.1.1 = p.1) = false:=decide_eq_false he
     repeat' (first|with_reducible (first|refine Q1 ?_|refine Q2 ?_|refine Q3 ?_|refine Q4 ?_|refine Q5 ?_|refine Q6 ?_|refine Q7 ?_|refine Q8 ?_|refine Q9 ?_|refine Qa ?_|refine Qb ?_|refine Qc ?_|refine Qd ?_|refine Qe ?_|refine Qf ?_)|((with_reducible refine Qo ?_ ?_);focus rfl)|((with_reducible first|refine QT 12 (l:=?_) ?_ ?_|refine QF 12 (l:=?_) ?_ ?_);rotate_left 1;focus (simp only [Zu,Nat.reduceSub,Nat.reduceBEq];with_reducible rfl))|((with_reducible first|refine QS (cfg_ok 45) TEq (s':=?_) ?_ ?_|refine QC (b:=?_) ?_ ?_);rotate_left 1;focus ((with_reducible refine QW ?_);simp only [Zg,seval,if_true,if_false,reduceCtorEq,Nat.reduceEqDiff,TEq,TEq,i1,i2,i3,i4,hg,hgz,hlz,hw,hw1,hd,j1,q1,q2,Int.toNat_natCast,List.length_map];with_reducible rfl)))
     refine roundK.on (i + 1) ⟨h,by omega⟩ ?_
     rw [hst]
     (repeat' (first|with_reducible refine Qn|((with_reducible refine Qr ?_ ?_);focus (first|with_reducible rfl|(simp only [Zz,Nat.reduceBEq,eCtT];done)|rfl))|((with_reducible refine Qj (o':=?_) ?_ ?_ ?_);rotate_left 1;focus rfl)|((with_reducible refine Qw ?_ ?_);(focus (first|with_reducible rfl|(simp only [Zv,eCtT];done)));focus (first|exact id|exact (fun h => nomatch h)|exact (fun _ => rfl)))))
  ·have i1:((i:Int) < (ps.length:Int)) = False:=eq_false (by omega)
   obtain rfl:i = ps.length:=by omega
   repeat' (first|with_reducible (first|refine Q1 ?_|refine Q2 ?_|refine Q3 ?_|refine Q4 ?_|refine Q5 ?_|refine Q6 ?_|refine Q7 ?_|refine Q8 ?_|refine Q9 ?_|refine Qa ?_|refine Qb ?_|refine Qc ?_|refine Qd ?_|refine Qe ?_|refine Qf ?_)|((with_reducible refine Qo ?_ ?_);focus rfl)|((with_reducible first|refine QT 12 (l:=?_) ?_ ?_|refine QF 12 (l:=?_) ?_ ?_);rotate_left 1;focus (simp only [Zu,Nat.reduceSub,Nat.reduceBEq];with_reducible rfl))|((with_reducible first|refine QS (cfg_ok 45) Tab.none (s':=?_) ?_ ?_|refine QC (b:=?_) ?_ ?_);rotate_left 1;focus ((with_reducible refine QW ?_);simp only [Zg,seval,if_true,if_false,reduceCtorEq,Nat.reduceEqDiff,i1];with_reducible rfl)))
   refine roundK.out () trivial ?_
   (repeat' (first|with_reducible refine Qn|((with_reducible refine Qr ?_ ?_);focus (first|with_reducible rfl|(simp only [Zz,Nat.reduceBEq];done)|rfl))|((with_reducible refine Qj (o':=?_) ?_ ?_ ?_);rotate_left 1;focus rfl)|((with_reducible refine Qw ?_ ?_);(focus (first|with_reducible rfl|(simp only [Zv];done)));focus (first|exact id|exact (fun h => nomatch h)|exact (fun _ => rfl)))))
 ·rintro _ _
  repeat' (first|with_reducible (first|refine Q1 ?_|refine Q2 ?_|refine Q3 ?_|refine Q4 ?_|refine Q5 ?_|refine Q6 ?_|refine Q7 ?_|refine Q8 ?_|refine Q9 ?_|refine Qa ?_|refine Qb ?_|refine Qc ?_|refine Qd ?_|refine Qe ?_|refine Qf ?_)|((with_reducible refine Qo ?_ ?_);focus rfl)|((with_reducible first|refine QT 12 (l:=?_) ?_ ?_|refine QF 12 (l:=?_) ?_ ?_);rotate_left 1;focus (simp only [Zu,Nat.reduceSub,Nat.reduceBEq];with_reducible rfl))|((with_reducible first|refine QS (cfg_ok 45) Tab.none (s':=?_) ?_ ?_|refine QC (b:=?_) ?_ ?_);rotate_left 1;focus ((with_reducible refine QW ?_);simp only [Zg,seval,if_true,if_false,reduceCtorEq,Nat.reduceEqDiff];with_reducible rfl)))
  have hRe:(R ps.length).map (fun z => (z.1.1,z.2)) = cntOf ts:=by
   rw [hR]
   show (runsF _ (ps.take ps.length)).map _ = _
   rw [List.take_length,runsF_map _ _ ps rfl,← e1];rfl
  refine Ends.un (by simp) hres hrts (r:=?_) (r':=.own 2 ((cntOf ts).map eCt) true) (l:=[]) (ks:=?_) ?_ ?_ (by simp) ?_ rfl
  rotate_left 2
  focus (simp only [aresults,ares,Zg,seval,if_true,if_false,reduceCtorEq,Nat.reduceEqDiff];with_reducible rfl)
  focus simp
  rw [← hRe]
  have hsub:((R ps.length).map (·.1)).Sublist ps:=by
   have:=(runsF_sub (fun p:List Int × List Nat => p.1) _ (ps.take ps.length) rfl).1
   rw [hR]
   show (List.map _ (runsF (fun p:List Int × List Nat => p.1) (ps.take ps.length))).Sublist ps
   rw [List.take_length] at this ⊢
   exact this
  have hsub2:((R ps.length).map (·.1.2)).Sublist (ps.map (·.2)):=by
   have:=hsub.map (·.2)
   rwa [List.map_map] at this
  refine ⟨((R ps.length).map (·.1.2)).flatten,?_,fun b hb => hF b ?_,.inl ⟨2,_,_,rfl,rfl,tag_mk2 _⟩⟩
  ·rw [e3] at hnd
   exact hnd.sublist (sub_flat2 hsub2)
  ·rw [e3]
   exact (sub_flat2 hsub2).subset hb
end Go.Proofs.Ytgngidchldajhaa
namespace Go.Proofs.Ytgngidchldajhaa
open Go.RowKit
theorem sumLen_le {m:Nat}:∀ (f:List (List Int)),(∀ b ∈ f,b.length ≤ m)→sumLen f ≤ m * f.length
 | [],_ => by simp [sumLen]
 | b :: f,h => by
  have h1:=h b (by simp)
  have ih:=sumLen_le f (fun c hc => h c (by simp [hc]))
  simp only [sumLen,List.map_cons,List.sum_cons,List.length_cons] at ih ⊢
  rw [Nat.mul_succ];omega
def rtsOf (t:List Int):List (List Int × Int) × Int:=if lev8 t = true then (sumOf (roots t),0) else ([],1)
end Go.Proofs.Ytgngidchldajhaa
