/- Lemmas (10). -/
import Derived.Test.YtfhmonacgmakbaaZA6
import Derived.Test.YtfhmonacgmakbaaZA7
import Derived.Test.YtfhmonacgmakbaaZA8
import Derived.Test.YtfhmonacgmakbaaZA9
set_option linter.unusedSimpArgs false
set_option linter.unusedVariables false
namespace Go.Proofs.Ytfhmonacgmakbaa
open Go.RowKit
theorem sub_flat {α:Type} {l1 l2:List (List α)} (h:l1.Sublist l2):l1.flatten.Sublist l2.flatten:=by
 induction h with
 | slnil => exact .slnil
 | cons a _ ih => rw [List.flatten_cons];exact ih.trans (List.sublist_append_right _ _)
 | cons_cons a _ ih => rw [List.flatten_cons,List.flatten_cons];exact List.Sublist.append (List.Sublist.refl _) ih
theorem lastD_get:∀ (t:List Int),t.getLastD 0 = t.getD (t.length - 1) 0
 | [] => rfl
 | x :: t => by simp [List.getLastD_eq_getLast?,List.getLast?_eq_getElem?,List.getD_eq_getElem?_getD]
theorem levP_snoc {t:List Int} {x:Int} (h:LevP t) (h1:1 ≤ x) (h2:x ≤ t.getD (t.length - 1) 0 + 1):LevP (t ++ [x]):=by
 have hp:=h.pos
 have hl:∀ {i:Nat} {d:Int},i < t.length→(t ++ [x]).getD i d = t.getD i d:=fun {i d} hi => by
  rw [List.getD_eq_getElem?_getD,List.getElem?_append_left hi,List.getD_eq_getElem?_getD]
 have hx:(t ++ [x]).getD t.length 0 = x:=by simp [List.getD_eq_getElem?_getD]
 refine ⟨by rw [hl hp];exact h.1,fun i hi hi2 => ?_⟩
 simp at hi hi2
 by_cases h3:i + 1 < t.length
 ·rw [hl h3,hl (by omega)];exact h.2 i (by omega) h3
 ·have e:i + 1 = t.length:=by omega
  rw [hl (show i < t.length by omega),e,hx]
  have e2:t.length - 1 = i:=by omega
  rw [e2] at h2
  exact ⟨h1,h2⟩
theorem flat_le {α:Type} (g:Nat→List α) {i k:Nat} (h:i ≤ k):((List.range i).flatMap g).length ≤ ((List.range k).flatMap g).length:=by
 rw [List.flatMap_def,List.flatMap_def]
 exact (sub_flat ((List.range_sublist.2 h).map g)).length_le
set_option maxHeartbeats 4000000 in
theorem a_l03Grow (n:Nat) (hn:n ≤ 8):∀ (f:Nat) (t:List Int) (out:List (List Int)),LevP t→t.length ≤ n→n < t.length + f→out.length + (growF f t n).length ≤ 1000000 →
  AOw Try.prog 58 [eL t,eI n] 1 (out.map eL) [] (· = [.own 1 ((out ++ growF f t n).map eL) false])
 | 0,t,out,_,h1,h2,_ => by omega
 | f + 1,t,out,hlev,h1,h2,hsz => by
  have ih:=a_l03Grow n hn f
  have hca:=a_l03Canon t hlev (by omega)
  have hsa:=a_l01Same (canon t) t
  have how:=a_l01Own t (by omega)
  have hp:=hlev.pos
  refine AOw.of_runs (cfg_ok 42) Try.func58 rfl rfl rfl (by simp only [List.length_cons,List.length_nil];decide) ?_
  have hres:Try.f58.results.toList = [.tmp 6]:=rfl
  have hrts:Try.f58.resultTypes.toList = [39]:=rfl
  simp only [List.length_cons,List.length_nil,List.nil_append,List.cons_append,argRegs,argAV1,eL,eI,eLL,eB,Nat.zero_add,Nat.reduceAdd]
  intro M
  refine RunK.of ?_
  by_cases h:t.length = n
  ·have i1:((n:Int) == (n:Int)) = true:=beq_self_eq_true _
   have hg:growF (f + 1) t n = if canon t = t then [t] else []:=by
    conv => lhs;unfold growF
    rw [if_pos h]
   rw [hg] at hsz ⊢
   by_cases hc:canon t = t
   ·rw [if_pos hc] at hsz ⊢
    have hd:decide (canon t = t) = true:=decide_eq_true hc
    simp at hsz
    have q1:=big_le (n:=out.length + 1) (by omega)
    have q2:=big_mul (n:=out.length + 1) (c:=24) (by omega) (by omega)
    repeat' (first|with_reducible (first|refine Q1 ?_|refine Q2 ?_|refine Q3 ?_|refine Q4 ?_|refine Q5 ?_|refine Q6 ?_|refine Q7 ?_|refine Q8 ?_|refine Q9 ?_|refine Qa ?_|refine Qb ?_|refine Qc ?_|refine Qd ?_|refine Qe ?_|refine Qf ?_)|((with_reducible refine Qo ?_ ?_);focus rfl)|((with_reducible first|refine QT 8 (l:=?_) ?_ ?_|refine QF 8 (l:=?_) ?_ ?_);rotate_left 1;focus (simp only [Zu,Nat.reduceSub,Nat.reduceBEq];with_reducible rfl))|((with_reducible first|refine QS (cfg_ok 42) (((Tab.none.at' 72 hca).at' 71 hsa).at' 73 how) (s':=?_) ?_ ?_|refine QC (b:=?_) ?_ ?_);rotate_left 1;focus ((with_reducible refine QW ?_);simp only [Zg,seval,if_true,if_false,reduceCtorEq,Nat.reduceEqDiff,eL,eI,List.length_map,h,i1,hd,q1,q2];with_reducible rfl)))
    (refine Ends.mk (by simp) (rs:=?_) (ks:=?_) hres hrts ?_ ?_ ?_;rotate_left 2;(focus (simp only [Ze,Zg,seval,if_true,if_false,reduceCtorEq,Nat.reduceEqDiff,List.map_append,List.map_cons,List.map_nil,eL];with_reducible rfl));(focus simp);focus (first|with_reducible rfl|(simp only [Zv,List.map_append,List.map_cons,List.map_nil,eL];done)))
   ·rw [if_neg hc] at hsz ⊢
    have hd:decide (canon t = t) = false:=decide_eq_false hc
    repeat' (first|with_reducible (first|refine Q1 ?_|refine Q2 ?_|refine Q3 ?_|refine Q4 ?_|refine Q5 ?_|refine Q6 ?_|refine Q7 ?_|refine Q8 ?_|refine Q9 ?_|refine Qa ?_|refine Qb ?_|refine Qc ?_|refine Qd ?_|refine Qe ?_|refine Qf ?_)|((with_reducible refine Qo ?_ ?_);focus rfl)|((with_reducible first|refine QT 8 (l:=?_) ?_ ?_|refine QF 8 (l:=?_) ?_ ?_);rotate_left 1;focus (simp only [Zu,Nat.reduceSub,Nat.reduceBEq];with_reducible rfl))|((with_reducible first|refine QS (cfg_ok 42) (((Tab.none.at' 72 hca).at' 71 hsa).at' 73 how) (s':=?_) ?_ ?_|refine QC (b:=?_) ?_ ?_);rotate_left 1;focus ((with_reducible refine QW ?_);simp only [Zg,seval,if_true,if_false,reduceCtorEq,Nat.reduceEqDiff,eL,eI,List.length_map,h,i1,hd];with_reducible rfl)))
    (refine Ends.mk (by simp) (rs:=?_) (ks:=?_) hres hrts ?_ ?_ ?_;rotate_left 2;(focus (simp only [Ze,Zg,seval,if_true,if_false,reduceCtorEq,Nat.reduceEqDiff,List.append_nil];with_reducible rfl));(focus simp);focus (first|with_reducible rfl|(simp only [Zv,List.append_nil];done)))
  ·have i1:((t.length:Int) == (n:Int)) = false:=beq_eq_false_iff_ne.2 (by omega)
   have hg:growF (f + 1) t n = (List.range ((t.getLastD 0 + 1).toNat)).flatMap fun i => growF f (t ++ [t.getLastD 0 + 1 - (i:Nat)]) n:=by
    conv => lhs;unfold growF
    rw [if_neg h]
   rw [hg] at hsz ⊢
   obtain ⟨L,hL⟩:∃ L,L = t.getLastD 0:=⟨_,rfl⟩
   rw [← hL] at hsz ⊢
   have hL2:L = t.getD (t.length - 1) 0:=by rw [hL,lastD_get]
   have hLb:0 ≤ L∧L ≤ 8:=by
    have:=hlev.bd (t.length - 1) (by omega)
    rw [hL2,getD_in (by omega)];omega
   obtain ⟨g,hgd⟩:∃ g:Nat→List (List Int),g = fun i => growF f (t ++ [L + 1 - (i:Nat)]) n:=⟨_,rfl⟩
   rw [← hgd] at hsz ⊢
   have hw1:w64 ((t.length:Int) - 1) = ((t.length - 1:Nat):Int):=by rw [w64_eq (by omega)];omega
   have hw2:w64 (L + 1) = L + 1:=w64_eq (by omega)
   have i2:((0:Int) ≤ ((t.length - 1:Nat):Int)) = True:=eq_true (by omega)
   have i3:(((t.length - 1:Nat):Int) < (t.length:Int)) = True:=eq_true (by omega)
   have hj:(t.map eI)[t.length - 1]? = some [.int L]:=by
    rw [map_get (by omega),hL2,getD_in (by omega)];rfl
   repeat' (first|with_reducible (first|refine Q1 ?_|refine Q2 ?_|refine Q3 ?_|refine Q4 ?_|refine Q5 ?_|refine Q6 ?_|refine Q7 ?_|refine Q8 ?_|refine Q9 ?_|refine Qa ?_|refine Qb ?_|refine Qc ?_|refine Qd ?_|refine Qe ?_|refine Qf ?_)|((with_reducible refine Qo ?_ ?_);focus rfl)|((with_reducible first|refine QT 8 (l:=?_) ?_ ?_|refine QF 8 (l:=?_) ?_ ?_);rotate_left 1;focus (simp only [Zu,Nat.reduceSub,Nat.reduceBEq];with_reducible rfl))|((with_reducible first|refine QS (cfg_ok 42) Tab.none (s':=?_) ?_ ?_|refine QC (b:=?_) ?_ ?_);rotate_left 1;focus ((with_reducible refine QW ?_);simp only [Zg,seval,if_true,if_false,reduceCtorEq,Nat.reduceEqDiff,eL,eI,List.length_map,i1,i2,i3,hw1,hw2,hj,Int.toNat_natCast];with_reducible rfl)))
   refine RunK.loop (β:=Nat) (γ:=Unit) (fun i => ⟨[(0,.c (.val (.sl 1 (t.map eI)))),(1,.c (.val (.int n))),(2,.c (.own 2 (out ++ (List.range i).flatMap g).length)),(7,.c (.val (.int (L + 1 - (i:Nat)))))],[(2,.row 1 ((out ++ (List.range i).flatMap g).map eL) false)]⟩)
    (fun i => i ≤ (L + 1).toNat) (fun i => (L + 1).toNat - i)
    (fun _ => ⟨[(2,.c (.own 2 (out ++ (List.range (L + 1).toNat).flatMap g).length))],[(2,.row 1 ((out ++ (List.range (L + 1).toNat).flatMap g).map eL) false)]⟩) (fun _ => True) 0 (Nat.zero_le _) ?_ ?_ ?_
   ·(repeat' (first|with_reducible refine Qn|((with_reducible refine Qr ?_ ?_);focus (first|with_reducible rfl|(simp only [Zz,Nat.reduceBEq,List.range_zero,List.flatMap_nil,List.append_nil,List.length_map,Int.natCast_zero,Int.sub_zero];done)|rfl))|((with_reducible refine Qj (o':=?_) ?_ ?_ ?_);rotate_left 1;focus rfl)|((with_reducible refine Qw ?_ ?_);(focus (first|with_reducible rfl|(simp only [Zv,List.range_zero,List.flatMap_nil,List.append_nil,List.length_map,Int.natCast_zero,Int.sub_zero];done)));focus (first|exact id|exact (fun h => nomatch h)|exact (fun _ => rfl)))))
   ·intro i hi
    have hi:i ≤ (L + 1).toNat:=hi
    by_cases h3:i < (L + 1).toNat
    ·have j1:(L + 1 - (i:Nat) ≥ 1) = True:=eq_true (by omega)
     have hfl:=flat_le g (show i + 1 ≤ (L + 1).toNat by omega)
     have hsn:(List.range (i + 1)).flatMap g = (List.range i).flatMap g ++ g i:=by rw [List.range_succ,List.flatMap_append];simp
     have hih:=ih (t ++ [L + 1 - (i:Nat)]) (out ++ (List.range i).flatMap g) (levP_snoc hlev (by omega) (by rw [← hL2];omega)) (by simp;omega) (by simp;omega) (by
      rw [hsn] at hfl
      have e:(growF f (t ++ [L + 1 - (i:Nat)]) n).length = (g i).length:=by rw [hgd]
      rw [e]
      simp only [List.length_append] at hfl hsz ⊢
      omega)
     rw [show growF f (t ++ [L + 1 - (i:Nat)]) n = g i by rw [hgd],show eL (t ++ [L + 1 - (i:Nat)]) = [.sl 1 (t.map eI ++ [[.int (L + 1 - (i:Nat))]])] by simp [eL,eI],List.append_assoc,← hsn] at hih
     have q1:=big_le (n:=t.length + 1) (by omega)
     have q2:=big_mul (n:=t.length + 1) (c:=8) (by omega) (by omega)
     have hw3:w64 (L + 1 - (i:Nat) - 1) = L + 1 - ((i + 1:Nat)):=by rw [w64_eq (by omega)];omega
     repeat' (first|with_reducible (first|refine Q1 ?_|refine Q2 ?_|refine Q3 ?_|refine Q4 ?_|refine Q5 ?_|refine Q6 ?_|refine Q7 ?_|refine Q8 ?_|refine Q9 ?_|refine Qa ?_|refine Qb ?_|refine Qc ?_|refine Qd ?_|refine Qe ?_|refine Qf ?_)|((with_reducible refine Qo ?_ ?_);focus rfl)|((with_reducible first|refine QT 8 (l:=?_) ?_ ?_|refine QF 8 (l:=?_) ?_ ?_);rotate_left 1;focus (simp only [Zu,Nat.reduceSub,Nat.reduceBEq];with_reducible rfl))|((with_reducible first|refine QS (cfg_ok 42) Tab.none (s':=?_) ?_ ?_|refine QC (b:=?_) ?_ ?_);rotate_left 1;focus ((with_reducible refine QW ?_);simp only [Zg,seval,if_true,if_false,reduceCtorEq,Nat.reduceEqDiff,j1];with_reducible rfl)))
     refine RunK.regCut (cfg_ok 42) (Tab.none.at' 73 how) 7 (s1:=?_) ?_ ?_
     rotate_left 1
     focus (refine Work.mk ?_;simp only [Zg,seval,if_true,if_false,reduceCtorEq,Nat.reduceEqDiff,eL,eI,List.length_map,q1,q2];with_reducible rfl)
     simp only [List.toList_toArray,List.drop_succ_cons,List.drop_zero]
     refine ROps.frzs [37] ?_
     refine ROps.opsT (cfg_ok 42) (T:=Tab.none.own' 58 2 hih) (s':=?_) ?_ ?_
     rotate_left 1
     focus (simp only [Zg,seval,if_true,if_false,reduceCtorEq,Nat.reduceEqDiff,eL,eI,Tab.own',atOwn_eq];with_reducible rfl)
     repeat' (first|with_reducible (first|refine Q1 ?_|refine Q2 ?_|refine Q3 ?_|refine Q4 ?_|refine Q5 ?_|refine Q6 ?_|refine Q7 ?_|refine Q8 ?_|refine Q9 ?_|refine Qa ?_|refine Qb ?_|refine Qc ?_|refine Qd ?_|refine Qe ?_|refine Qf ?_)|((with_reducible refine Qo ?_ ?_);focus rfl)|((with_reducible first|refine QT 8 (l:=?_) ?_ ?_|refine QF 8 (l:=?_) ?_ ?_);rotate_left 1;focus (simp only [Zu,Nat.reduceSub,Nat.reduceBEq];with_reducible rfl))|((with_reducible first|refine QS (cfg_ok 42) Tab.none (s':=?_) ?_ ?_|refine QC (b:=?_) ?_ ?_);rotate_left 1;focus ((with_reducible refine QW ?_);simp only [Zg,seval,if_true,if_false,reduceCtorEq,Nat.reduceEqDiff,hw3];with_reducible rfl)))
     refine roundK.on (i + 1) ⟨h3,by omega⟩ ?_
     (repeat' (first|with_reducible refine Qn|((with_reducible refine Qr ?_ ?_);focus (first|with_reducible rfl|(simp only [Zz,Nat.reduceBEq,List.length_map];done)|rfl))|((with_reducible refine Qj (o':=?_) ?_ ?_ ?_);rotate_left 1;focus rfl)|((with_reducible refine Qw ?_ ?_);(focus (first|with_reducible rfl|(simp only [Zv,List.length_map];done)));focus (first|exact id|exact (fun h => nomatch h)|exact (fun _ => rfl)))))
    ·have j1:(L + 1 - (i:Nat) ≥ 1) = False:=eq_false (by omega)
     obtain rfl:i = (L + 1).toNat:=by omega
     repeat' (first|with_reducible (first|refine Q1 ?_|refine Q2 ?_|refine Q3 ?_|refine Q4 ?_|refine Q5 ?_|refine Q6 ?_|refine Q7 ?_|refine Q8 ?_|refine Q9 ?_|refine Qa ?_|refine Qb ?_|refine Qc ?_|refine Qd ?_|refine Qe ?_|refine Qf ?_)|((with_reducible refine Qo ?_ ?_);focus rfl)|((with_reducible first|refine QT 8 (l:=?_) ?_ ?_|refine QF 8 (l:=?_) ?_ ?_);rotate_left 1;focus (simp only [Zu,Nat.reduceSub,Nat.reduceBEq];with_reducible rfl))|((with_reducible first|refine QS (cfg_ok 42) Tab.none (s':=?_) ?_ ?_|refine QC (b:=?_) ?_ ?_);rotate_left 1;focus ((with_reducible refine QW ?_);simp only [Zg,seval,if_true,if_false,reduceCtorEq,Nat.reduceEqDiff,j1];with_reducible rfl)))
     refine roundK.out () trivial ?_
     (repeat' (first|with_reducible refine Qn|((with_reducible refine Qr ?_ ?_);focus (first|with_reducible rfl|(simp only [Zz,Nat.reduceBEq];done)|rfl))|((with_reducible refine Qj (o':=?_) ?_ ?_ ?_);rotate_left 1;focus rfl)|((with_reducible refine Qw ?_ ?_);(focus (first|with_reducible rfl|(simp only [Zv];done)));focus (first|exact id|exact (fun h => nomatch h)|exact (fun _ => rfl)))))
   ·rintro _ _
    repeat' (first|with_reducible (first|refine Q1 ?_|refine Q2 ?_|refine Q3 ?_|refine Q4 ?_|refine Q5 ?_|refine Q6 ?_|refine Q7 ?_|refine Q8 ?_|refine Q9 ?_|refine Qa ?_|refine Qb ?_|refine Qc ?_|refine Qd ?_|refine Qe ?_|refine Qf ?_)|((with_reducible refine Qo ?_ ?_);focus rfl)|((with_reducible first|refine QT 8 (l:=?_) ?_ ?_|refine QF 8 (l:=?_) ?_ ?_);rotate_left 1;focus (simp only [Zu,Nat.reduceSub,Nat.reduceBEq];with_reducible rfl))|((with_reducible first|refine QS (cfg_ok 42) Tab.none (s':=?_) ?_ ?_|refine QC (b:=?_) ?_ ?_);rotate_left 1;focus ((with_reducible refine QW ?_);simp only [Zg,seval,if_true,if_false,reduceCtorEq,Nat.reduceEqDiff];with_reducible rfl)))
    (refine Ends.mk (by simp) (rs:=?_) (ks:=?_) hres hrts ?_ ?_ ?_;rotate_left 2;(focus (simp only [Ze,Zg,seval,if_true,if_false,reduceCtorEq,Nat.reduceEqDiff];with_reducible rfl));(focus simp);focus (first|with_reducible rfl|(simp only [Zv];done)))
theorem a_l03Trees (n:Nat) (hn:n ∈ [1,2,3,4,5,6,7,8]):AFn Try.prog 42 [eI n] (· = [.own 1 ((treesN n).map eL) false]):=by
 have hn8:1 ≤ n∧n ≤ 8:=by simp at hn;omega
 have hlen:(treesN n).length ≤ 115:=by
  have:=trees_len
  simp at hn
  rcases hn with rfl|rfl|rfl|rfl|rfl|rfl|rfl|rfl <;> simp at this <;> omega
 have hg:=(a_l03Grow n hn8.2 9 [0] [] ⟨rfl,fun i h1 h2 => by simp at h2⟩ (by simp;omega) (by simp;omega) (by rw [grow_trees n hn];simp;omega)).nil (by decide)
 rw [grow_trees n hn,List.nil_append] at hg
 refine AFn.of_runs (cfg_ok 6) Try.func42 rfl rfl rfl (by simp only [List.length_cons,List.length_nil];decide) ?_
 have hres:Try.f42.results.toList = [.tmp 2]:=rfl
 have hrts:Try.f42.resultTypes.toList = [39]:=rfl
 simp only [argRegs,argAV1,eL,eI,eLL,eB,Nat.zero_add,Nat.reduceAdd]
 intro M
 refine RunK.of ?_
 repeat' (first|with_reducible (first|refine Q1 ?_|refine Q2 ?_|refine Q3 ?_|refine Q4 ?_|refine Q5 ?_|refine Q6 ?_|refine Q7 ?_|refine Q8 ?_|refine Q9 ?_|refine Qa ?_|refine Qb ?_|refine Qc ?_|refine Qd ?_|refine Qe ?_|refine Qf ?_)|((with_reducible refine Qo ?_ ?_);focus rfl)|((with_reducible first|refine QT 3 (l:=?_) ?_ ?_|refine QF 3 (l:=?_) ?_ ?_);rotate_left 1;focus (simp only [Zu,Nat.reduceSub,Nat.reduceBEq];with_reducible rfl))|((with_reducible first|refine QS (cfg_ok 6) Tab.none (s':=?_) ?_ ?_|refine QC (b:=?_) ?_ ?_);rotate_left 1;focus ((with_reducible refine QW ?_);simp only [Zg,seval,if_true,if_false,reduceCtorEq,Nat.reduceEqDiff];with_reducible rfl)))
 refine RunK.regCut (cfg_ok 6) Tab.none 2 (s1:=?_) ?_ ?_
 rotate_left 1
 focus (refine Work.mk ?_;simp only [Zg,seval,if_true,if_false,reduceCtorEq,Nat.reduceEqDiff];with_reducible rfl)
 simp only [List.toList_toArray,List.drop_succ_cons,List.drop_zero]
 refine ROps.frzs [3] ?_
 refine ROps.callNil (cfg_ok 6) (d:=5) (g:=58) (xs:=[.tmp 3,.tmp 4]) (tx:=[22,2]) (pre:=[eL [0],eI n]) rfl (by decide) rfl rfl rfl rfl rfl rfl hg rfl ?_
 refine ROps.opsT (cfg_ok 6) (T:=Tab.none) (s':=?_) ?_ ?_
 rotate_left 1
 focus (simp only [Zg,seval,if_true,if_false,reduceCtorEq,Nat.reduceEqDiff];with_reducible rfl)
 repeat' (first|with_reducible (first|refine Q1 ?_|refine Q2 ?_|refine Q3 ?_|refine Q4 ?_|refine Q5 ?_|refine Q6 ?_|refine Q7 ?_|refine Q8 ?_|refine Q9 ?_|refine Qa ?_|refine Qb ?_|refine Qc ?_|refine Qd ?_|refine Qe ?_|refine Qf ?_)|((with_reducible refine Qo ?_ ?_);focus rfl)|((with_reducible first|refine QT 3 (l:=?_) ?_ ?_|refine QF 3 (l:=?_) ?_ ?_);rotate_left 1;focus (simp only [Zu,Nat.reduceSub,Nat.reduceBEq];with_reducible rfl))|((with_reducible first|refine QS (cfg_ok 6) Tab.none (s':=?_) ?_ ?_|refine QC (b:=?_) ?_ ?_);rotate_left 1;focus ((with_reducible refine QW ?_);simp only [Zg,seval,if_true,if_false,reduceCtorEq,Nat.reduceEqDiff];with_reducible rfl)))
 (refine Ends.mk (by simp) (rs:=?_) (ks:=?_) hres hrts ?_ ?_ ?_;rotate_left 2;(focus (simp only [Ze,Zg,seval,if_true,if_false,reduceCtorEq,Nat.reduceEqDiff];with_reducible rfl));(focus simp);focus (first|with_reducible rfl|(simp only [Zv];done)))
end Go.Proofs.Ytfhmonacgmakbaa
namespace Go.Proofs.Ytfhmonacgmakbaa
open Go.RowKit
theorem allTo_le {d:Nat} (h:d ≤ 8):(allTo d).length ≤ 200:=by
 obtain ⟨r,e⟩:=allTo_pre d (8 - d)
 rw [Nat.add_sub_cancel' h] at e
 have:=allTo_len
 rw [e,List.length_append] at this
 omega
set_option maxHeartbeats 4000000 in
theorem a_treesTo (n:Nat) (hn:n ≤ 8):AFn Try.prog 27 [eI n] (· = [.own 1 ((allTo n).map eL) false]):=by
 refine AFn.of_runs (cfg_ok 16) Try.func27 rfl rfl rfl (by simp only [List.length_cons,List.length_nil];decide) ?_
 have hres:Try.f27.results.toList = [.tmp 2]:=rfl
 have hrts:Try.f27.resultTypes.toList = [39]:=rfl
 simp only [argRegs,argAV1,eL,eI,eLL,eB,Nat.zero_add,Nat.reduceAdd]
 intro M
 refine RunK.of ?_
 repeat' (first|with_reducible (first|refine Q1 ?_|refine Q2 ?_|refine Q3 ?_|refine Q4 ?_|refine Q5 ?_|refine Q6 ?_|refine Q7 ?_|refine Q8 ?_|refine Q9 ?_|refine Qa ?_|refine Qb ?_|refine Qc ?_|refine Qd ?_|refine Qe ?_|refine Qf ?_)|((with_reducible refine Qo ?_ ?_);focus rfl)|((with_reducible first|refine QT 5 (l:=?_) ?_ ?_|refine QF 5 (l:=?_) ?_ ?_);rotate_left 1;focus (simp only [Zu,Nat.reduceSub,Nat.reduceBEq];with_reducible rfl))|((with_reducible first|refine QS (cfg_ok 16) Tab.none (s':=?_) ?_ ?_|refine QC (b:=?_) ?_ ?_);rotate_left 1;focus ((with_reducible refine QW ?_);simp only [Zg,seval,if_true,if_false,reduceCtorEq,Nat.reduceEqDiff];with_reducible rfl)))
 refine RunK.loop (β:=Nat) (γ:=Unit) (fun i => ⟨[(0,.c (.val (.int n))),(3,.c (.own 3 (allTo i).length)),(4,.c (.val (.int ((i + 1:Nat):Int))))],[(3,.row 1 ((allTo i).map eL) false)]⟩) (fun i => i ≤ n) (fun i => n - i)
  (fun _ => ⟨[(3,.c (.own 3 (allTo n).length))],[(3,.row 1 ((allTo n).map eL) false)]⟩) (fun _ => True) 0 (Nat.zero_le _) ?_ ?_ ?_
 ·(repeat' (first|with_reducible refine Qn|((with_reducible refine Qr ?_ ?_);focus (first|with_reducible rfl|(simp only [Zz,Nat.reduceBEq,show allTo 0 = [] from rfl,List.map_nil];done)|rfl))|((with_reducible refine Qj (o':=?_) ?_ ?_ ?_);rotate_left 1;focus rfl)|((with_reducible refine Qw ?_ ?_);(focus (first|with_reducible rfl|(simp only [Zv,show allTo 0 = [] from rfl,List.map_nil];done)));focus (first|exact id|exact (fun h => nomatch h)|exact (fun _ => rfl)))))
 ·intro i hi
  have hi:i ≤ n:=hi
  by_cases h:i < n
  ·have j1:(((i + 1:Nat):Int) ≤ (n:Int)) = True:=eq_true (by omega)
   have ht:=a_treesOf (i + 1) (by simp;omega)
   have hw:=w64_succ (n:=i + 1) (by omega)
   have hlen:=allTo_le (show i + 1 ≤ 8 by omega)
   rw [allTo_succ,List.length_append] at hlen
   have q1:=big_le (n:=(allTo i).length + (treesN (i + 1)).length) (by omega)
   have q2:=big_mul (n:=(allTo i).length + (treesN (i + 1)).length) (c:=24) (by omega) (by omega)
   repeat' (first|with_reducible (first|refine Q1 ?_|refine Q2 ?_|refine Q3 ?_|refine Q4 ?_|refine Q5 ?_|refine Q6 ?_|refine Q7 ?_|refine Q8 ?_|refine Q9 ?_|refine Qa ?_|refine Qb ?_|refine Qc ?_|refine Qd ?_|refine Qe ?_|refine Qf ?_)|((with_reducible refine Qo ?_ ?_);focus rfl)|((with_reducible first|refine QT 5 (l:=?_) ?_ ?_|refine QF 5 (l:=?_) ?_ ?_);rotate_left 1;focus (simp only [Zu,Nat.reduceSub,Nat.reduceBEq];with_reducible rfl))|((with_reducible first|refine QS (cfg_ok 16) ((Tab.none.at' 39 ht)) (s':=?_) ?_ ?_|refine QC (b:=?_) ?_ ?_);rotate_left 1;focus ((with_reducible refine QW ?_);simp only [Zg,seval,if_true,if_false,reduceCtorEq,Nat.reduceEqDiff,j1,hw,q1,q2,List.length_map,eI];with_reducible rfl)))
   refine roundK.on (i + 1) ⟨h,by omega⟩ ?_
   rw [allTo_succ]
   (repeat' (first|with_reducible refine Qn|((with_reducible refine Qr ?_ ?_);focus (first|with_reducible rfl|(simp only [Zz,Nat.reduceBEq];done)|rfl))|((with_reducible refine Qj (o':=?_) ?_ ?_ ?_);rotate_left 1;focus rfl)|((with_reducible refine Qw ?_ ?_);(focus (first|with_reducible rfl|(simp only [Zv];done)));focus (first|exact id|exact (fun h => nomatch h)|exact (fun _ => rfl)))))
  ·have j1:(((i + 1:Nat):Int) ≤ (n:Int)) = False:=eq_false (by omega)
   obtain rfl:i = n:=by omega
   repeat' (first|with_reducible (first|refine Q1 ?_|refine Q2 ?_|refine Q3 ?_|refine Q4 ?_|refine Q5 ?_|refine Q6 ?_|refine Q7 ?_|refine Q8 ?_|refine Q9 ?_|refine Qa ?_|refine Qb ?_|refine Qc ?_|refine Qd ?_|refine Qe ?_|refine Qf ?_)|((with_reducible refine Qo ?_ ?_);focus rfl)|((with_reducible first|refine QT 5 (l:=?_) ?_ ?_|refine QF 5 (l:=?_) ?_ ?_);rotate_left 1;focus (simp only [Zu,Nat.reduceSub,Nat.reduceBEq];with_reducible rfl))|((with_reducible first|refine QS (cfg_ok 16) Tab.none (s':=?_) ?_ ?_|refine QC (b:=?_) ?_ ?_);rotate_left 1;focus ((with_reducible refine QW ?_);simp only [Zg,seval,if_true,if_false,reduceCtorEq,Nat.reduceEqDiff,j1];with_reducible rfl)))
   refine roundK.out () trivial ?_
   (repeat' (first|with_reducible refine Qn|((with_reducible refine Qr ?_ ?_);focus (first|with_reducible rfl|(simp only [Zz,Nat.reduceBEq];done)|rfl))|((with_reducible refine Qj (o':=?_) ?_ ?_ ?_);rotate_left 1;focus rfl)|((with_reducible refine Qw ?_ ?_);(focus (first|with_reducible rfl|(simp only [Zv];done)));focus (first|exact id|exact (fun h => nomatch h)|exact (fun _ => rfl)))))
 ·rintro _ _
  repeat' (first|with_reducible (first|refine Q1 ?_|refine Q2 ?_|refine Q3 ?_|refine Q4 ?_|refine Q5 ?_|refine Q6 ?_|refine Q7 ?_|refine Q8 ?_|refine Q9 ?_|refine Qa ?_|refine Qb ?_|refine Qc ?_|refine Qd ?_|refine Qe ?_|refine Qf ?_)|((with_reducible refine Qo ?_ ?_);focus rfl)|((with_reducible first|refine QT 5 (l:=?_) ?_ ?_|refine QF 5 (l:=?_) ?_ ?_);rotate_left 1;focus (simp only [Zu,Nat.reduceSub,Nat.reduceBEq];with_reducible rfl))|((with_reducible first|refine QS (cfg_ok 16) Tab.none (s':=?_) ?_ ?_|refine QC (b:=?_) ?_ ?_);rotate_left 1;focus ((with_reducible refine QW ?_);simp only [Zg,seval,if_true,if_false,reduceCtorEq,Nat.reduceEqDiff];with_reducible rfl)))
  (refine Ends.mk (by simp) (rs:=?_) (ks:=?_) hres hrts ?_ ?_ ?_;rotate_left 2;(focus (simp only [Ze,Zg,seval,if_true,if_false,reduceCtorEq,Nat.reduceEqDiff];with_reducible rfl));(focus simp);focus (first|with_reducible rfl|(simp only [Zv];done)))
set_option maxHeartbeats 4000000 in
theorem a_l03All (n:Nat) (hn:n ≤ 8):AFn Try.prog 29 [eI n] (· = [.own 1 ((allTo n).map eL) false]):=by
 refine AFn.of_runs (cfg_ok 16) Try.func29 rfl rfl rfl (by simp only [List.length_cons,List.length_nil];decide) ?_
 have hres:Try.f29.results.toList = [.tmp 2]:=rfl
 have hrts:Try.f29.resultTypes.toList = [39]:=rfl
 simp only [argRegs,argAV1,eL,eI,eLL,eB,Nat.zero_add,Nat.reduceAdd]
 intro M
 refine RunK.of ?_
 repeat' (first|with_reducible (first|refine Q1 ?_|refine Q2 ?_|refine Q3 ?_|refine Q4 ?_|refine Q5 ?_|refine Q6 ?_|refine Q7 ?_|refine Q8 ?_|refine Q9 ?_|refine Qa ?_|refine Qb ?_|refine Qc ?_|refine Qd ?_|refine Qe ?_|refine Qf ?_)|((with_reducible refine Qo ?_ ?_);focus rfl)|((with_reducible first|refine QT 5 (l:=?_) ?_ ?_|refine QF 5 (l:=?_) ?_ ?_);rotate_left 1;focus (simp only [Zu,Nat.reduceSub,Nat.reduceBEq];with_reducible rfl))|((with_reducible first|refine QS (cfg_ok 16) Tab.none (s':=?_) ?_ ?_|refine QC (b:=?_) ?_ ?_);rotate_left 1;focus ((with_reducible refine QW ?_);simp only [Zg,seval,if_true,if_false,reduceCtorEq,Nat.reduceEqDiff];with_reducible rfl)))
 refine RunK.loop (β:=Nat) (γ:=Unit) (fun i => ⟨[(0,.c (.val (.int n))),(3,.c (.own 3 (allTo i).length)),(4,.c (.val (.int ((i + 1:Nat):Int))))],[(3,.row 1 ((allTo i).map eL) false)]⟩) (fun i => i ≤ n) (fun i => n - i)
  (fun _ => ⟨[(3,.c (.own 3 (allTo n).length))],[(3,.row 1 ((allTo n).map eL) false)]⟩) (fun _ => True) 0 (Nat.zero_le _) ?_ ?_ ?_
 ·(repeat' (first|with_reducible refine Qn|((with_reducible refine Qr ?_ ?_);focus (first|with_reducible rfl|(simp only [Zz,Nat.reduceBEq,show allTo 0 = [] from rfl,List.map_nil];done)|rfl))|((with_reducible refine Qj (o':=?_) ?_ ?_ ?_);rotate_left 1;focus rfl)|((with_reducible refine Qw ?_ ?_);(focus (first|with_reducible rfl|(simp only [Zv,show allTo 0 = [] from rfl,List.map_nil];done)));focus (first|exact id|exact (fun h => nomatch h)|exact (fun _ => rfl)))))
 ·intro i hi
  have hi:i ≤ n:=hi
  by_cases h:i < n
  ·have j1:(((i + 1:Nat):Int) ≤ (n:Int)) = True:=eq_true (by omega)
   have ht:=a_l03Trees (i + 1) (by simp;omega)
   have hw:=w64_succ (n:=i + 1) (by omega)
   have hlen:=allTo_le (show i + 1 ≤ 8 by omega)
   rw [allTo_succ,List.length_append] at hlen
   have q1:=big_le (n:=(allTo i).length + (treesN (i + 1)).length) (by omega)
   have q2:=big_mul (n:=(allTo i).length + (treesN (i + 1)).length) (c:=24) (by omega) (by omega)
   repeat' (first|with_reducible (first|refine Q1 ?_|refine Q2 ?_|refine Q3 ?_|refine Q4 ?_|refine Q5 ?_|refine Q6 ?_|refine Q7 ?_|refine Q8 ?_|refine Q9 ?_|refine Qa ?_|refine Qb ?_|refine Qc ?_|refine Qd ?_|refine Qe ?_|refine Qf ?_)|((with_reducible refine Qo ?_ ?_);focus rfl)|((with_reducible first|refine QT 5 (l:=?_) ?_ ?_|refine QF 5 (l:=?_) ?_ ?_);rotate_left 1;focus (simp only [Zu,Nat.reduceSub,Nat.reduceBEq];with_reducible rfl))|((with_reducible first|refine QS (cfg_ok 16) ((Tab.none.at' 42 ht)) (s':=?_) ?_ ?_|refine QC (b:=?_) ?_ ?_);rotate_left 1;focus ((with_reducible refine QW ?_);simp only [Zg,seval,if_true,if_false,reduceCtorEq,Nat.reduceEqDiff,j1,hw,q1,q2,List.length_map,eI];with_reducible rfl)))
   refine roundK.on (i + 1) ⟨h,by omega⟩ ?_
   rw [allTo_succ]
   (repeat' (first|with_reducible refine Qn|((with_reducible refine Qr ?_ ?_);focus (first|with_reducible rfl|(simp only [Zz,Nat.reduceBEq];done)|rfl))|((with_reducible refine Qj (o':=?_) ?_ ?_ ?_);rotate_left 1;focus rfl)|((with_reducible refine Qw ?_ ?_);(focus (first|with_reducible rfl|(simp only [Zv];done)));focus (first|exact id|exact (fun h => nomatch h)|exact (fun _ => rfl)))))
  ·have j1:(((i + 1:Nat):Int) ≤ (n:Int)) = False:=eq_false (by omega)
   obtain rfl:i = n:=by omega
   repeat' (first|with_reducible (first|refine Q1 ?_|refine Q2 ?_|refine Q3 ?_|refine Q4 ?_|refine Q5 ?_|refine Q6 ?_|refine Q7 ?_|refine Q8 ?_|refine Q9 ?_|refine Qa ?_|refine Qb ?_|refine Qc ?_|refine Qd ?_|refine Qe ?_|refine Qf ?_)|((with_reducible refine Qo ?_ ?_);focus rfl)|((with_reducible first|refine QT 5 (l:=?_) ?_ ?_|refine QF 5 (l:=?_) ?_ ?_);rotate_left 1;focus (simp only [Zu,Nat.reduceSub,Nat.reduceBEq];with_reducible rfl))|((with_reducible first|refine QS (cfg_ok 16) Tab.none (s':=?_) ?_ ?_|refine QC (b:=?_) ?_ ?_);rotate_left 1;focus ((with_reducible refine QW ?_);simp only [Zg,seval,if_true,if_false,reduceCtorEq,Nat.reduceEqDiff,j1];with_reducible rfl)))
   refine roundK.out () trivial ?_
   (repeat' (first|with_reducible refine Qn|((with_reducible refine Qr ?_ ?_);focus (first|with_reducible rfl|(simp only [Zz,Nat.reduceBEq];done)|rfl))|((with_reducible refine Qj (o':=?_) ?_ ?_ ?_);rotate_left 1;focus rfl)|((with_reducible refine Qw ?_ ?_);(focus (first|with_reducible rfl|(simp only [Zv];done)));focus (first|exact id|exact (fun h => nomatch h)|exact (fun _ => rfl)))))
 ·rintro _ _
  repeat' (first|with_reducible (first|refine Q1 ?_|refine Q2 ?_|refine Q3 ?_|refine Q4 ?_|refine Q5 ?_|refine Q6 ?_|refine Q7 ?_|refine Q8 ?_|refine Q9 ?_|refine Qa ?_|refine Qb ?_|refine Qc ?_|refine Qd ?_|refine Qe ?_|refine Qf ?_)|((with_reducible refine Qo ?_ ?_);focus rfl)|((with_reducible first|refine QT 5 (l:=?_) ?_ ?_|refine QF 5 (l:=?_) ?_ ?_);rotate_left 1;focus (simp only [Zu,Nat.reduceSub,Nat.reduceBEq];with_reducible rfl))|((with_reducible first|refine QS (cfg_ok 16) Tab.none (s':=?_) ?_ ?_|refine QC (b:=?_) ?_ ?_);rotate_left 1;focus ((with_reducible refine QW ?_);simp only [Zg,seval,if_true,if_false,reduceCtorEq,Nat.reduceEqDiff];with_reducible rfl)))
  (refine Ends.mk (by simp) (rs:=?_) (ks:=?_) hres hrts ?_ ?_ ?_;rotate_left 2;(focus (simp only [Ze,Zg,seval,if_true,if_false,reduceCtorEq,Nat.reduceEqDiff];with_reducible rfl));(focus simp);focus (first|with_reducible rfl|(simp only [Zv];done)))
set_option maxRecDepth 100000 in
set_option maxHeartbeats 1000000 in
theorem c_indexIn (v1 v2:Value) (L:List (List Int)) (t:List Int) (i:Nat) (w:World) (h1:Rd (RS (RS RI)) w [v1] L) (h2:Rd (RS RI) w [v2] t) (hsz:L.length ≤ 1000000000) (hi:i < L.length)
  (hlo:∀ k (h:k < L.length),k < i→cmpT L[k] t < 0) (hhi:∀ k (h:k < L.length),i ≤ k→0 ≤ cmpT L[k] t) (heq:cmpT L[i] t = 0) :
  Calls Try.prog 52 #[v1,v2] w (RetS w (.int .i64 i)):=by
 have hb:=Lib.hid (c_BinarySearch v1 v2 L t i w h1 h2 hsz hi hlo hhi heq)
 clear h1 h2 hlo hhi heq
 go_enter Try.func52,Try.ntmps52
 go_wp2_with (go_at_call 68;refine hb.out.mono ?_;rintro e w' ⟨rfl,rfl⟩)
 go_ret
 exact ⟨rfl,rfl⟩
theorem a_indexIn (L:List (List Int)) (t:List Int) (i:Nat) (hsz:L.length ≤ 1000000000) (hi:i < L.length) (heq:L[i] = t)
  (hlo:∀ k (h:k < L.length),k < i→cmpT L[k] t < 0) (hhi:∀ k (h:k < L.length),i ≤ k→0 ≤ cmpT L[k] t):AFn Try.prog 52 [eLL L,eL t] (· = [.val (.int i)]) :=
 AFn.of_s (v:=.int .i64 _) (enters_of Try.func52 rfl rfl) (fun _ _ => rdV_int.2 ⟨rfl,by unfold In64;omega⟩) (fun w A vs ⟨v1,_,e1,h1,v2,_,e2,h2,e3⟩ => by
  subst e3;subst e2;subst e1
  exact c_indexIn v1 v2 L t i w (Rd.of (rdLL h1)) (Rd.of (rd1 h2)) hsz hi hlo hhi (by rw [heq];exact cmpT_cmp.refl t))
end Go.Proofs.Ytfhmonacgmakbaa
namespace Go.Proofs.Ytfhmonacgmakbaa
open Go.RowKit
section
variable {P:Program} {cfg:Cfg} {M:Nat→Prop} {ops:Array Oper} {s:St}
theorem ROps.gives (o:Oper) {l:List Oper} {Q:St→Prop} {d:Nat} {av:AV} (hg:o.guard = none) (hd:o.dst = some d) (hdN:d < cfg.N)
  (hG:∀ {w0:W0} {Ok σ a w},Sim w0 Ok cfg.N σ s a w→Gives P a w o (relAV σ s.heap w av)) (h:ROps P cfg M ops l Q ⟨insR d av s.regs,s.heap⟩):ROps P cfg M ops (o :: l) Q s:=by
 intro w0 Ok σ a w Q' hM hS hQ
 refine wpList_step (fun K hK => ?_)
 have hw:awanted ops s.regs o = some true:=by unfold awanted;rw [hg]
 rw [awanted_spec hS hw]
 simp only [if_true]
 obtain ⟨v,h1,h2⟩:=hG hS
 unfold Oper.wp
 rw [h1]
 show K (a.put o.dst _) _
 rw [hd]
 exact hK _ _ (h w0 Ok σ _ _ Q' hM (Sim.ins hS hdN h2) hQ)
end
end Go.Proofs.Ytfhmonacgmakbaa
namespace Go.Proofs.Ytfhmonacgmakbaa
open Go.RowKit
def rowA:Obj→Option (List AC)
 | .lit _ [r] => some r
 | .row _ [r] _ => some (r.map .val)
 | _ => none
def acellsA (h:Nat→Option Obj):AV→Option (List AC)
 | .optr key 0 j => (h key).bind fun o => (rowA o).map (·.drop j)
 | _ => none
def aloadA (z:List D) (st:Bool) (cs:List AC):Option AV :=
 if st then (if z.length ≤ cs.length then some (.agg (cs.take z.length)) else none) else (cs[0]?).map .c
section
variable {P:Program} {cfg:Cfg} {M:Nat→Prop} {ops:Array Oper} {s s':St} {w0:W0} {w:World} {Ok:Nat→Prop} {N:Nat} {σ:Asg} {a:Act} {fs:List Fr} {Q:Exit→St→Prop} {T:Tab P} {H:List (Nat × Obj)}
theorem rdCs.toA:∀ {x:List D} {us:List Value},rdCs (Zn σ H w) w us x→relCs σ H w (x.map .val) us
 | [],us,h => List.eq_nil_of_length_eq_zero (by rw [h.len];rfl)
 | y :: x,us,h => by
  obtain ⟨u,us',rfl,h3,h4⟩:=h.cons_inv
  exact ⟨u,us',rfl,h3.one,h3,rdCs.toA h4⟩
theorem relCs.len:∀ {x:List AC} {us:List Value},relCs σ H w x us→us.length = x.length
 | [],_,h => by rw [show _ = [] from h];rfl
 | y :: x,_,⟨u,us',e,_,_,h⟩ => by rw [e,List.length_cons,List.length_cons,relCs.len h]
theorem relCs.nth:∀ {x:List AC} {us:List Value},relCs σ H w x us→∀ {j:Nat} {y:AC},x[j]? = some y→∃ v,us[j]? = some v∧v.oneCell' = true∧relAC σ H w y v
 | y :: x,_,⟨u,us',e,h1,h2,h⟩,0,_,hj => by cases hj;rw [e];exact ⟨u,rfl,h1,h2⟩
 | y :: x,_,⟨u,us',e,h1,h2,h⟩,j + 1,_,hj => by rw [e];exact relCs.nth h (by simpa using hj)
theorem relCs.dropA:∀ {j:Nat} {x:List AC} {us:List Value},relCs σ H w x us→relCs σ H w (x.drop j) (us.drop j)
 | 0,_,_,h => h
 | j + 1,[],us,h => by rw [show us = [] from h];rfl
 | j + 1,y :: x,_,⟨u,us',e,_,_,h⟩ => by rw [e];exact relCs.dropA (j:=j) h
theorem relCs.takeA:∀ {j:Nat} {x:List AC} {us:List Value},relCs σ H w x us→relCs σ H w (x.take j) (us.take j)
 | 0,_,_,_ => by simp [relCs]
 | j + 1,[],us,h => by rw [show us = [] from h];rfl
 | j + 1,y :: x,_,⟨u,us',e,h1,h2,h⟩ => by rw [e];exact ⟨u,us'.take j,rfl,h1,h2,relCs.takeA (j:=j) h⟩
theorem relCs.appA:∀ {x y:List AC} {us vs:List Value},relCs σ H w x us→relCs σ H w y vs→relCs σ H w (x ++ y) (us ++ vs)
 | [],_,_,_,h,k => by rw [show _ = [] from h];exact k
 | z :: x,_,_,_,⟨u,us',e,h1,h2,h⟩,k => by rw [e];exact ⟨u,_,rfl,h1,h2,relCs.appA h k⟩
theorem Sim.rowA (h:Sim w0 Ok N σ s a w) {key:Nat} {o:Obj} (hk:look key s.heap = some o) {r:List AC} (hr:rowA o = some r) :
  o.len = 1∧0 < o.k∧∃ us,us.length = o.k∧Row w (slv (σ.g key) o.len (σ.cap key)) o.k o.len us (σ.g key)∧relCs σ s.heap w r us:=by
 unfold Go.Proofs.Ytfhmonacgmakbaa.rowA at hr
 split at hr
 ·rename_i k r'
  cases hr
  obtain ⟨ds,hrow,hkp,hel⟩:=(h.rows key _ hk).row
  obtain ⟨c,d,e,hl,hc,hd⟩:=(show relRs σ s.heap w k [r] ds from hel)
  have hd:d = []:=hd
  subst hd
  rw [List.append_nil] at e
  subst e
  exact ⟨rfl,hkp,ds,hl,hrow,hc⟩
 ·rename_i k r' d
  cases hr
  obtain ⟨ds,hrow,hkp,hel⟩:=RowOK.rd h.ok1 h.rows h.disj hk
  obtain ⟨c,e,e1,hl,hcl,hc,he⟩:=hel.cons_inv
  have he:e = []:=by
   have h1:=hrow.1
   rw [e1,List.length_append,hcl] at h1
   simp only [List.length_cons,List.length_nil] at h1
   exact List.eq_nil_of_length_eq_zero (by omega)
  subst he
  rw [List.append_nil] at e1
  subst e1
  exact ⟨rfl,hkp,ds,hcl,hrow,hc.toA⟩
 ·cases hr
theorem g_loadA (C:CfgOK P cfg) (h:Sim w0 Ok N σ s a w) {o:Oper} {x:Operand} {t:TypeId} {z:List D} {st:Bool} (ho:o.op = .load t x) (ht:cfg.ty t = some (z,st)) {v av:AV} (hx:opv s.regs x = some v)
  {cs:List AC} (hc:acellsA (fun k => look k s.heap) v = some cs) (hv:aloadA z st cs = some av):Gives P a w o (relAV σ s.heap w av):=by
 obtain ⟨zv,ti,d,t1,t2,t3,t4,t5,t6,t7,t8⟩:=C.ty t z st ht
 have hrel:=opv_rel h hx
 unfold acellsA at hc
 split at hc
 ·rename_i key j
  obtain ⟨ob,hk,hc⟩:=bind_some hc
  obtain ⟨r,hr,e0⟩:=map_some hc
  subst e0
  have hk:look key s.heap = some ob:=hk
  obtain ⟨hlen,hkp,us,hul,hrow,hcs⟩:=h.rowA hk hr
  obtain ⟨_,b,hg,e⟩:=hrel _ hk
  rw [hg] at hrow
  rw [Nat.zero_mul,Nat.zero_add] at e
  have hcd:=hcs.dropA (j:=j)
  have hcell:∀ q u,(us.drop j)[q]? = some u→w.cell? ⟨b,j + q,none⟩ = some u:=fun q u hu => hrow.cells _ _ (by rw [List.getElem?_drop] at hu;exact hu)
  unfold aloadA at hv
  cases st with
  | true =>
   rw [if_pos rfl] at hv
   split at hv
   ·rename_i hl
    cases hv
    have h2:=hcd.takeA (j:=z.length)
    obtain ⟨vs,hvs⟩:∃ vs,vs = (us.drop j).take z.length:=⟨_,rfl⟩
    rw [← hvs] at h2
    have hvl:vs.length = z.length:=by rw [h2.len,List.length_take];omega
    refine ⟨.agg vs.toArray,?_,vs,rfl,h2⟩
    unfold execOp
    rw [ho]
    have hi:(P.info? t).map (·.size) = some vs.length:=by rw [t1,hvl,← t3];rfl
    have hrange:w.rangeAt b j vs:=fun q v hq => hcell q v (by
     rw [hvs,List.getElem?_take] at hq
     split at hq
     ·exact hq
     ·cases hq)
    simp only [e,run_loadAt_mid w b j t vs d hrange t6 t7 hi,Sem.run_bind,Result.andThen_ok,Sem.run_pure]
   ·cases hv
  | false =>
   obtain ⟨d0,hd0,e0⟩:=map_some hv
   cases e0
   obtain ⟨y,hy1,hy2,hy3⟩:=hcd.nth hd0
   refine ⟨y,?_,hy2,hy3⟩
   unfold execOp
   rw [ho]
   have hagg:(isAgg t).run P w = .ok false w:=by
    unfold isAgg
    rw [Sem.run_bind,run_underlying t6 w]
    cases d <;> first|rfl|(cases t7)
   have hcell:w.cell? ⟨b,j,none⟩ = some y:=hcell 0 y hy1
   simp [e,Instr.loadAt,Instr.sureAddr,loadVar,hagg,run_load,hcell]
 ·cases hc
def devalA (cfg:Cfg) (ops:Array Oper) (o:Oper) (s:St):Option Tel :=
 match o.op with
 | .load t x => if dstOK cfg o = true∧awanted ops s.regs o = some true then
   o.dst.bind fun d => (cfg.ty t).bind fun z => (opv s.regs x).bind fun v => (acellsA (fun k => look k s.heap) v).bind fun cs => (aloadA z.1 z.2 cs).map fun av => ⟨⟨d,av,[]⟩,opRefs s.regs o.op.operands.toList⟩
  else Option.none
 | _ => Option.none
theorem acellsA_congr {h h':Nat→Option Obj} {v:AV} (hk:∀ k ∈ v.refs,h' k = h k):acellsA h' v = acellsA h v:=by
 cases v with
 | optr key i j =>
  have:=hk key (by simp [AV.refs])
  cases i with
  | zero => simp only [acellsA,this]
  | succ i => rfl
 | _ => rfl
theorem Does1.loadA (C:CfgOK P cfg) {i:Nat} {o:Oper} (hi:ops[i]? = some o) {t:Tel} (h:devalA cfg ops o s = some t):Does1 P cfg ops i s t:=by
 unfold devalA at h
 split at h
 ·rename_i ty x hop
  split at h
  ·rename_i hc
   obtain ⟨d,hd,h⟩:=bind_some h
   obtain ⟨z,hz,h⟩:=bind_some h
   obtain ⟨v,hv,h⟩:=bind_some h
   obtain ⟨cs,hcs,h⟩:=bind_some h
   obtain ⟨av,hav,rfl⟩:=map_some h
   refine ⟨o,hi,hd,fun s' h1 h2 h3 w0 Ok σ a w K Q hS hK => ?_⟩
   have hw:awanted ops s'.regs o = some true:=by rw [awanted_congr h1,hc.2]
   have hag:=agree_of (xs:=o.op.operands.toList) (fun x hx => hx) h1 h2
   have hxm:x ∈ o.op.operands.toList:=by rw [hop];simp [Op.operands]
   have hv':opv s'.regs x = some v:=by rw [hag.one hxm];exact hv
   have hcs':acellsA (fun k => look k s'.heap) v = some cs:=by rw [acellsA_congr (h:=fun k => look k s.heap) (hag.refs hxm hv)];exact hcs
   obtain ⟨u,k1,k2⟩:=g_loadA C hS hop hz hv' hcs' hav
   unfold wpOp
   simp only [hi,awanted_spec hS hw,if_true]
   left
   have hdN:d < cfg.N:=by have:=hc.1;rw [dstOK,hd] at this;simpa using this
   unfold Oper.wp
   rw [k1]
   show K (a.put o.dst _) _
   rw [hd]
   exact hK σ _ _ (Sim.ins hS hdN k2)
  ·cases h
 ·cases h
def devalL (fz la:List Nat) (cfg:Cfg) (T:Tab P) (ops:Array Oper) (o:Oper) (s:St):Option Tel :=
 bif la.contains (o.dst.getD 0) then devalA cfg ops o s else devalF fz cfg T ops o s
def drunL (fz la:List Nat) (cfg:Cfg) (T:Tab P) (ops:Array Oper):List Oper→St→List Tel × St × List Oper
 | [],s => ([],s,[])
 | o :: l,s => match devalL fz la cfg T ops o s with
  | some t => ((t :: (drunL fz la cfg T ops l (s.add t.e)).1),(drunL fz la cfg T ops l (s.add t.e)).2)
  | Option.none => ([],s,o :: l)
theorem drunL_spec {fz la:List Nat} (C:CfgOK P cfg):∀ {l:List Oper} {i:Nat} {s:St},(∀ j,l[j]? = ops[i + j]?)→Tr P cfg ops i s (drunL fz la cfg T ops l s).1 ∧
  (drunL fz la cfg T ops l s).2.1 = (drunL fz la cfg T ops l s).1.foldl (fun s t => s.add t.e) s∧(drunL fz la cfg T ops l s).2.2 = l.drop (drunL fz la cfg T ops l s).1.length
 | [],i,s,_ => ⟨trivial,rfl,rfl⟩
 | o :: l,i,s,hl => by
  have hi:ops[i]? = some o:=by have:=hl 0;simpa using this.symm
  simp only [drunL]
  cases hd:devalL fz la cfg T ops o s with
  | none => exact ⟨trivial,rfl,rfl⟩
  | some t =>
   obtain ⟨h1,h2,h3⟩:=drunL_spec (fz:=fz) (la:=la) C (l:=l) (i:=i + 1) (s:=s.add t.e) (fun j => by have:=hl (j + 1);simpa [Nat.add_assoc,Nat.add_comm 1 j] using this)
   refine ⟨⟨?_,h1⟩,by simpa using h2,by simpa using h3⟩
   unfold devalL at hd
   cases hb:la.contains (o.dst.getD 0) with
   | true => rw [hb] at hd;exact Does1.loadA C hi hd
   | false =>
    rw [hb] at hd
    have hd:devalF fz cfg T ops o s = some t:=hd
    unfold devalF at hd
    cases hb:fz.contains (o.dst.getD 0) with
    | true => rw [hb] at hd;exact Does1.lit C hi hd
    | false => rw [hb] at hd;exact Does1.opT C hi hd
theorem RunK.wFl (C:CfgOK P cfg) (T:Tab P) (hm:P.follows .mixedOrders = true) (fz la:List Nat) {id:Nat} {tr:List Tel} {s1:St} {rest:List Oper} (hr:Work (dregF s (drunL fz la cfg T ops ops.toList s)) (some (tr,s1,rest))) (h1:ChkD ops tr)
  (h:ROps P cfg M ops rest (outK P cfg M fs Q .normal) s1):RunK P cfg M (.region id ops true) fs Q s:=by
 have hr:dregF s (drunL fz la cfg T ops ops.toList s) = some (tr,s1,rest):=hr
 obtain ⟨⟨tr0,s10,rest0⟩,e⟩:∃ r,r = drunL fz la cfg T ops ops.toList s:=⟨_,rfl⟩
 rw [← e,dregF_mk] at hr
 split at hr
 ·rename_i hf
  cases hr
  obtain ⟨k1,k2,k3⟩:=drunL_spec (T:=T) (fz:=fz) (la:=la) C (ops:=ops) (l:=ops.toList) (i:=0) (s:=s) (fun j => by simp)
  rw [← e] at k1 k2 k3
  refine Runs.draw hm k1 h1 hf ?_
  show ROps P cfg M ops (ops.toList.drop tr.length) _ (tr.foldl (fun s t => s.add t.e) s)
  rw [← k2,← k3]
  exact h
 ·cases hr
theorem ROps.loadA (C:CfgOK P cfg) {o:Oper} {l:List Oper} {Q:St→Prop} {d:Nat} {t:TypeId} {x:Operand} (ho:o.op = .load t x) (hg:o.guard = Option.none) (hd:o.dst = some d) (hdN:d < cfg.N) {z:List D} {st:Bool} (ht:cfg.ty t = some (z,st))
  {v av:AV} (hx:opv s.regs x = some v) {cs:List AC} (hc:acellsA (fun k => look k s.heap) v = some cs) (hv:aloadA z st cs = some av) (h:ROps P cfg M ops l Q ⟨insR d av s.regs,s.heap⟩):ROps P cfg M ops (o :: l) Q s :=
 ROps.gives o hg hd hdN (fun hS => g_loadA C hS ho ht hx hc hv) h
theorem ROps.cut (C:CfgOK P cfg) (T:Tab P) (n:Nat) {l:List Oper} {Q:St→Prop} {s1:St} (ha:Work (aopsT cfg T ops (l.take n) s) (some s1)) (h:ROps P cfg M ops (l.drop n) Q s1):ROps P cfg M ops l Q s:=by
 have ha:aopsT cfg T ops (l.take n) s = some s1:=ha
 have cut:∀ (l m:List Oper) (s:St),aopsT cfg T ops l s = some s1→ROps P cfg M ops m Q s1→ROps P cfg M ops (l ++ m) Q s:=by
  intro l
  induction l with
  | nil => intro m s h1 h2;simp only [aopsT,Option.some.injEq] at h1;subst h1;exact h2
  | cons o l ih =>
   intro m s h1 h2
   simp only [aopsT] at h1
   obtain ⟨s2,h3,h4⟩:=bind_some h1
   exact ROps.stepT C h3 (ih m s2 h4 h2)
 have:=cut _ _ s ha h
 rwa [List.take_append_drop] at this
theorem m_storeA (C:CfgOK P cfg) (h:Sim w0 Ok N σ s a w) {o:Oper} {x y:Operand} {t:TypeId} {z:List D} {st:Bool} (ho:o.op = .store t x y) (ht:cfg.ty t = some (z,st)) {key j:Nat} (hx:opv s.regs x = some (.optr key 0 j)) {vy:AV} (hy:opv s.regs y = some vy)
  {cs:List AC} (hc:avCells vy = some cs) (hcl:cs.length = z.length) {u:Obj} (hk:look key s.heap = some u) {r:List AC} (hr:rowA u = some r) (hj:j + z.length ≤ u.k)
  {K:Act→World→Prop} {Q:Exit→Act→World→Prop} (hK:∀ w',Sim w0 Ok N σ ⟨s.regs,insR key (.lit u.k [splice r j cs]) s.heap⟩ a w'→K (a.put o.dst undef) w'):o.wp P a w K Q:=by
 obtain ⟨zv,ti,td,t1,t2,t3,_,t5,t6,t7,t8⟩:=C.ty t z st ht
 have hcs:=avCells_rel hc (opv_rel h hy)
 obtain ⟨_,g,hg,ex⟩:=opv_rel h hx _ hk
 rw [Nat.zero_mul,Nat.zero_add] at ex
 have hRO:=h.rows key _ hk
 obtain ⟨hlen,hkp,us,hul,hR,hus⟩:=h.rowA hk hr
 rw [hg] at hR
 obtain ⟨vs,hvs⟩:∃ vs,vs = (a.eval y).cells.toList:=⟨_,rfl⟩
 rw [← hvs] at hcs
 have hvl:vs.length = z.length:=by rw [hcs.len,hcl]
 have hrl:r.length = u.k:=by rw [← hus.len,hul]
 have hoff:j + vs.length ≤ us.length:=by omega
 obtain ⟨hR',hgr⟩:=Row.storeCells vs j hR hoff
 obtain ⟨W,hW⟩:∃ W,W = w.setCells g j vs:=⟨_,rfl⟩
 rw [← hW] at hR' hgr
 have hsz:=hgr.size
 have hgf:g ∈ fp σ key u:=fp_out hg
 have hblk:∀ b,b < w.heap.size→b ≠ g→W.heap[b]? = w.heap[b]?:=fun b hb hne => hgr.block b hb (fun e => hne (by cases e;rfl))
 obtain ⟨ob,hob⟩:∃ ob,ob = Obj.lit u.k [splice r j cs]:=⟨_,rfl⟩
 rw [← hob] at hK
 have hobl:ob.len = u.len∧ob.k = u.k∧ob.deep = false:=by rw [hob];exact ⟨hlen.symm,rfl,rfl⟩
 have hlk:∀ q o',look q (insR key ob s.heap) = some o'→(q = key∧o' = ob) ∨ (q ≠ key∧look q s.heap = some o'):=by
  intro q o' hq
  rw [look_ins] at hq
  split at hq
  ·rename_i e
   cases hq
   exact .inl ⟨e.symm,rfl⟩
  ·rename_i e
   exact .inr ⟨fun e' => e e'.symm,hq⟩
 have hZ:Kept σ σ s.heap (insR key ob s.heap) w W:=by
  intro c hc
  have hcg:c ≠ g:=fun e => hc.2.2 key _ hk (by rw [hg,e])
  refine ⟨⟨Nat.lt_of_lt_of_le hc.1 hsz,hc.2.1,fun q o' hq e => ?_⟩,hblk c hc.1 hcg⟩
  rcases hlk q o' hq with ⟨e1,_⟩|⟨_,hq⟩
  ·rw [e1] at e
   exact hc.2.2 key _ hk e
  ·exact hc.2.2 q o' hq e
 have hst:∀ q,Stays σ σ s.heap (insR key ob s.heap) q:=by
  intro q o' hq
  rcases hlk q o' hq with ⟨rfl,rfl⟩|⟨_,hq⟩
  ·exact ⟨_,hk,hobl.2.1.symm,hobl.1.symm,rfl,rfl⟩
  ·exact ⟨o',hq,rfl,rfl,rfl,rfl⟩
 have hfp1:∀ c ∈ fp σ key ob,c ∈ fp σ key u:=by
  intro c hc
  unfold fp at hc ⊢
  rw [hobl.2.2] at hc
  rcases List.mem_append.1 hc with hc|hc
  ·exact List.mem_append_left _ hc
  ·cases hc
 have hS:Sim w0 Ok N σ ⟨s.regs,insR key ob s.heap⟩ a W:=by
  refine h.step rfl (h.below.grown hgr (fun g' hg' => by cases hg';exact hRO.fresh g hgf)) hZ (fun r av hr => ⟨av,hr,.inl ⟨rfl,fun q _ => hst q⟩⟩) (fun q o' hq => ?_) ?_
  ·rcases hlk q o' hq with ⟨rfl,rfl⟩|⟨hne,hq⟩
   ·refine ⟨⟨splice us j vs,?_,by rw [hobl.2.1];exact hkp,?_⟩,fun c hc => hRO.fresh c (hfp1 c hc),?_⟩
    ·rw [hobl.1,hobl.2.1,hg];exact hR'
    ·have e1:relCs σ (insR q o' s.heap) W (splice r j cs) (splice us j vs):=by
      have k1:=hus.step hZ (fun k _ => hst k)
      have k2:=hcs.step hZ (fun k _ => hst k)
      unfold splice
      rw [hvl,← hcl]
      exact ((k1.takeA).appA k2).appA k1.dropA
     show elOK σ (insR q o' s.heap) W q (splice us j vs) o'
     rw [hob] at e1 ⊢
     refine ⟨splice us j vs,[],by simp,?_,e1,rfl⟩
     unfold splice
     rw [List.length_append,List.length_append,List.length_take,List.length_drop];omega
    ·unfold fp
     rw [hobl.2.2,hg]
     simp
   ·refine RowOK.keep h.ok1 h.rows h.disj hq hZ (fun q' _ => hst q') rfl rfl rfl (fun c hc => hblk c (fp_lt h hq c (fp_out hc)) (fun e => ?_))
    subst e
    exact h.disj q o' key _ hq hk hne c (fp_out hc) hgf
  ·intro p o1 q u1 hp hq hpq c hc hc'
   rcases hlk p o1 hp with ⟨rfl,eo⟩|⟨hne,hp'⟩
   ·rcases hlk q u1 hq with ⟨e,_⟩|⟨hne,hq⟩
    ·exact hpq e.symm
    ·rw [eo] at hc
     exact h.disj p _ q u1 hk hq hpq c (hfp1 c hc) hc'
   ·rcases hlk q u1 hq with ⟨rfl,eu⟩|⟨hne',hq'⟩
    ·rw [eu] at hc'
     exact h.disj p o1 q _ hp' hk hpq c hc (hfp1 c hc')
    ·exact h.disj p o1 q u1 hp' hq' hpq c hc hc'
 have hsize:(a.eval y).cells.size = ti.size:=by
  have e:(a.eval y).cells.size = vs.length:=by rw [hvs,Array.length_toList]
  rw [e,hvl,← t3]
 have hrun:(storeVar t ⟨g,j,none⟩ (a.eval y)).run P w = .ok () W:=by
  have hone:∀ v ∈ vs,v.oneCell' = true:=by
   intro v hv
   obtain ⟨q,hq,e⟩:=List.getElem_of_mem hv
   have hq':q < cs.length:=by rw [← hcs.len];exact hq
   obtain ⟨v',k1,k2,_⟩:=hcs.nth (List.getElem?_eq_getElem hq')
   rw [List.getElem?_eq_getElem hq,Option.some.injEq] at k1
   rw [← e,k1];exact k2
  have:=run_storeCells_cells (P:=P) g j vs 0 w (fun q hq => by
   obtain ⟨u,hu⟩:∃ u,us[j + q]? = some u:=⟨us[j + q]'(by omega),List.getElem?_eq_getElem _⟩
   rw [Nat.add_zero,hR.cells _ _ hu];rfl) (fun q hq => by rw [Nat.add_zero];exact hR.frozen _) hone
  rw [Nat.add_zero,← hW] at this
  simp [storeVar,sizeOf,typeInfo,t1,hsize,← hvs,this]
 have ex':a.eval x = .pointer (some ⟨g,j,none⟩):=ex
 unfold Oper.wp execOp
 simp only [ho,ex',Instr.storeAt,Instr.sureAddr,Sem.run_bind,Sem.run_pure,Result.andThen_ok,hrun]
 exact hK W hS
theorem ROps.storeA (C:CfgOK P cfg) {o:Oper} {l:List Oper} {Q:St→Prop} {t:TypeId} {x y:Operand} (ho:o.op = .store t x y) (hg:o.guard = Option.none) (hd:o.dst = Option.none) {z:List D} {st:Bool} (ht:cfg.ty t = some (z,st)) {key j:Nat} (hx:opv s.regs x = some (.optr key 0 j))
  {vy:AV} (hy:opv s.regs y = some vy) {cs:List AC} (hc:avCells vy = some cs) (hcl:cs.length = z.length) {u:Obj} (hk:look key s.heap = some u) {r:List AC} (hr:Go.Proofs.Ytfhmonacgmakbaa.rowA u = some r) (hj:j + z.length ≤ u.k)
  (h:ROps P cfg M ops l Q ⟨s.regs,insR key (.lit u.k [splice r j cs]) s.heap⟩):ROps P cfg M ops (o :: l) Q s:=by
 intro w0 Ok σ a w Q' hM hS hQ
 refine wpList_step (fun K hK => ?_)
 have hw:awanted ops s.regs o = some true:=by unfold awanted;rw [hg]
 rw [awanted_spec hS hw]
 simp only [if_true]
 refine m_storeA C hS ho ht hx hy hc hcl hk hr hj (fun w' hS' => ?_)
 rw [hd]
 exact hK _ _ (h w0 Ok σ _ _ Q' hM hS' hQ)
theorem relCs.toD:∀ {x:List D} {us:List Value},relCs σ H w (x.map .val) us→rdCs (Zn σ H w) w us x
 | [],us,h => by rw [show us = [] from h];exact rdCs.nil
 | y :: x,_,⟨u,us',e,_,h2,h⟩ => by rw [e];exact rdCs.cons h2 (relCs.toD h)
theorem relCs.killA {k:Nat} {x:List AC} {us:List Value} (h:relCs σ H w x us):relCs σ H w (x.map (AC.kill k)) us:=relCs.kill h
theorem Sim.killL (h:Sim w0 Ok N σ s a w) {key k K:Nat} {r:List AC} (hk:look key s.heap = some (.lit k [r])):Sim w0 Ok N σ ⟨s.regs,insR key (.lit k [r.map (AC.kill K)]) s.heap⟩ a w:=by
 refine h.setObj hk rfl rfl rfl (fun H' hZ hst ds hrow hel => ?_)
 obtain ⟨c,d,e,hl,hc,hd⟩:=(show relRs σ s.heap w k [r] ds from hel)
 exact ⟨c,d,e,hl,(hc.step (fun b hb => ⟨hZ b hb,rfl⟩) (fun q _ => hst q)).killA,hd⟩
theorem ROps.killL {l:List Oper} {Q:St→Prop} (key K:Nat) {k:Nat} {r:List AC} (hk:look key s.heap = some (.lit k [r])) (h:ROps P cfg M ops l Q ⟨s.regs,insR key (.lit k [r.map (AC.kill K)]) s.heap⟩):ROps P cfg M ops l Q s:=by
 intro w0 Ok σ a w Q' hM hS hQ
 exact h w0 Ok σ a w Q' hM (hS.killL hk) hQ
theorem Sim.litRow (h:Sim w0 Ok N σ s a w) {key k:Nat} {r:List D} (hk:look key s.heap = some (.lit k [r.map .val])):Sim w0 Ok N σ ⟨s.regs,insR key (.row k [r] false) s.heap⟩ a w:=by
 obtain ⟨_,hkp,us,hul,_,hus⟩:=h.rowA hk (r:=r.map .val) rfl
 have hrl:r.length = k:=by have:=hus.len;rw [List.length_map] at this;rw [← this];exact hul
 refine h.setObj hk rfl rfl rfl (fun H' hZ hst ds hrow hel => ?_)
 obtain ⟨c,d,e,hl,hc,hd⟩:=(show relRs σ s.heap w k [r.map .val] ds from hel)
 have hd:d = []:=hd
 subst hd
 rw [List.append_nil] at e
 subst e
 exact rdR.single hkp hrl (hc.toD.mono (fun b hb _ => hZ b hb))
theorem RunK.litRow {c:Code} (key:Nat) {k:Nat} (r:List D) (hk:look key s.heap = some (.lit k [r.map .val])) (h:RunK P cfg M c fs Q ⟨s.regs,insR key (.row k [r] false) s.heap⟩):RunK P cfg M c fs Q s:=by
 intro w0 Ok σ a w Q' hM hS hQ
 exact h w0 Ok σ a w Q' hM (hS.litRow hk) hQ
theorem Sim.renR (h:Sim w0 Ok N σ s a w) {r key d n:Nat} (hne:key ≠ d) (hr:look r s.regs = some (.c (.own key n))) {o:Obj} (ho:look key s.heap = some o) (hd:∀ q u,q ≠ d→look q s.heap = some u→d ∉ u.refs) :
  ∃ σ',Sim w0 Ok N σ' ⟨insR r (.c (.own d n)) (killR key (killR d s.regs)),insR d o (drop key (drop d s.heap))⟩ a w:=by
 obtain ⟨σ',e1,e2,h1⟩:=h.rename hne ho hd
 refine ⟨σ',h1.below,h1.ok1,h1.ok2,h1.defers,h1.size,fun q av hq => ?_,h1.rows,h1.disj⟩
 rw [look_ins] at hq
 split at hq
 ·rename_i e
  cases hq
  subst e
  obtain ⟨k1,k2⟩:=h.regs _ _ hr
  refine ⟨k1,fun o' ho' => ?_⟩
  have ho':look d (insR d o (drop key (drop d s.heap))) = some o':=ho'
  rw [look_ins,if_pos rfl] at ho'
  cases ho'
  obtain ⟨k3,k4⟩:=k2 o ho
  exact ⟨k3,by rw [e1,e2];exact k4⟩
 ·exact h1.regs q av hq
theorem ROps.renR {l:List Oper} {Q:St→Prop} (r:Nat) {key n:Nat} (d:Nat) (hne:key ≠ d) (hr:look r s.regs = some (.c (.own key n))) {o:Obj} (ho:look key s.heap = some o) (hd:(s.heap.all fun p => p.1 == d || !p.2.refs.contains d) = true)
  (h:ROps P cfg M ops l Q ⟨insR r (.c (.own d n)) (killR key (killR d s.regs)),insR d o (drop key (drop d s.heap))⟩):ROps P cfg M ops l Q s:=by
 intro w0 Ok σ a w Q' hM hS hQ
 obtain ⟨σ',h1⟩:=hS.renR hne hr ho (fun q u hq hu hm => by
  have:=List.all_eq_true.1 hd _ (look_all hu)
  simp only [Bool.or_eq_true,beq_iff_eq,Bool.not_eq_true',List.contains_eq_mem,decide_eq_false_iff_not] at this
  rcases this with e|e
  ·exact hq e
  ·exact e hm)
 exact h w0 Ok σ' a w Q' hM h1 hQ
theorem relCs.nilOwn {σ':Asg} {H':List (Nat × Obj)} {K:Nat} (hZ:Kept σ σ' H H' w w) (hst:∀ q,q ≠ K→Stays σ σ' H H' q) (hK:∀ o,look K H' = some o→0 = o.len∧slv (σ'.g K) 0 (σ'.cap K) = .slice none 0 0) {post:List AC} (hp:K ∉ post.flatMap AC.refs) :
  ∀ {pre:List AC} {us:List Value},K ∉ pre.flatMap AC.refs→relCs σ H w (pre ++ .nil :: post) us→relCs σ' H' w (pre ++ .own K 0 :: post) us
 | [],_,_,⟨u,us',e,h1,h2,h⟩ => ⟨u,us',e,h1,fun o ho => ⟨(hK o ho).1,by rw [(hK o ho).2];exact h2⟩,h.step hZ (fun q hq => hst q (fun e => hp (e ▸ hq)))⟩
 | x :: pre,_,hn,⟨u,us',e,h1,h2,h⟩ => by
  rw [List.flatMap_cons,List.mem_append,not_or] at hn
  exact ⟨u,us',e,h1,h2.step hZ (fun q hq => hst q (fun e => hn.1 (e ▸ hq))),relCs.nilOwn hZ hst hK hp hn.2 h⟩
theorem Sim.nilOwn (h:Sim w0 Ok N σ s a w) {r k K:Nat} {pre post:List AC} (hr:look r s.regs = some (.agg (pre ++ .nil :: post))) (hk:0 < k) (hF:Free s K) :
  ∃ σ',Sim w0 Ok N σ' ⟨insR r (.agg (pre ++ .own K 0 :: post)) s.regs,insR K (.row k [] false) s.heap⟩ a w:=by
 let σ':Asg:=⟨fun q => if q = K then none else σ.g q,fun q => if q = K then 0 else σ.cap q,σ.F,σ.ok⟩
 have a1:σ'.g K = none:=if_pos rfl
 have a2:σ'.cap K = 0:=if_pos rfl
 have a4:∀ q,q ≠ K→σ'.g q = σ.g q∧σ'.cap q = σ.cap q:=fun q hq => ⟨if_neg hq,if_neg hq⟩
 have hfp:∀ q u,q ≠ K→fp σ' q u = fp σ q u:=fun q u hq => by unfold fp;rw [(a4 q hq).1]
 have hfpK:fp σ' K (.row k [] false) = []:=by unfold fp;rw [a1];rfl
 have hlk:∀ q o',look q (insR K (.row k [] false) s.heap) = some o'→(q = K∧o' = .row k [] false) ∨ (q ≠ K∧look q s.heap = some o'):=by
  intro q o' hq
  rw [look_ins] at hq
  split at hq
  ·rename_i e
   cases hq
   exact .inl ⟨e.symm,rfl⟩
  ·rename_i e
   exact .inr ⟨fun e' => e e'.symm,hq⟩
 have hZ:Kept σ σ' s.heap (insR K (.row k [] false) s.heap) w w:=by
  intro b hb
  refine ⟨⟨hb.1,hb.2.1,fun q o' hq e => ?_⟩,rfl⟩
  rcases hlk q o' hq with ⟨e1,_⟩|⟨e1,hq⟩
  ·rw [e1,a1] at e;cases e
  ·rw [(a4 q e1).1] at e
   exact hb.2.2 q o' hq e
 have hst:∀ q,q ≠ K→Stays σ σ' s.heap (insR K (.row k [] false) s.heap) q:=by
  intro q hq o' ho'
  rcases hlk q o' ho' with ⟨e1,_⟩|⟨_,ho'⟩
  ·exact absurd e1 hq
  ·exact ⟨o',ho',rfl,rfl,(a4 q hq).1,(a4 q hq).2⟩
 have href:K ∉ (pre ++ AC.nil :: post).flatMap AC.refs:=hF.2.1 r _ hr
 rw [List.flatMap_append,List.flatMap_cons,List.mem_append,List.mem_append,not_or,not_or] at href
 refine ⟨σ',h.step rfl h.below hZ (fun q av hq => ?_) (fun q o' hq => ?_) (fun p o1 q u1 hp hq hpq c hc hc' => ?_)⟩
 ·have hq:look q (insR r (.agg (pre ++ .own K 0 :: post)) s.regs) = some av:=hq
  rw [look_ins] at hq
  by_cases e:r = q
  ·rw [if_pos e] at hq
   cases hq
   subst e
   refine ⟨_,hr,.inr (fun hrel => ?_)⟩
   obtain ⟨us,e1,h1⟩:=hrel
   exact ⟨us,e1,relCs.nilOwn hZ hst (fun o ho => by
    rw [look_ins,if_pos rfl] at ho
    cases ho
    exact ⟨rfl,by rw [a1];rfl⟩) href.2.2 href.1 h1⟩
  ·rw [if_neg e] at hq
   exact ⟨av,hq,.inl ⟨rfl,fun k' hk' => hst k' (fun e => hF.2.1 q av hq (e ▸ hk'))⟩⟩
 ·rcases hlk q o' hq with ⟨rfl,rfl⟩|⟨hne,hq⟩
  ·refine ⟨⟨[],?_,hk,rdR.nil hk⟩,fun c hc => ?_,?_⟩
   ·rw [a1]
    exact ⟨by simp [Obj.len],.inl ⟨rfl,rfl,rfl⟩⟩
   ·rw [hfpK] at hc;cases hc
   ·rw [hfpK];exact List.nodup_nil
  ·exact RowOK.keep h.ok1 h.rows h.disj hq hZ (fun q' hq' => hst q' (fun e => hF.2.2 q o' hq (e ▸ hq'))) (a4 q hne).1 (a4 q hne).2 rfl (fun c _ => rfl)
 ·rcases hlk p o1 hp with ⟨rfl,rfl⟩|⟨hne,hp'⟩
  ·rw [hfpK] at hc;cases hc
  ·rcases hlk q u1 hq with ⟨rfl,rfl⟩|⟨hne',hq'⟩
   ·rw [hfpK] at hc';cases hc'
   ·rw [hfp p o1 hne] at hc
    rw [hfp q u1 hne'] at hc'
    exact h.disj p o1 q u1 hp' hq' hpq c hc hc'
theorem ROps.nilOwn {l:List Oper} {Q:St→Prop} (r K:Nat) {k:Nat} {pre post:List AC} (hr:look r s.regs = some (.agg (pre ++ .nil :: post))) (hk:0 < k) (hF:fresh s K = true)
  (h:ROps P cfg M ops l Q ⟨insR r (.agg (pre ++ .own K 0 :: post)) s.regs,insR K (.row k [] false) s.heap⟩):ROps P cfg M ops l Q s:=by
 intro w0 Ok σ a w Q' hM hS hQ
 obtain ⟨σ',h1⟩:=hS.nilOwn hr hk (fresh_free hF)
 exact h w0 Ok σ' a w Q' hM h1 hQ
structure AFnS (P:Program) (f:FuncId) (ds:List (List D)) (cs:List D):Prop where
 call:∀ args w,(callFunc f args).run P w = .ok (.enter f args) w
 fn:∀ (A:Nat→Prop) w vs,(∀ b,A b→b < w.heap.size)→relArgs A w ds vs→Calls P f vs.toArray w (fun e w' => ∃ us,e = .returned (.agg us.toArray)∧Below w.heap.size w w'∧rdCs (fun b => A b ∨ w.heap.size ≤ b) w' us cs)
def EndsS (cfg:Cfg) (fn:Func) (cs:List D) (e:Exit) (s:St):Prop :=
 (e = .normal ∨ e = .ret)∧∃ t ty key o z,fn.results = #[.cell t ty]∧look t s.regs = some (.optr key 0 0)∧look key s.heap = some o∧rowA o = some (cs.map .val)∧cfg.ty ty = some (z,true)∧z.length = cs.length
theorem AFnS.of_runs (C:CfgOK P cfg) {f:FuncId} {fn:Func} {c:Code} (hf:P.funcs[f]? = some fn) (hb:fn.body = some c) (hname:(fn.name == "runtime.NumGoroutine") = false) (hN:fn.ntmps = cfg.N) {ds:List (List D)} (hd:ds.length ≤ fn.ntmps) {cs:List D}
  (h:∀ M,Runs P cfg M c (EndsS cfg fn cs) ⟨argRegs 0 ds,[]⟩):AFnS P f ds cs:=by
 refine ⟨enters_of hf hname hb,fun A w vs hA hv => ?_⟩
 have hlen:=hv.len
 refine calls_of_wp hf hb ?_
 have hS:=start_sim (A:=A) (N:=cfg.N) (n:=fn.ntmps - vs.length) hv (by omega)
 refine h _ ⟨w,fun _ => False⟩ A _ _ w _ rfl (by simpa using hS) (fun e s' hE σ' a' w' hS' => ?_)
 obtain ⟨he,t,ty,key,o,z,hres,ht,hk,hr,hty,hzl⟩:=hE
 obtain ⟨zv,ti,d,t1,t2,t3,t4,t5,t6,t7,t8⟩:=C.ty ty z true hty
 obtain ⟨hlen1,hkp,us,hul,hrow,hus⟩:=hS'.rowA hk hr
 obtain ⟨_,b,hg,ep⟩:=hS'.regs t _ ht o hk
 rw [Nat.zero_mul,Nat.zero_add] at ep
 rw [hg] at hrow
 have hrd:=hus.toD
 have hcl:us.length = cs.length:=hrd.len
 have hrange:w'.rangeAt b 0 us:=fun q v hq => by rw [Nat.zero_add];exact hrow.cells q v hq
 have hi:(P.info? ty).map (·.size) = some us.length:=by rw [t1,hcl,← hzl,← t3];rfl
 have hload:(loadVar ty ⟨b,0,none⟩).run P w' = .ok (.agg us.toArray) w':=run_loadVar_mid w' b 0 ty us d hrange t6 t7 hi
 have ep':a'.tmps.getD t undef = .pointer (some ⟨b,0,none⟩):=ep
 have hrun:(results fn a'.tmps).run P w' = .ok (.agg us.toArray) w':=by
  unfold results
  rw [hres,Array.mapM_eq_mapM_toList]
  rw [Array.getD_eq_getD_getElem?] at ep'
  simp [ep',asAddr,hload]
 have hm:∀ b,Zn σ' s'.heap w' b→b < w'.heap.size→A b ∨ w.heap.size ≤ b:=fun b hb _ => by
  rcases hS'.ok2 b hb.2.1 with h1|h1
  ·exact .inl h1
  ·rcases h1 with h1|h1
   ·exact .inr h1
   ·exact h1.elim
 have hfin:a'.defers = []∧∃ v,(results fn a'.tmps).run P w' = .ok v w'∧∃ us,Ending.returned v = .returned (.agg us.toArray)∧Below w.heap.size w w'∧rdCs (fun b => A b ∨ w.heap.size ≤ b) w' us cs:=⟨hS'.defers,_,hrun,us,rfl,hS'.below.below,hrd.mono hm⟩
 rcases he with rfl|rfl <;> exact hfin
theorem ROps.callS (C:CfgOK P cfg) {o:Oper} {l:List Oper} {Q:St→Prop} (hg:o.guard = Option.none) {d:Nat} (hd:o.dst = some d) (hdN:d < cfg.N) {f:Operand} {args:Array Operand} {ts:Array TypeId} (ho:o.op = .call ⟨.value f,args,ts⟩) {g:FuncId} (hf:((opv s.regs f).bind avD).bind fnId = some g)
  {ds:List (List D)} (hds:aargs cfg (fun k => look k s.heap) s.regs args.toList ts.toList = some ds) (hs:opRefs s.regs args.toList = []) {cs:List D} (hfn:AFnS P g ds cs) (h:ROps P cfg M ops l Q ⟨insR d (.agg (cs.map .val)) s.regs,s.heap⟩):ROps P cfg M ops (o :: l) Q s:=by
 intro w0 Ok σ a w Q' hM hS hQ
 refine wpList_step (fun K hK => ?_)
 have hw:awanted ops s.regs o = some true:=by unfold awanted;rw [hg]
 rw [awanted_spec hS hw]
 simp only [if_true]
 obtain ⟨_,l2⟩:=aargs_rel C hS hds
 have hfv:a.eval f = .func (.func g) #[] #[]:=fnId_rel hS hf
 have hrun:(execOp a.eval o).run P w = .ok (.enter g (args.map a.eval)) w:=by
  unfold execOp
  rw [ho]
  simp [resolve,Deferred.ofValue,hfv,invoke,hfn.call]
 have hcall:=hfn.fn (Zn σ s.heap w) w (args.toList.map a.eval) (fun _ h => h.1) (l2 hs)
 unfold Oper.wp
 rw [hrun,Oper.upon_enter]
 have e:(args.toList.map a.eval).toArray = args.map a.eval:=by rw [← Array.toList_map,Array.toArray_toList]
 rw [← e]
 refine hcall.mono ?_
 rintro e w' ⟨us,rfl,hB,hrd⟩
 have hS1:=hS.world hB
 have hrd':rdCs (Zn σ s.heap w') w' us cs:=hrd.mono (fun b hb hlt => Kept.grown hB hS (fun _ h => h) b hb hlt)
 show K (a.put o.dst _) _
 rw [hd]
 exact hK _ _ (h w0 Ok σ _ _ Q' hM (Sim.ins hS1 hdN ⟨us,rfl,hrd'.toA⟩) hQ)
end
end Go.Proofs.Ytfhmonacgmakbaa
