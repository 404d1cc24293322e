/- Lemmas (9). -/
import Derived.Test.YtofpjonggpjneaaZC1
import Derived.Test.YtofpjonggpjneaaZC2
import Derived.Test.YtofpjonggpjneaaZC3
import Derived.Test.YtofpjonggpjneaaZC6
import Derived.Test.YtofpjonggpjneaaZC7
import Derived.Test.YtofpjonggpjneaaZC8
set_option linter.unusedSimpArgs false
set_option linter.unusedVariables false
namespace Go.Proofs.Ytofpjonggpjneaa
open Go.RowKit
theorem grs_len (u v:List Int):(grs u v).length = u.length:=by simp [grs]
theorem grs_take_succ (u v:List Int) (i:Nat) (h:i < u.length):(grs u v).take (i + 1) = (grs u v).take i ++ [canon (graftL u i v)]:=by
 rw [List.take_succ_eq_append_getElem (by rw [grs_len];exact h)]
 simp [grs]
theorem graftL_len {u v:List Int} {n:Nat} (hn:n < u.length):(graftL u n v).length = u.length + v.length:=by
 have:=endOf_le hn
 unfold graftL
 simp only [List.length_append,List.length_take,List.length_map,List.length_drop]
 omega
theorem grs_size {u v:List Int} (hu:lev8 u = true) (hv:lev8 v = true) (h:u.length + v.length ≤ 8):∀ b ∈ grs u v,b.length ≤ 8:=fun b hb => by
 unfold grs at hb
 obtain ⟨n,hn,rfl⟩:=List.mem_map.1 hb
 have hn:=List.mem_range.1 hn
 rw [canon_len (lev8_lev ((gs_ok hu hv h).1 n hn)),graftL_len hn]
 exact h
def gsOf (u v:List Int):List (List Int × Int) × Int :=
 if (lev8 u && lev8 v) = true then (if u.length + v.length ≤ 8 then (sumOf (grs u v),0) else ([],3)) else ([],1)
theorem a_l04Graft (u v:List Int) (n:Nat) (hu:lev8 u = true) (hv:lev8 v = true) (hn:n < u.length) (hg:LevP (graftL u n v)):AFn Try.prog 169 [eL u,eI n,eL v] (· = [.own 1 ((canon (graftL u n v)).map eI) true]) :=
 afn_LIL_o (enters_of Try.func169 rfl rfl) (fun u1 u2 w h1 h2 => c_spec_l04Graft u1 n u2 u v w h1 h2 hu hn hv hg)
set_option maxHeartbeats 2000000 in
theorem a_l04Sum (u v:List Int) (hu:lev8 u = true) (hv:lev8 v = true) (h8:u.length + v.length ≤ 8):AFn Try.prog 122 [eL u,eL v] (· = [.own 2 ((sumOf (grs u v)).map eCt) false]):=by
 refine AFn.of_runs (cfg_ok 21) Try.func122 rfl rfl rfl (by simp only [List.length_cons,List.length_nil];decide) ?_
 have hres:Try.f122.results.toList = [.tmp 4]:=rfl
 have hrts:Try.f122.resultTypes.toList = [40]:=rfl
 simp only [argRegs,argAV1,eL,eI,eLL,eB,Nat.zero_add,Nat.reduceAdd]
 intro M
 refine RunK.of ?_
 repeat' (first|with_reducible (first|refine Q1 ?_|refine Q2 ?_|refine Q3 ?_|refine Q4 ?_|refine Q5 ?_|refine Q6 ?_|refine Q7 ?_|refine Q8 ?_|refine Q9 ?_|refine Qa ?_|refine Qb ?_|refine Qc ?_|refine Qd ?_|refine Qe ?_|refine Qf ?_)|((with_reducible refine Qo ?_ ?_);focus rfl)|((with_reducible first|refine QT 7 (l:=?_) ?_ ?_|refine QF 7 (l:=?_) ?_ ?_);rotate_left 1;focus (simp only [Zu,Nat.reduceSub,Nat.reduceBEq];with_reducible rfl))|((with_reducible first|refine QS (cfg_ok 21) Tab.none (s':=?_) ?_ ?_|refine QC (b:=?_) ?_ ?_);rotate_left 1;focus ((with_reducible refine QW ?_);simp only [Zg,seval,if_true,if_false,reduceCtorEq,Nat.reduceEqDiff];with_reducible rfl)))
 refine RunK.loop (β:=Nat) (γ:=Unit) (fun i => ⟨[(0,.c (.val (.sl 1 (u.map eI)))),(1,.c (.val (.sl 1 (v.map eI)))),(5,.c (.own 5 (sumOf ((grs u v).take i)).length)),(6,.c (.val (.int i)))],[(5,.row 2 ((sumOf ((grs u v).take i)).map eCt) false)]⟩) (fun i => i ≤ u.length) (fun i => u.length - i)
  (fun _ => ⟨[(5,.c (.own 5 (sumOf (grs u v)).length))],[(5,.row 2 ((sumOf (grs u v)).map eCt) false)]⟩) (fun _ => True) 0 (Nat.zero_le _) ?_ ?_ ?_
 ·(repeat' (first|with_reducible refine Qn|((with_reducible refine Qr ?_ ?_);focus (first|with_reducible rfl|(simp only [Zz,Nat.reduceBEq,List.take_zero,sumOf,List.foldl_nil];done)|rfl))|((with_reducible refine Qj (o':=?_) ?_ ?_ ?_);rotate_left 1;focus rfl)|((with_reducible refine Qw ?_ ?_);(focus (first|with_reducible rfl|(simp only [Zv,List.take_zero,sumOf,List.foldl_nil];done)));focus (first|exact id|exact (fun h => nomatch h)|exact (fun _ => rfl)))))
 ·rintro i hi
  have hi:i ≤ u.length:=hi
  have hw:=w64_succ (n:=i) (by omega)
  by_cases h:i < u.length
  ·have htk:=grs_take_succ u v i h
   have hgl:=(gs_ok hu hv h8).1 i h
   have hgr:=a_l04Graft u v i hu hv h (lev8_lev hgl)
   have hcl:=canon_len (lev8_lev hgl)
   rw [graftL_len h] at hcl
   have hlr:(sumOf ((grs u v).take i)).length ≤ 8:=by have:=sumOf_len ((grs u v).take i);rw [List.length_take] at this;omega
   have hput:=a_l04Put (sumOf ((grs u v).take i)) (canon (graftL u i v)) 1 (sumOf_rise _) (by omega) (by omega) (fun z hz => by
    have:=sumOf_bd _ _ rfl z hz
    rw [List.length_take] at this
    unfold In64;omega)
   simp only [eL,eI] at hgr hput
   have i1:((i:Int) < (u.length:Int)) = True:=eq_true (by omega)
   repeat' (first|with_reducible (first|refine Q1 ?_|refine Q2 ?_|refine Q3 ?_|refine Q4 ?_|refine Q5 ?_|refine Q6 ?_|refine Q7 ?_|refine Q8 ?_|refine Q9 ?_|refine Qa ?_|refine Qb ?_|refine Qc ?_|refine Qd ?_|refine Qe ?_|refine Qf ?_)|((with_reducible refine Qo ?_ ?_);focus rfl)|((with_reducible first|refine QT 7 (l:=?_) ?_ ?_|refine QF 7 (l:=?_) ?_ ?_);rotate_left 1;focus (simp only [Zu,Nat.reduceSub,Nat.reduceBEq];with_reducible rfl))|((with_reducible first|refine QS (cfg_ok 21) ((Tab.none.at' 169 hgr).at' 145 hput) (s':=?_) ?_ ?_|refine QC (b:=?_) ?_ ?_);rotate_left 1;focus ((with_reducible refine QW ?_);simp only [Zg,seval,if_true,if_false,reduceCtorEq,Nat.reduceEqDiff,List.length_map,i1,hw];with_reducible rfl)))
   refine roundK.on (i + 1) ⟨h,by omega⟩ ?_
   rw [htk,sumOf_snoc]
   (repeat' (first|with_reducible refine Qn|((with_reducible refine Qr ?_ ?_);focus (first|with_reducible rfl|(simp only [Zz,Nat.reduceBEq];done)|rfl))|((with_reducible refine Qj (o':=?_) ?_ ?_ ?_);rotate_left 1;focus rfl)|((with_reducible refine Qw ?_ ?_);(focus (first|with_reducible rfl|(simp only [Zv];done)));focus (first|exact id|exact (fun h => nomatch h)|exact (fun _ => rfl)))))
  ·have i1:((i:Int) < (u.length:Int)) = False:=eq_false (by omega)
   have hall:(grs u v).take i = grs u v:=List.take_of_length_le (by rw [grs_len];omega)
   rw [hall]
   repeat' (first|with_reducible (first|refine Q1 ?_|refine Q2 ?_|refine Q3 ?_|refine Q4 ?_|refine Q5 ?_|refine Q6 ?_|refine Q7 ?_|refine Q8 ?_|refine Q9 ?_|refine Qa ?_|refine Qb ?_|refine Qc ?_|refine Qd ?_|refine Qe ?_|refine Qf ?_)|((with_reducible refine Qo ?_ ?_);focus rfl)|((with_reducible first|refine QT 7 (l:=?_) ?_ ?_|refine QF 7 (l:=?_) ?_ ?_);rotate_left 1;focus (simp only [Zu,Nat.reduceSub,Nat.reduceBEq];with_reducible rfl))|((with_reducible first|refine QS (cfg_ok 21) Tab.none (s':=?_) ?_ ?_|refine QC (b:=?_) ?_ ?_);rotate_left 1;focus ((with_reducible refine QW ?_);simp only [Zg,seval,if_true,if_false,reduceCtorEq,Nat.reduceEqDiff,List.length_map,i1];with_reducible rfl)))
   refine roundK.out () trivial ?_
   (repeat' (first|with_reducible refine Qn|((with_reducible refine Qr ?_ ?_);focus (first|with_reducible rfl|(simp only [Zz,Nat.reduceBEq];done)|rfl))|((with_reducible refine Qj (o':=?_) ?_ ?_ ?_);rotate_left 1;focus rfl)|((with_reducible refine Qw ?_ ?_);(focus (first|with_reducible rfl|(simp only [Zv];done)));focus (first|exact id|exact (fun h => nomatch h)|exact (fun _ => rfl)))))
 ·rintro _ _
  repeat' (first|with_reducible (first|refine Q1 ?_|refine Q2 ?_|refine Q3 ?_|refine Q4 ?_|refine Q5 ?_|refine Q6 ?_|refine Q7 ?_|refine Q8 ?_|refine Q9 ?_|refine Qa ?_|refine Qb ?_|refine Qc ?_|refine Qd ?_|refine Qe ?_|refine Qf ?_)|((with_reducible refine Qo ?_ ?_);focus rfl)|((with_reducible first|refine QT 7 (l:=?_) ?_ ?_|refine QF 7 (l:=?_) ?_ ?_);rotate_left 1;focus (simp only [Zu,Nat.reduceSub,Nat.reduceBEq];with_reducible rfl))|((with_reducible first|refine QS (cfg_ok 21) Tab.none (s':=?_) ?_ ?_|refine QC (b:=?_) ?_ ?_);rotate_left 1;focus ((with_reducible refine QW ?_);simp only [Zg,seval,if_true,if_false,reduceCtorEq,Nat.reduceEqDiff];with_reducible rfl)))
  (refine Ends.mk (by simp) (rs:=?_) (ks:=?_) hres hrts ?_ ?_ ?_;rotate_left 2;(focus (simp only [Ze,Zg,seval,if_true,if_false,reduceCtorEq,Nat.reduceEqDiff];with_reducible rfl));(focus simp);focus (first|with_reducible rfl|(simp only [Zv];done)))
noncomputable def TIs:Tab Try.prog:=Tab.none.add 110 (tab1 codL fun t => if t.length ≤ 1048576 then some [.val (.bool (lev8 t))] else none) (tab1_ok fun t rs h => by split at h;cases h;exact a_spec_l03Is t ‹_›;cases h)
theorem a_spec_GraftSum (u v:List Int) (hsu:u.length ≤ 1048576) (hsv:v.length ≤ 1048576):AFn Try.prog 45 [eL u,eL v] (· = [.own 2 ((gsOf u v).1.map eCt) (!(lev8 u && lev8 v && decide (u.length + v.length ≤ 8))),.val (.int (gsOf u v).2)]):=by
 have s1:=eq_true hsu
 have s2:=eq_true hsv
 unfold gsOf
 refine AFn.of_runs (cfg_ok 25) Try.func45 rfl rfl rfl (by simp only [List.length_cons,List.length_nil];decide) ?_
 have hres:Try.f45.results.toList = [.tmp 4,.tmp 5]:=rfl
 have hrts:Try.f45.resultTypes.toList = [40,2]:=rfl
 simp only [argRegs,argAV1,eL,eI,eLL,eB,Nat.zero_add,Nat.reduceAdd]
 intro M
 refine RunK.of ?_
 by_cases hu:lev8 u = true
 rotate_left
 ·have hu:lev8 u = false:=by simpa using hu
  have e0:¬ (lev8 u && lev8 v) = true:=by rw [hu,Bool.false_and];decide
  have e1:(!(lev8 u && lev8 v && decide (u.length + v.length ≤ 8))) = true:=by rw [hu];rfl
  rw [if_neg e0,e1]
  repeat' (first|with_reducible (first|refine Q1 ?_|refine Q2 ?_|refine Q3 ?_|refine Q4 ?_|refine Q5 ?_|refine Q6 ?_|refine Q7 ?_|refine Q8 ?_|refine Q9 ?_|refine Qa ?_|refine Qb ?_|refine Qc ?_|refine Qd ?_|refine Qe ?_|refine Qf ?_)|((with_reducible refine Qo ?_ ?_);focus rfl)|((with_reducible first|refine QT 6 (l:=?_) ?_ ?_|refine QF 6 (l:=?_) ?_ ?_);rotate_left 1;focus (simp only [Zu,Nat.reduceSub,Nat.reduceBEq];with_reducible rfl))|((with_reducible first|refine QS (cfg_ok 25) TIs (s':=?_) ?_ ?_|refine QC (b:=?_) ?_ ?_);rotate_left 1;focus ((with_reducible refine QW ?_);simp only [Zg,seval,if_true,if_false,reduceCtorEq,Nat.reduceEqDiff,TIs,TIs,s1,hu];with_reducible rfl)))
  (refine Ends.mk (by simp) (rs:=?_) (ks:=?_) hres hrts ?_ ?_ ?_;rotate_left 2;(focus (simp only [Ze,Zg,seval,if_true,if_false,reduceCtorEq,Nat.reduceEqDiff];with_reducible rfl));(focus simp);focus (first|with_reducible rfl|(simp only [Zv];done)))
 by_cases hv:lev8 v = true
 rotate_left
 ·have hv:lev8 v = false:=by simpa using hv
  have e0:¬ (lev8 u && lev8 v) = true:=by rw [hv,Bool.and_false];decide
  have e1:(!(lev8 u && lev8 v && decide (u.length + v.length ≤ 8))) = true:=by rw [hv,Bool.and_false];rfl
  rw [if_neg e0,e1]
  repeat' (first|with_reducible (first|refine Q1 ?_|refine Q2 ?_|refine Q3 ?_|refine Q4 ?_|refine Q5 ?_|refine Q6 ?_|refine Q7 ?_|refine Q8 ?_|refine Q9 ?_|refine Qa ?_|refine Qb ?_|refine Qc ?_|refine Qd ?_|refine Qe ?_|refine Qf ?_)|((with_reducible refine Qo ?_ ?_);focus rfl)|((with_reducible first|refine QT 6 (l:=?_) ?_ ?_|refine QF 6 (l:=?_) ?_ ?_);rotate_left 1;focus (simp only [Zu,Nat.reduceSub,Nat.reduceBEq];with_reducible rfl))|((with_reducible first|refine QS (cfg_ok 25) TIs (s':=?_) ?_ ?_|refine QC (b:=?_) ?_ ?_);rotate_left 1;focus ((with_reducible refine QW ?_);simp only [Zg,seval,if_true,if_false,reduceCtorEq,Nat.reduceEqDiff,TIs,TIs,s1,s2,hu,hv];with_reducible rfl)))
  (refine Ends.mk (by simp) (rs:=?_) (ks:=?_) hres hrts ?_ ?_ ?_;rotate_left 2;(focus (simp only [Ze,Zg,seval,if_true,if_false,reduceCtorEq,Nat.reduceEqDiff];with_reducible rfl));(focus simp);focus (first|with_reducible rfl|(simp only [Zv];done)))
 rw [if_pos (by rw [hu,hv];rfl)]
 have hw:=w64_eq (n:=(u.length:Int) + (v.length:Int)) (by omega)
 by_cases h8:u.length + v.length ≤ 8
 rotate_left
 ·have e1:(!(lev8 u && lev8 v && decide (u.length + v.length ≤ 8))) = true:=by rw [decide_eq_false h8,Bool.and_false];rfl
  have i1:((u.length:Int) + (v.length:Int) > 8) = True:=eq_true (by omega)
  rw [if_neg h8,e1]
  repeat' (first|with_reducible (first|refine Q1 ?_|refine Q2 ?_|refine Q3 ?_|refine Q4 ?_|refine Q5 ?_|refine Q6 ?_|refine Q7 ?_|refine Q8 ?_|refine Q9 ?_|refine Qa ?_|refine Qb ?_|refine Qc ?_|refine Qd ?_|refine Qe ?_|refine Qf ?_)|((with_reducible refine Qo ?_ ?_);focus rfl)|((with_reducible first|refine QT 6 (l:=?_) ?_ ?_|refine QF 6 (l:=?_) ?_ ?_);rotate_left 1;focus (simp only [Zu,Nat.reduceSub,Nat.reduceBEq];with_reducible rfl))|((with_reducible first|refine QS (cfg_ok 25) TIs (s':=?_) ?_ ?_|refine QC (b:=?_) ?_ ?_);rotate_left 1;focus ((with_reducible refine QW ?_);simp only [Zg,seval,if_true,if_false,reduceCtorEq,Nat.reduceEqDiff,TIs,TIs,s1,s2,hu,hv,hw,i1,List.length_map];with_reducible rfl)))
  (refine Ends.mk (by simp) (rs:=?_) (ks:=?_) hres hrts ?_ ?_ ?_;rotate_left 2;(focus (simp only [Ze,Zg,seval,if_true,if_false,reduceCtorEq,Nat.reduceEqDiff];with_reducible rfl));(focus simp);focus (first|with_reducible rfl|(simp only [Zv];done)))
 have e1:(!(lev8 u && lev8 v && decide (u.length + v.length ≤ 8))) = false:=by rw [decide_eq_true h8,hu,hv];rfl
 have i1:((u.length:Int) + (v.length:Int) > 8) = False:=eq_false (by omega)
 have hsm:=a_l04Sum u v hu hv h8
 simp only [eL] at hsm
 rw [if_pos h8,e1]
 repeat' (first|with_reducible (first|refine Q1 ?_|refine Q2 ?_|refine Q3 ?_|refine Q4 ?_|refine Q5 ?_|refine Q6 ?_|refine Q7 ?_|refine Q8 ?_|refine Q9 ?_|refine Qa ?_|refine Qb ?_|refine Qc ?_|refine Qd ?_|refine Qe ?_|refine Qf ?_)|((with_reducible refine Qo ?_ ?_);focus rfl)|((with_reducible first|refine QT 6 (l:=?_) ?_ ?_|refine QF 6 (l:=?_) ?_ ?_);rotate_left 1;focus (simp only [Zu,Nat.reduceSub,Nat.reduceBEq];with_reducible rfl))|((with_reducible first|refine QS (cfg_ok 25) ((TIs.at' 122 hsm)) (s':=?_) ?_ ?_|refine QC (b:=?_) ?_ ?_);rotate_left 1;focus ((with_reducible refine QW ?_);simp only [Zg,seval,if_true,if_false,reduceCtorEq,Nat.reduceEqDiff,TIs,s1,s2,hu,hv,hw,i1,List.length_map];with_reducible rfl)))
 (refine Ends.mk (by simp) (rs:=?_) (ks:=?_) hres hrts ?_ ?_ ?_;rotate_left 2;(focus (simp only [Ze,Zg,seval,if_true,if_false,reduceCtorEq,Nat.reduceEqDiff];with_reducible rfl));(focus simp);focus (first|with_reducible rfl|(simp only [Zv];done)))
theorem a_cloneInt (xs:List Int) (h:xs.length ≤ 1000000000):AFn Try.prog 166 [eL xs] (· = [.own 1 (xs.map eI) true]) :=
 afn_L_o (enters_of Try.func166 rfl rfl) (fun u w h' => c_slicesCloneInt u xs w h' h)
theorem a_grafted (u v:List Int) (n:Nat) (hu:lev8 u = true) (hc:canon u = u) (hv:lev8 v = true) (hn:n < u.length) (h8:u.length + v.length ≤ 8):AFn Try.prog 116 [eL u,eL [(n:Int)],eLL [v]] (· = [.own 1 ((canon (graftL u n v)).map eI) true]):=by
 have hg:=graft_ok hu hn (lev8_lev hv) h8
 rw [hc] at hg
 rw [← hg.2.2]
 exact AFn.of_o encI (enters_of Try.func116 rfl rfl) (fun w A vs ⟨v1,_,e1,h1,v2,_,e2,h2,v3,_,e3,h3,e4⟩ => by
  subst e4;subst e3;subst e2;subst e1
  exact c_impl_grafted v1 v2 v3 u [(n:Int)] [v] w (Rd.of (rd1 h1)) (Rd.of (rd1 h2)) (Rd.of (rdLL h3)) hu (by simp [hv]) rfl (by simp;omega) (by simp [sumLen];omega) hg.1)
theorem a_graftAll1 (u v:List Int) (n:Nat) (out:List (List Int)) (hu:lev8 u = true) (hc:canon u = u) (hv:lev8 v = true) (hn:n < u.length) (h8:u.length + v.length ≤ 8) (ho:out.length ≤ 1000) :
  AOw Try.prog 115 [eL u,eL [(n:Int)],eLL [v]] 1 (out.map eL) [] (· = [.own 1 ((out ++ [canon (graftL u n v)]).map eL) false]):=by
 have hg:=a_grafted u v n hu hc hv hn h8
 simp only [eLL,eL,List.map_cons,List.map_nil,eI] at hg
 have q1:=big_le (n:=out.length + 1) (by omega)
 have q2:=big_mul (n:=out.length + 1) (c:=24) (by omega) (by omega)
 refine AOw.of_runs (cfg_ok 38) Try.func115 rfl rfl rfl (by simp only [List.length_cons,List.length_nil];decide) ?_
 have hres:Try.f115.results.toList = [.tmp 8]:=rfl
 have hrts:Try.f115.resultTypes.toList = [30]:=rfl
 simp only [List.length_cons,List.length_nil,List.nil_append,List.cons_append,argRegs,argAV1,eL,eI,eLL,eB,Nat.zero_add,Nat.reduceAdd]
 intro M
 refine RunK.of ?_
 repeat' (first|with_reducible (first|refine Q1 ?_|refine Q2 ?_|refine Q3 ?_|refine Q4 ?_|refine Q5 ?_|refine Q6 ?_|refine Q7 ?_|refine Q8 ?_|refine Q9 ?_|refine Qa ?_|refine Qb ?_|refine Qc ?_|refine Qd ?_|refine Qe ?_|refine Qf ?_)|((with_reducible refine Qo ?_ ?_);focus rfl)|((with_reducible first|refine QT 25 (l:=?_) ?_ ?_|refine QF 25 (l:=?_) ?_ ?_);rotate_left 1;focus (simp only [Zu,Nat.reduceSub,Nat.reduceBEq];with_reducible rfl))|((with_reducible first|refine QS (cfg_ok 38) ((Tab.none.at' 116 hg)) (s':=?_) ?_ ?_|refine QC (b:=?_) ?_ ?_);rotate_left 1;focus ((with_reducible refine QW ?_);simp only [Zg,seval,if_true,if_false,reduceCtorEq,Nat.reduceEqDiff,eLL,eL,eI,List.length_map,q1,q2];with_reducible rfl)))
 (refine Ends.mk (by simp) (rs:=?_) (ks:=?_) hres hrts ?_ ?_ ?_;rotate_left 2;(focus (simp only [Ze,Zg,seval,if_true,if_false,reduceCtorEq,Nat.reduceEqDiff,List.map_append,List.map_cons,List.map_nil,eL];with_reducible rfl));(focus simp);focus (first|with_reducible rfl|(simp only [Zv,List.map_append,List.map_cons,List.map_nil,eL];done)))
set_option maxHeartbeats 4000000 in
theorem a_graftAll0 (u v:List Int) (hu:lev8 u = true) (hc:canon u = u) (hv:lev8 v = true) (h8:u.length + v.length ≤ 8) :
  AOw Try.prog 115 [eL u,eL [],eLL [v]] 1 [] [] (· = [.own 1 ((grs u v).map eL) false]):=by
 have hcl:=a_cloneInt [] (by simp)
 simp only [eL,List.map_nil] at hcl
 refine AOw.of_runs (cfg_ok 38) Try.func115 rfl rfl rfl (by simp only [List.length_cons,List.length_nil];decide) ?_
 have hres:Try.f115.results.toList = [.tmp 8]:=rfl
 have hrts:Try.f115.resultTypes.toList = [30]:=rfl
 simp only [List.length_cons,List.length_nil,List.nil_append,List.cons_append,argRegs,argAV1,eL,eI,eLL,eB,Nat.zero_add,Nat.reduceAdd]
 intro M
 refine RunK.of ?_
 have z1:(((0:Nat):Int) == ((1:Nat):Int)) = false:=by decide
 repeat' (first|with_reducible (first|refine Q1 ?_|refine Q2 ?_|refine Q3 ?_|refine Q4 ?_|refine Q5 ?_|refine Q6 ?_|refine Q7 ?_|refine Q8 ?_|refine Q9 ?_|refine Qa ?_|refine Qb ?_|refine Qc ?_|refine Qd ?_|refine Qe ?_|refine Qf ?_)|((with_reducible refine Qo ?_ ?_);focus rfl)|((with_reducible first|refine QT 25 (l:=?_) ?_ ?_|refine QF 25 (l:=?_) ?_ ?_);rotate_left 1;focus (simp only [Zu,Nat.reduceSub,Nat.reduceBEq];with_reducible rfl))|((with_reducible first|refine QS (cfg_ok 38) Tab.none (s':=?_) ?_ ?_|refine QC (b:=?_) ?_ ?_);rotate_left 1;focus ((with_reducible refine QW ?_);simp only [Zg,seval,if_true,if_false,reduceCtorEq,Nat.reduceEqDiff,eLL,eL,eI,List.length_map,List.map_nil,List.map_cons,z1];with_reducible rfl)))
 refine RunK.loop (β:=Nat) (γ:=Unit) (fun i => ⟨[(0,.c (.val (.sl 1 (u.map eI)))),(1,.c (.val (.sl 1 []))),(2,.c (.val (.sl 1 [[.sl 1 (v.map eI)]]))),(3,.c (.own 3 ((grs u v).take i).length)),(23,.c (.val (.int u.length))),(24,.c (.val (.int i)))],[(3,.row 1 (((grs u v).take i).map eL) false)]⟩) (fun i => i ≤ u.length) (fun i => u.length - i)
  (fun _ => ⟨[(3,.c (.own 3 (grs u v).length))],[(3,.row 1 ((grs u v).map eL) false)]⟩) (fun _ => True) 0 (Nat.zero_le _) ?_ ?_ ?_
 ·(repeat' (first|with_reducible refine Qn|((with_reducible refine Qr ?_ ?_);focus (first|with_reducible rfl|(simp only [Zz,Nat.reduceBEq,List.take_zero,List.map_nil,List.length_map];done)|rfl))|((with_reducible refine Qj (o':=?_) ?_ ?_ ?_);rotate_left 1;focus rfl)|((with_reducible refine Qw ?_ ?_);(focus (first|with_reducible rfl|(simp only [Zv,List.take_zero,List.map_nil,List.length_map];done)));focus (first|exact id|exact (fun h => nomatch h)|exact (fun _ => rfl)))))
 ·rintro i hi
  have hi:i ≤ u.length:=hi
  have hw:=w64_succ (n:=i) (by omega)
  by_cases h:i < u.length
  ·have htk:=grs_take_succ u v i h
   have hlr:((grs u v).take i).length ≤ 8:=by rw [List.length_take,grs_len];omega
   have hih:=a_graftAll1 u v i ((grs u v).take i) hu hc hv h h8 (by omega)
   rw [← htk] at hih
   simp only [eLL,eL,List.map_cons,List.map_nil,eI] at hih
   have i1:((i:Int) < (u.length:Int)) = True:=eq_true (by omega)
   repeat' (first|with_reducible (first|refine Q1 ?_|refine Q2 ?_|refine Q3 ?_|refine Q4 ?_|refine Q5 ?_|refine Q6 ?_|refine Q7 ?_|refine Q8 ?_|refine Q9 ?_|refine Qa ?_|refine Qb ?_|refine Qc ?_|refine Qd ?_|refine Qe ?_|refine Qf ?_)|((with_reducible refine Qo ?_ ?_);focus rfl)|((with_reducible first|refine QT 25 (l:=?_) ?_ ?_|refine QF 25 (l:=?_) ?_ ?_);rotate_left 1;focus (simp only [Zu,Nat.reduceSub,Nat.reduceBEq];with_reducible rfl))|((with_reducible first|refine QS (cfg_ok 38) Tab.none (s':=?_) ?_ ?_|refine QC (b:=?_) ?_ ?_);rotate_left 1;focus ((with_reducible refine QW ?_);simp only [Zg,seval,if_true,if_false,reduceCtorEq,Nat.reduceEqDiff,i1];with_reducible rfl)))
   refine RunK.regCut (cfg_ok 38) (Tab.none.at' 166 hcl) 8 (s1:=?_) ?_ ?_
   rotate_left 1
   focus (refine Work.mk ?_;simp only [Zg,seval,if_true,if_false,reduceCtorEq,Nat.reduceEqDiff];with_reducible rfl)
   simp only [List.toList_toArray,List.drop_succ_cons,List.drop_zero]
   refine ROps.frzs [32] ?_
   refine ROps.opsT (cfg_ok 38) (T:=Tab.none.own' 115 3 hih) (s':=?_) ?_ ?_
   rotate_left 1
   focus (simp only [Zg,seval,if_true,if_false,reduceCtorEq,Nat.reduceEqDiff,Tab.own',atOwn_eq,eL];with_reducible rfl)
   repeat' (first|with_reducible (first|refine Q1 ?_|refine Q2 ?_|refine Q3 ?_|refine Q4 ?_|refine Q5 ?_|refine Q6 ?_|refine Q7 ?_|refine Q8 ?_|refine Q9 ?_|refine Qa ?_|refine Qb ?_|refine Qc ?_|refine Qd ?_|refine Qe ?_|refine Qf ?_)|((with_reducible refine Qo ?_ ?_);focus rfl)|((with_reducible first|refine QT 25 (l:=?_) ?_ ?_|refine QF 25 (l:=?_) ?_ ?_);rotate_left 1;focus (simp only [Zu,Nat.reduceSub,Nat.reduceBEq];with_reducible rfl))|((with_reducible first|refine QS (cfg_ok 38) Tab.none (s':=?_) ?_ ?_|refine QC (b:=?_) ?_ ?_);rotate_left 1;focus ((with_reducible refine QW ?_);simp only [Zg,seval,if_true,if_false,reduceCtorEq,Nat.reduceEqDiff,hw];with_reducible rfl)))
   refine roundK.on (i + 1) ⟨h,by omega⟩ ?_
   (repeat' (first|with_reducible refine Qn|((with_reducible refine Qr ?_ ?_);focus (first|with_reducible rfl|(simp only [Zz,Nat.reduceBEq,List.length_map];done)|rfl))|((with_reducible refine Qj (o':=?_) ?_ ?_ ?_);rotate_left 1;focus rfl)|((with_reducible refine Qw ?_ ?_);(focus (first|with_reducible rfl|(simp only [Zv,List.length_map];done)));focus (first|exact id|exact (fun h => nomatch h)|exact (fun _ => rfl)))))
  ·have i1:((i:Int) < (u.length:Int)) = False:=eq_false (by omega)
   have hall:(grs u v).take i = grs u v:=List.take_of_length_le (by rw [grs_len];omega)
   rw [hall]
   repeat' (first|with_reducible (first|refine Q1 ?_|refine Q2 ?_|refine Q3 ?_|refine Q4 ?_|refine Q5 ?_|refine Q6 ?_|refine Q7 ?_|refine Q8 ?_|refine Q9 ?_|refine Qa ?_|refine Qb ?_|refine Qc ?_|refine Qd ?_|refine Qe ?_|refine Qf ?_)|((with_reducible refine Qo ?_ ?_);focus rfl)|((with_reducible first|refine QT 25 (l:=?_) ?_ ?_|refine QF 25 (l:=?_) ?_ ?_);rotate_left 1;focus (simp only [Zu,Nat.reduceSub,Nat.reduceBEq];with_reducible rfl))|((with_reducible first|refine QS (cfg_ok 38) Tab.none (s':=?_) ?_ ?_|refine QC (b:=?_) ?_ ?_);rotate_left 1;focus ((with_reducible refine QW ?_);simp only [Zg,seval,if_true,if_false,reduceCtorEq,Nat.reduceEqDiff,i1];with_reducible rfl)))
   refine roundK.out () trivial ?_
   (repeat' (first|with_reducible refine Qn|((with_reducible refine Qr ?_ ?_);focus (first|with_reducible rfl|(simp only [Zz,Nat.reduceBEq];done)|rfl))|((with_reducible refine Qj (o':=?_) ?_ ?_ ?_);rotate_left 1;focus rfl)|((with_reducible refine Qw ?_ ?_);(focus (first|with_reducible rfl|(simp only [Zv];done)));focus (first|exact id|exact (fun h => nomatch h)|exact (fun _ => rfl)))))
 ·rintro _ _
  repeat' (first|with_reducible (first|refine Q1 ?_|refine Q2 ?_|refine Q3 ?_|refine Q4 ?_|refine Q5 ?_|refine Q6 ?_|refine Q7 ?_|refine Q8 ?_|refine Q9 ?_|refine Qa ?_|refine Qb ?_|refine Qc ?_|refine Qd ?_|refine Qe ?_|refine Qf ?_)|((with_reducible refine Qo ?_ ?_);focus rfl)|((with_reducible first|refine QT 25 (l:=?_) ?_ ?_|refine QF 25 (l:=?_) ?_ ?_);rotate_left 1;focus (simp only [Zu,Nat.reduceSub,Nat.reduceBEq];with_reducible rfl))|((with_reducible first|refine QS (cfg_ok 38) Tab.none (s':=?_) ?_ ?_|refine QC (b:=?_) ?_ ?_);rotate_left 1;focus ((with_reducible refine QW ?_);simp only [Zg,seval,if_true,if_false,reduceCtorEq,Nat.reduceEqDiff];with_reducible rfl)))
  (refine Ends.mk (by simp) (rs:=?_) (ks:=?_) hres hrts ?_ ?_ ?_;rotate_left 2;(focus (simp only [Ze,Zg,seval,if_true,if_false,reduceCtorEq,Nat.reduceEqDiff];with_reducible rfl));(focus simp);focus (first|with_reducible rfl|(simp only [Zv];done)))
theorem a_checkGraft (xs:List (List Int)) (h:xs.length ≤ 1000):AFn Try.prog 113 [eLL xs] (· = [.val (.int (ckOf xs))]) :=
 afn_LLL_s (v:=.int .i64 _) (enters_of Try.func113 rfl rfl) (fun _ _ => rdV_int.2 ⟨rfl,by unfold ckOf In64;split <;> (try split) <;> omega⟩) (fun u w h' => c_impl_checkGraft u xs w h' (by omega))
set_option maxHeartbeats 2000000 in
theorem a_impl_GraftSum (u v:List Int) (hsu:u.length ≤ 1000000000) (hsv:v.length ≤ 1000000000):AFn Try.prog 31 [eL u,eL v] (· = [.own 2 ((gsOf u v).1.map eCt) true,.val (.int (gsOf u v).2)]):=by
 have hck:=a_checkGraft [u,v] (by simp)
 have hs:sumLen [u,v] = u.length + v.length:=by simp [sumLen]
 have ha:[u,v].all lev8 = (lev8 u && lev8 v):=by simp
 simp only [eLL,eL,List.map_cons,List.map_nil] at hck
 have b1:((1:Int) != 0) = true:=by decide
 have b3:((3:Int) != 0) = true:=by decide
 have b0:((0:Int) != 0) = false:=by decide
 unfold gsOf
 refine AFn.of_runs (cfg_ok 20) Try.func31 rfl rfl rfl (by simp only [List.length_cons,List.length_nil];decide) ?_
 have hres:Try.f31.results.toList = [.tmp 4,.tmp 5]:=rfl
 have hrts:Try.f31.resultTypes.toList = [40,2]:=rfl
 simp only [argRegs,argAV1,eL,eI,eLL,eB,Nat.zero_add,Nat.reduceAdd]
 intro M
 refine RunK.of ?_
 by_cases hb:(lev8 u && lev8 v) = true
 rotate_left
 ·have hk:ckOf [u,v] = 1:=by unfold ckOf;rw [ha,if_neg hb]
  rw [hk] at hck
  rw [if_neg hb]
  repeat' (first|with_reducible (first|refine Q1 ?_|refine Q2 ?_|refine Q3 ?_|refine Q4 ?_|refine Q5 ?_|refine Q6 ?_|refine Q7 ?_|refine Q8 ?_|refine Q9 ?_|refine Qa ?_|refine Qb ?_|refine Qc ?_|refine Qd ?_|refine Qe ?_|refine Qf ?_)|((with_reducible refine Qo ?_ ?_);focus rfl)|((with_reducible first|refine QT 7 (l:=?_) ?_ ?_|refine QF 7 (l:=?_) ?_ ?_);rotate_left 1;focus (simp only [Zu,Nat.reduceSub,Nat.reduceBEq];with_reducible rfl))|((with_reducible first|refine QS (cfg_ok 20) ((Tab.none.at' 113 hck)) (s':=?_) ?_ ?_|refine QC (b:=?_) ?_ ?_);rotate_left 1;focus ((with_reducible refine QW ?_);simp only [Zg,seval,if_true,if_false,reduceCtorEq,Nat.reduceEqDiff,b1];with_reducible rfl)))
  (refine Ends.mk (by simp) (rs:=?_) (ks:=?_) hres hrts ?_ ?_ ?_;rotate_left 2;(focus (simp only [Ze,Zg,seval,if_true,if_false,reduceCtorEq,Nat.reduceEqDiff];with_reducible rfl));(focus simp);focus (first|with_reducible rfl|(simp only [Zv];done)))
 rw [if_pos hb]
 by_cases h8:u.length + v.length ≤ 8
 rotate_left
 ·have hk:ckOf [u,v] = 3:=by unfold ckOf;rw [ha,if_pos hb,hs,if_neg h8]
  rw [hk] at hck
  rw [if_neg h8]
  repeat' (first|with_reducible (first|refine Q1 ?_|refine Q2 ?_|refine Q3 ?_|refine Q4 ?_|refine Q5 ?_|refine Q6 ?_|refine Q7 ?_|refine Q8 ?_|refine Q9 ?_|refine Qa ?_|refine Qb ?_|refine Qc ?_|refine Qd ?_|refine Qe ?_|refine Qf ?_)|((with_reducible refine Qo ?_ ?_);focus rfl)|((with_reducible first|refine QT 7 (l:=?_) ?_ ?_|refine QF 7 (l:=?_) ?_ ?_);rotate_left 1;focus (simp only [Zu,Nat.reduceSub,Nat.reduceBEq];with_reducible rfl))|((with_reducible first|refine QS (cfg_ok 20) ((Tab.none.at' 113 hck)) (s':=?_) ?_ ?_|refine QC (b:=?_) ?_ ?_);rotate_left 1;focus ((with_reducible refine QW ?_);simp only [Zg,seval,if_true,if_false,reduceCtorEq,Nat.reduceEqDiff,b3];with_reducible rfl)))
  (refine Ends.mk (by simp) (rs:=?_) (ks:=?_) hres hrts ?_ ?_ ?_;rotate_left 2;(focus (simp only [Ze,Zg,seval,if_true,if_false,reduceCtorEq,Nat.reduceEqDiff];with_reducible rfl));(focus simp);focus (first|with_reducible rfl|(simp only [Zv];done)))
 have hk:ckOf [u,v] = 0:=by unfold ckOf;rw [ha,if_pos hb,hs,if_pos h8]
 rw [hk] at hck
 rw [if_pos h8]
 rw [Bool.and_eq_true] at hb
 obtain ⟨hu,hv⟩:=hb
 have hc8:=lev8_canon hu
 have hcl:=canon_len (lev8_lev hu)
 have hca:=a_canonical u (lev8_lev hu) (lev8_len hu)
 have hga:=(a_graftAll0 (canon u) v hc8 (canon_idem (lev8_lev hu)) hv (by omega)).nil (by decide)
 have hgz:=sumLen_le (grs (canon u) v) (grs_size hc8 hv (by omega))
 rw [grs_len] at hgz
 have hct:=a_counted (grs (canon u) v) (by rw [grs_len];omega) (by omega)
 rw [(gs_ok hu hv h8).2] at hct
 simp only [eLL,eL,List.map_nil,List.map_cons] at hca hct
 repeat' (first|with_reducible (first|refine Q1 ?_|refine Q2 ?_|refine Q3 ?_|refine Q4 ?_|refine Q5 ?_|refine Q6 ?_|refine Q7 ?_|refine Q8 ?_|refine Q9 ?_|refine Qa ?_|refine Qb ?_|refine Qc ?_|refine Qd ?_|refine Qe ?_|refine Qf ?_)|((with_reducible refine Qo ?_ ?_);focus rfl)|((with_reducible first|refine QT 7 (l:=?_) ?_ ?_|refine QF 7 (l:=?_) ?_ ?_);rotate_left 1;focus (simp only [Zu,Nat.reduceSub,Nat.reduceBEq];with_reducible rfl))|((with_reducible first|refine QS (cfg_ok 20) ((Tab.none.at' 113 hck)) (s':=?_) ?_ ?_|refine QC (b:=?_) ?_ ?_);rotate_left 1;focus ((with_reducible refine QW ?_);simp only [Zg,seval,if_true,if_false,reduceCtorEq,Nat.reduceEqDiff,b0];with_reducible rfl)))
 refine RunK.regCut (cfg_ok 20) (Tab.none.at' 105 hca) 4 (s1:=?_) ?_ ?_
 rotate_left 1
 focus (refine Work.mk ?_;simp only [Zg,seval,if_true,if_false,reduceCtorEq,Nat.reduceEqDiff];with_reducible rfl)
 simp only [List.toList_toArray,List.drop_succ_cons,List.drop_zero]
 refine ROps.frzs [15,17] ?_
 refine ROps.callNil (cfg_ok 20) (d:=18) (g:=115) (xs:=[.tmp 15,.const (.slice none 0 0),.tmp 17]) (tx:=[24,108,30]) (pre:=[eL (canon u),eL [],eLL [v]]) rfl (by decide) rfl rfl rfl rfl rfl rfl hga rfl ?_
 refine ROps.opsT (cfg_ok 20) (T:=Tab.none.at' 114 hct) (s':=?_) ?_ ?_
 rotate_left 1
 focus (simp only [Zg,seval,if_true,if_false,reduceCtorEq,Nat.reduceEqDiff];with_reducible rfl)
 repeat' (first|with_reducible (first|refine Q1 ?_|refine Q2 ?_|refine Q3 ?_|refine Q4 ?_|refine Q5 ?_|refine Q6 ?_|refine Q7 ?_|refine Q8 ?_|refine Q9 ?_|refine Qa ?_|refine Qb ?_|refine Qc ?_|refine Qd ?_|refine Qe ?_|refine Qf ?_)|((with_reducible refine Qo ?_ ?_);focus rfl)|((with_reducible first|refine QT 7 (l:=?_) ?_ ?_|refine QF 7 (l:=?_) ?_ ?_);rotate_left 1;focus (simp only [Zu,Nat.reduceSub,Nat.reduceBEq];with_reducible rfl))|((with_reducible first|refine QS (cfg_ok 20) Tab.none (s':=?_) ?_ ?_|refine QC (b:=?_) ?_ ?_);rotate_left 1;focus ((with_reducible refine QW ?_);simp only [Zg,seval,if_true,if_false,reduceCtorEq,Nat.reduceEqDiff];with_reducible rfl)))
 (refine Ends.mk (by simp) (rs:=?_) (ks:=?_) hres hrts ?_ ?_ ?_;rotate_left 2;(focus (simp only [Ze,Zg,seval,if_true,if_false,reduceCtorEq,Nat.reduceEqDiff];with_reducible rfl));(focus simp);focus (first|with_reducible rfl|(simp only [Zv];done)))
end Go.Proofs.Ytofpjonggpjneaa
namespace Go.Proofs.Ytofpjonggpjneaa
open Go.RowKit
def bpOf (u v:List Int):List Int × Int:=if ckOf [u,v] = 0 then (canon (graftL (canon u) 0 v),0) else ([],ckOf [u,v])
theorem ck_two (u v:List Int):ckOf [u,v] = 0 ↔ (lev8 u = true∧lev8 v = true)∧u.length + v.length ≤ 8:=by
 unfold ckOf
 have e:sumLen [u,v] = u.length + v.length:=by simp [sumLen]
 rw [e]
 cases h1:lev8 u <;> cases h2:lev8 v <;> simp [h1,h2] <;> split <;> simp <;> omega
set_option maxRecDepth 100000 in
set_option maxHeartbeats 500000 in
theorem k_impl_ButcherProduct (v0 v2:Value) (u v:List Int) (w:World) (h0:Rd (RS RI) w [v0] u) (h2:Rd (RS RI) w [v2] v) :
  Calls Try.prog 43 #[v0,v2] w (RetOC (RS RI) w (bpOf u v).1 (bpOf u v).2):=by
 have hb0:Below w.heap.size w (w.alloc (.cells #[v0,v2] 24)):=(Below.refl _ _).alloc (Nat.le_refl _) _
 have hck:=c_impl_checkGraft (.slice (some ⟨w.heap.size,0,none⟩) 2 2) [u,v] (w.alloc (.cells #[v0,v2] 24)) (Rd.two h0 h2 rfl) (by show 2 ≤ 1000000;omega)
 obtain ⟨oa0,c0,rfl,m1,m2⟩:=h0.val
 obtain ⟨oa2,c2,rfl,m3,m4⟩:=h2.val
 unfold maxLen at m2 m4
 have HB0:=hb0
 by_cases h:ckOf [u,v] = 0
 ·obtain ⟨⟨p1,p2⟩,h8⟩:=(ck_two u v).1 h
  have hr:Hid (bpOf u v = (canon (graftL (canon u) 0 v),0)):=Lib.hid (by unfold bpOf;rw [if_pos h])
  rw [h] at hck
  have hg:=graft_ok p1 (n:=0) (lev8_lev p1).pos (lev8_lev p2) h8
  have hcl:=canon_len (lev8_lev p1)
  have hc8:=lev8_canon p1
  have hpos:=(lev8_lev p1).pos
  have l1:=lev8_len p1
  have HCN:Hid (∀ W,Below w.heap.size w W→Calls Try.prog 105 #[.slice oa0 u.length c0] W (RetO (RS RI) W (canon u))):=Lib.hid (fun W hb => c_impl_canonical 13 _ u W (h0.below hb (Nat.le_refl _)) (lev8_lev p1) (by omega) (by omega))
  obtain ⟨cu,hcu⟩:∃ cu,cu = canon u:=⟨_,rfl⟩
  rw [← hcu] at hg hcl hc8 HCN hr
  obtain ⟨gr,hgr⟩:∃ gr,gr = canon (graftL cu 0 v):=⟨_,rfl⟩
  rw [← hgr] at hg hr
  have HGR:Hid (∀ (W:World) (a b c:Value),Rd (RS RI) W [a] cu→Rd (RS RI) W [b] [(0:Int)]→Rd (RS (RS RI)) W [c] [v]→Calls Try.prog 116 #[a,b,c] W (RetO (RS RI) W gr)):=Lib.hid (fun W a b c ra rb rc => by
   have:=c_impl_grafted a b c cu [(0:Int)] [v] W ra rb rc hc8 (by simpa using p2) rfl (by intro x hx;rw [List.mem_singleton] at hx;subst hx;omega) (by simp [sumLen];omega) hg.1
   have e:=hg.2.2
   rw [show (((0:Nat):Int)) = (0:Int) from rfl] at e
   rw [e] at this
   exact this)
  have HV:=Lib.hid h2
  clear hcu hgr hg hcl hc8 p1 p2 h0 h2 h
  go_enter Try.func43,Try.ntmps43
  go_wp2_with fail
  refine hck.mono ?_
  rintro e w' ⟨rfl,rfl⟩
  go_wp2_with fail
  refine (HCN.out _ HB0).mono ?_
  rintro e w1 ⟨u1,rfl,o1,b1⟩
  have hb1:=hb0.trans (b1.mono hb0.size)
  go_wp2_with fail
  have hr1:Below w1.heap.size w1 (w1.alloc (.cells #[.int .i64 0] 3)):=(Below.refl _ _).alloc (Nat.le_refl _) _
  have hr2:Below w1.heap.size w1 ((w1.alloc (.cells #[.int .i64 0] 3)).alloc (.cells #[.slice oa2 v.length c2] 24)):=hr1.alloc (by simp) _
  have hr3:Below (w1.alloc (.cells #[.int .i64 0] 3)).heap.size (w1.alloc (.cells #[.int .i64 0] 3)) ((w1.alloc (.cells #[.int .i64 0] 3)).alloc (.cells #[.slice oa2 v.length c2] 24)):=(Below.refl _ _).alloc (Nat.le_refl _) _
  have q1:Rd (RS RI) ((w1.alloc (.cells #[.int .i64 0] 3)).alloc (.cells #[.slice oa2 v.length c2] 24)) [u1] cu:=o1.rd.below hr2 (Nat.le_refl _)
  have q2:Rd (RS RI) ((w1.alloc (.cells #[.int .i64 0] 3)).alloc (.cells #[.slice oa2 v.length c2] 24)) [.slice (some ⟨w1.heap.size,0,none⟩) 1 1] [(0:Int)] :=
   (Rd.lit (ds:=[.int .i64 0]) (xs:=[(0:Int)]) (w:=w1) (rdL.single (R:=RI) ⟨rfl,by omega,by omega⟩) rfl (by show 1 ≤ maxLen;decide)).below hr3 (Nat.le_refl _)
  have q3:Rd (RS (RS RI)) ((w1.alloc (.cells #[.int .i64 0] 3)).alloc (.cells #[.slice oa2 v.length c2] 24)) [.slice (some ⟨w1.heap.size + 1,0,none⟩) 1 1] [v]:=by
   rw [show w1.heap.size + 1 = (w1.alloc (.cells #[.int .i64 0] 3)).heap.size from by simp]
   exact
   Rd.lit (ds:=[.slice oa2 v.length c2]) (xs:=[v]) (w:=w1.alloc (.cells #[.int .i64 0] 3)) (rdL.single (R:=RS RI) ((HV.out.below hb1 (Nat.le_refl _)).below hr1 (Nat.le_refl _))) rfl (by show 1 ≤ maxLen;decide)
  refine (HGR.out _ _ _ _ q1 q2 q3).mono ?_
  rintro e w5 ⟨u5,rfl,o5,b5⟩
  go_wp2_with fail
  go_ret2
  have t1:=hb1.size
  have t2:=hr2.size
  exact ⟨_,by rw [hr.out];rfl,by rw [hr.out];exact o5.mono (by omega) (Nat.le_refl _),hb1.trans ((hr2.trans (b5.mono t2)).mono t1)⟩
 ·have hr:Hid (bpOf u v = ([],ckOf [u,v])):=Lib.hid (by unfold bpOf;rw [if_neg h])
  obtain ⟨c,hc⟩:∃ c,c = ckOf [u,v]:=⟨_,rfl⟩
  rw [← hc] at hck hr h
  have hcb:(c != 0) = true:=by simp [h]
  clear hc h
  go_enter Try.func43,Try.ntmps43
  go_wp2_with fail
  refine hck.mono ?_
  rintro e w' ⟨rfl,rfl⟩
  go_wp2_with fail
  go_ret2
  exact ⟨_,by rw [hr.out];rfl,by rw [hr.out];exact Own.nil _ _,hb0⟩
end Go.Proofs.Ytofpjonggpjneaa
namespace Go.Proofs.Ytofpjonggpjneaa
open Go.RowKit
def cutAt (t:List Int) (n:Nat):List Int × List Int:=(canon (cutT t n),canon (cutB t n))
def cntTo (t:List Int) (p:List Int × List Int):Nat→Nat
 | 0 => 0
 | k + 1 => cntTo t p k + (if cutAt t (k + 1) = p then 1 else 0)
theorem cntTo_count (t:List Int) (p:List Int × List Int):∀ k,cntTo t p k = ((List.range k).map fun n => cutAt t (n + 1)).countP (fun q => decide (q = p))
 | 0 => rfl
 | k + 1 => by
  rw [List.range_succ,List.map_append,List.countP_append,← cntTo_count t p k]
  by_cases h:cutAt t (k + 1) = p
  ·simp [cntTo,h]
  ·simp [cntTo,h]
theorem cntTo_le (t:List Int) (p:List Int × List Int):∀ k,cntTo t p k ≤ k
 | 0 => Nat.le_refl _
 | k + 1 => by
  have:=cntTo_le t p k
  unfold cntTo
  split <;> omega
theorem cuts_perm_check:lists8.all (fun t => ((List.range (t.length - 1)).map fun n => cutAt t (n + 1)).isPerm ((List.range (t.length - 1)).map fun n => cutAt (canon t) (n + 1))) = true:=by decide +kernel
theorem cntTo_canon {t:List Int} (h:lev8 t = true) (p:List Int × List Int):cntTo (canon t) p (t.length - 1) = cntTo t p (t.length - 1):=by
 rw [cntTo_count,cntTo_count]
 exact ((List.isPerm_iff.1 (lev8_all cuts_perm_check h)).countP_eq _).symm
def cctOf (t a b:List Int):Int × Int:=if (lev8 t && lev8 a && lev8 b) = true then (((cntTo t (canon a,canon b) (t.length - 1):Nat):Int),(0:Int)) else (0,1)
theorem cctOf_ok {t a b:List Int} (h:(lev8 t && lev8 a && lev8 b) = true):cctOf t a b = (((cntTo t (canon a,canon b) (t.length - 1):Nat):Int),(0:Int)):=by unfold cctOf;rw [if_pos h]
theorem cctOf_bad {t a b:List Int} (h:(lev8 t && lev8 a && lev8 b) = false):cctOf t a b = (0,1):=by unfold cctOf;rw [if_neg (by simp [h])]
end Go.Proofs.Ytofpjonggpjneaa
namespace Go.Proofs.Ytofpjonggpjneaa
open Go.RowKit
theorem forest_len (bs:List (List Int)):(forest bs).length = bs.length:=sortC_length bs
theorem forest_mem {bs:List (List Int)} {b:List Int}:b ∈ forest bs ↔ b ∈ bs:=sortC_mem
theorem sym_lev {t:List Int} (h:LevP t):∀ b ∈ forest (brs (canon t)),LevP b:=fun b hb => brs_lev (canon_lev h) b (forest_mem.1 hb)
theorem sym_short {t:List Int} (h:LevP t):∀ b ∈ forest (brs (canon t)),b.length + 1 ≤ t.length:=fun b hb => by
 have:=brs_short (canon_lev h) b (forest_mem.1 hb)
 rwa [canon_len h] at this
theorem sym_few {t:List Int} (h:LevP t):(forest (brs (canon t))).length + 1 ≤ t.length:=by
 rw [forest_len]
 have:=brs_few (canon_lev h)
 rwa [canon_len h] at this
theorem runTo_same {bs:List (List Int)} {k:Nat} (h:k < bs.length) (he:k = 0 ∨ ∃ h0:k - 1 < bs.length,bs[k - 1] = bs[k]):runTo bs (k + 1) = runTo bs k + 1:=by
 have e:runTo bs (k + 1) = if k = 0 ∨ bs.getD (k - 1) [] = bs.getD k [] then runTo bs k + 1 else 1:=rfl
 rw [e,if_pos]
 rcases he with he|⟨h0,he⟩
 ·exact .inl he
 ·right
  rw [List.getD_eq_getElem?_getD,List.getD_eq_getElem?_getD,List.getElem?_eq_getElem h0,List.getElem?_eq_getElem h]
  exact he
theorem runTo_new {bs:List (List Int)} {k:Nat} (h:k < bs.length) (h0:0 < k) (he:bs[k - 1] ≠ bs[k]):runTo bs (k + 1) = 1:=by
 have e:runTo bs (k + 1) = if k = 0 ∨ bs.getD (k - 1) [] = bs.getD k [] then runTo bs k + 1 else 1:=rfl
 rw [e,if_neg]
 rintro (h1|h1)
 ·omega
 ·rw [List.getD_eq_getElem?_getD,List.getD_eq_getElem?_getD,List.getElem?_eq_getElem (by omega),List.getElem?_eq_getElem h] at h1
  exact he h1
theorem symTo_succ (s:List Int→Int) (bs:List (List Int)) (k:Nat) (h:k < bs.length):symTo s bs (k + 1) = wrap64 (symTo s bs k * (runTo bs (k + 1) * s bs[k])):=by
 rw [symTo,List.getD_eq_getElem?_getD,List.getElem?_eq_getElem h];rfl
set_option maxRecDepth 100000 in
set_option maxHeartbeats 2000000 in
theorem c_impl_symmetry:∀ (n:Nat) (v:Value) (t:List Int) (w:World),Rd (RS RI) w [v] t→LevP t→t.length ≤ n→t.length ≤ 13 →
  Calls Try.prog 101 #[v] w (RetV w (.int .i64 (symF n t))):=by
 intro n
 induction n with
 | zero => intro v t w h hl hn h13;have:=hl.pos;omega
 | succ n ih =>
  intro v t w h hl hn h13
  have hca:=c_impl_canonical 13 v t w h hl h13 h13
  have HCB:Hid (∀ (w':World) (u:Value),Rd (RS RI) w' [u] (canon t)→Calls Try.prog 127 #[u] w' (RetO (RS (RS RI)) w' (brs (canon t)))):=Lib.hid (fun w' u hr => c_impl_branchesOf u (canon t) w' hr (canon_lev hl) (by rw [canon_len hl];omega))
  have HCF:Hid (∀ (w':World) (u:Value),Rd (RS (RS RI)) w' [u] (brs (canon t))→Calls Try.prog 126 #[u] w' (RetO (RS (RS RI)) w' (forest (brs (canon t))))):=Lib.hid (fun w' u hr => c_impl_forestOf u _ w' hr (by have:=sym_few hl;rw [forest_len] at this;omega) (fun b hb => by have:=sym_short hl b (forest_mem.2 hb);omega))
  have HL:=Lib.hid hl
  have IH:=Lib.hid ih
  have hfew:=sym_few hl
  obtain ⟨bs,hbs⟩:∃ bs,bs = forest (brs (canon t)):=⟨_,rfl⟩
  rw [← hbs] at hfew HCF
  have HB:=Lib.hid hbs
  clear h hl ih hbs
  go_enter Try.func101,Try.ntmps101
  go_wp2_with (first
   | (go_at_call 105;refine hca.mono ?_;rintro e w1 ⟨u1,rfl,o1,b1⟩)
   | (go_at_call 127;refine (HCB.out _ _ o1.rd).mono ?_;rintro e w2 ⟨u2,rfl,o2,b2⟩)
   | (go_at_call 126;refine (HCF.out _ _ o2.rd).mono ?_;rintro e w3 ⟨u3,rfl,o3,b3⟩;obtain ⟨oa,cap,rfl,l1,l2⟩:=o3.val))
  have hsz1:=b1.size
  have hsz2:=b2.size
  have hb3:Below w.heap.size w w3:=(b1.trans (b2.mono hsz1)).trans (b3.mono (Nat.le_trans hsz1 hsz2))
  have hsz3:=hb3.size
  obtain ⟨oa1,cap1,L⟩:=o3.rd.lists
  have hval:=L.val
  simp only [Value.slice.injEq,true_and] at hval
  obtain ⟨rfl,rfl⟩:=hval
  have HLs:=Lib.hid L
  clear L o1 o2 o3 b1 b2 b3 hca HCB HCF
  go_loopw [3,5,14] (fun o s i wr => ∃ k:Nat,k ≤ bs.length∧i = .int .i64 k∧s = .int .i64 (runTo bs k)∧o = .int .i64 (symTo (symF n) bs k)∧Below w3.heap.size w3 wr) (fun _ _ i _ => bs.length - (intOf i).toNat)
  case atStart => exact ⟨0,Nat.zero_le _,rfl,rfl,rfl,Below.refl _ _⟩
  case round =>
   obtain ⟨k,hk,rfl,rfl,rfl,hbel⟩:=hrel
   by_cases hlt:k < bs.length
   ·obtain ⟨b,off,rfl,hb,hc⟩:=HLs.out.get hlt
    obtain ⟨oi,ci,g1,hrd,q1,q2⟩:=hc k hlt
    have g2:wr.cell? ⟨b,off + k,none⟩ = some (.slice oi bs[k].length ci):=(hbel.cell (p:=⟨b,off + k,none⟩) hb).trans g1
    have hmem:bs[k] ∈ forest (brs (canon t)):=by rw [← HB.out];exact List.getElem_mem hlt
    have hshort:=sym_short HL.out _ hmem
    have hrec:Hid (∀ w',Below w3.heap.size w3 w'→Calls Try.prog 101 #[.slice oi bs[k].length ci] w' (RetV w' (.int .i64 (symF n bs[k])))):=Lib.hid (fun w' hb' => IH.out _ bs[k] w' (hrd.below hb' (Nat.le_refl _)) (sym_lev HL.out _ hmem) (by omega) (by omega))
    have hnx:=symTo_succ (symF n) bs k hlt
    obtain ⟨r1,r2⟩:=runTo_bd bs k
    obtain ⟨q,hq⟩:∃ q,q = symTo (symF n) bs k:=⟨_,rfl⟩
    obtain ⟨y,hy⟩:∃ y,y = symF n bs[k]:=⟨_,rfl⟩
    rw [← hq,← hy] at hnx
    rw [← hy] at hrec
    have hnew:∀ s,runTo bs (k + 1) = s→Hid (symTo (symF n) bs (k + 1) = wrap64 (q * wrap64 (s * y))):=fun s e => Lib.hid (by rw [hnx,e,wrap64_mul_r])
    have HNEW:=Lib.hid hnew
    have hrs:=runTo_bd bs (k + 1)
    have hk0:k = 0→runTo bs (k + 1) = runTo bs k + 1:=fun e => runTo_same hlt (.inl e)
    have HK0:=Lib.hid hk0
    obtain ⟨s0,hs0⟩:∃ s0,s0 = runTo bs k:=⟨_,rfl⟩
    rw [← hs0] at r1 r2 HK0
    rw [← hq,← hs0]
    have hw1:IntKind.i64.wrap (s0 + 1) = s0 + 1:=IntWalk.i64_in _ (by omega)
    by_cases hkz:k = 0
    ·have hrun:=HK0.out hkz
     have HN:=HNEW.out _ hrun
     have HRUN:=Lib.hid hrun
     subst hkz
     obtain ⟨xl,hxl⟩:∃ xl,xl = bs[0].length:=⟨_,rfl⟩
     rw [← hxl] at g2 q1 hrec
     rw [Nat.add_zero] at g2
     obtain ⟨g,hg⟩:∃ g,wrap64 ((s0 + 1) * y) = g:=⟨_,rfl⟩
     obtain ⟨g',hg'⟩:∃ g',wrap64 (q * g) = g':=⟨_,rfl⟩
     rw [hg,hg'] at HN
     have hw2:IntKind.i64.wrap ((s0 + 1) * y) = g:=(IntWalk.i64_left _).trans hg
     have hw3:IntKind.i64.wrap (q * g) = g':=(IntWalk.i64_left _).trans hg'
     clear hc g1 hrd hnx hq hy hxl hmem hnew hrs hk0 hs0 hrun
     go_wp2_with (go_at_call 101;refine (hrec.out _ hbel).mono ?_;rintro e w5 ⟨rfl,b5⟩)
     have hb5:Below w3.heap.size w3 w5:=hbel.trans (b5.mono hbel.size)
     go_roundw
     case rel => exact ⟨1,by omega,by go_num,by simp only [HRUN.out],by simp only [HN.out],hb5⟩
     case measure => simp [intOf];omega
    ·obtain ⟨kp,rfl⟩:∃ kp,k = kp + 1:=⟨k - 1,by omega⟩
     obtain ⟨op,cp,g1p,hrdp,q1p,q2p⟩:=hc kp (by omega)
     have g2p:wr.cell? ⟨b,off + kp,none⟩ = some (.slice op bs[kp].length cp):=(hbel.cell (p:=⟨b,off + kp,none⟩) hb).trans g1p
     have HEQ:Hid (Calls Try.prog 104 #[.slice op bs[kp].length cp,.slice oi bs[kp + 1].length ci] wr (RetQ wr (.bool (decide (bs[kp] = bs[kp + 1]))))):=Lib.hid (c_slicesEqual _ _ _ _ wr (hrdp.below hbel (Nat.le_refl _)) (hrd.below hbel (Nat.le_refl _)))
     have hidx:(((kp + 1:Nat):Int) - 1) = (kp:Int):=by omega
     have hgt:decide (((kp + 1:Nat):Int) > 0) = true:=decide_eq_true (by omega)
     have hgt2:(0:Int) < ((kp + 1:Nat):Int):=by omega
     have ip1:(0:Int) ≤ (kp:Int):=by omega
     have ip2:(kp:Int) < (bs.length:Int):=by omega
     have ip3:IntKind.i64.wrap (kp:Int) = (kp:Int):=IntWalk.i64_in _ (by omega)
     by_cases hsame:bs[kp] = bs[kp + 1]
     ·have hrun:=runTo_same hlt (.inr ⟨by omega,by simpa using hsame⟩)
      have HN:=HNEW.out _ hrun
      rw [← hs0] at HN hrun
      have HRUN:=Lib.hid hrun
      have hd:decide (bs[kp] = bs[kp + 1]) = true:=decide_eq_true hsame
      rw [hd] at HEQ
      obtain ⟨xl,hxl⟩:∃ xl,xl = bs[kp + 1].length:=⟨_,rfl⟩
      obtain ⟨xp,hxp⟩:∃ xp,xp = bs[kp].length:=⟨_,rfl⟩
      rw [← hxl] at g2 q1 hrec HEQ
      rw [← hxp] at g2p q1p HEQ
      obtain ⟨g,hg⟩:∃ g,wrap64 ((s0 + 1) * y) = g:=⟨_,rfl⟩
      obtain ⟨g',hg'⟩:∃ g',wrap64 (q * g) = g':=⟨_,rfl⟩
      rw [hg,hg'] at HN
      have hw2:IntKind.i64.wrap ((s0 + 1) * y) = g:=(IntWalk.i64_left _).trans hg
      have hw3:IntKind.i64.wrap (q * g) = g':=(IntWalk.i64_left _).trans hg'
      clear hc g1 hrd hnx hq hy hxl hmem hnew hrs hk0 hs0 hrun hd hsame hxp g1p hrdp
      go_wp2_with (first
       | (go_at_call 101;refine (hrec.out _ (hbel.trans (Below.drewN _ _ _))).mono ?_;rintro e w5 ⟨rfl,b5⟩)
       | (go_at_call 104;refine HEQ.out.mono ?_;rintro e w4 ⟨rfl,nd,rfl⟩))
      have hb5:Below w3.heap.size w3 w5:=(hbel.trans (Below.drewN _ _ _)).trans (b5.mono hbel.size)
      go_roundw
      case rel => exact ⟨kp + 1 + 1,by omega,by go_num,by simp only [HRUN.out],by simp only [HN.out],hb5⟩
      case measure => simp [intOf];omega
     ·have hrun:=runTo_new hlt (by omega) (by simpa using hsame)
      have HN:=HNEW.out _ hrun
      have HRUN:=Lib.hid hrun
      have hd:decide (bs[kp] = bs[kp + 1]) = false:=decide_eq_false hsame
      rw [hd] at HEQ
      obtain ⟨xl,hxl⟩:∃ xl,xl = bs[kp + 1].length:=⟨_,rfl⟩
      obtain ⟨xp,hxp⟩:∃ xp,xp = bs[kp].length:=⟨_,rfl⟩
      rw [← hxl] at g2 q1 hrec HEQ
      rw [← hxp] at g2p q1p HEQ
      obtain ⟨g,hg⟩:∃ g,wrap64 y = g:=⟨_,rfl⟩
      obtain ⟨g',hg'⟩:∃ g',wrap64 (q * g) = g':=⟨_,rfl⟩
      rw [Int.one_mul,hg,hg'] at HN
      have hw2:IntKind.i64.wrap y = g:=(IntWalk.i64_left _).trans hg
      have hw3:IntKind.i64.wrap (q * g) = g':=(IntWalk.i64_left _).trans hg'
      clear hc g1 hrd hnx hq hy hxl hmem hnew hrs hk0 hs0 hrun hd hsame hxp g1p hrdp
      go_wp2_with (first
       | (go_at_call 101;refine (hrec.out _ (hbel.trans (Below.drewN _ _ _))).mono ?_;rintro e w5 ⟨rfl,b5⟩)
       | (go_at_call 104;refine HEQ.out.mono ?_;rintro e w4 ⟨rfl,nd,rfl⟩))
      have hb5:Below w3.heap.size w3 w5:=(hbel.trans (Below.drewN _ _ _)).trans (b5.mono hbel.size)
      go_roundw
      case rel => exact ⟨kp + 1 + 1,by omega,by go_num,by simp only [HRUN.out],by simp only [HN.out],hb5⟩
      case measure => simp [intOf];omega
   ·have hfin:symTo (symF n) bs k = symF (n + 1) t:=by
     have e:k = bs.length:=by omega
     rw [e,HB.out];rfl
    rw [hfin]
    go_wp2_with fail
    go_ret
    exact ⟨rfl,hb3.trans (hbel.mono hsz3)⟩
end Go.Proofs.Ytofpjonggpjneaa
namespace Go.Proofs.Ytofpjonggpjneaa
open Go.RowKit
def totF (L:List (List Int × Int)):Nat→Int
 | 0 => 0
 | i + 1 => totF L i + (L.getD i ([],0)).2
def cntQ (t:List Int) (p:List Int × List Int):Nat→Nat
 | 0 => 0
 | k + 1 => cntQ t p k + (if Nat.beq (cutT t (k + 1)).length p.1.length = true then (if cutAt t (k + 1) = p then 1 else 0) else 0)
theorem cntQ_eq {t:List Int} (h:lev8 t = true) (p:List Int × List Int):∀ k,k < t.length→cntQ t p k = cntTo t p k
 | 0,_ => rfl
 | k + 1,hk => by
  unfold cntQ cntTo
  rw [cntQ_eq h p k (by omega)]
  by_cases e:Nat.beq (cutT t (k + 1)).length p.1.length = true
  ·rw [if_pos e]
  ·rw [if_neg e,if_neg]
   intro e2
   apply e
   rw [← e2]
   unfold cutAt
   rw [canon_len (lev8_lev (cuts_lev h (n:=k + 1) (by omega) hk).1)]
   exact Nat.beq_refl _
def gcZ (su sv:Int) (p:List Int × List Int) (z:List Int × Int):Bool :=
 lev8 z.1 && decide (1 ≤ z.2) && decide (z.2 ≤ 8) && decide (0 ≤ symF 9 z.1) && decide (symF 9 z.1 ≤ 5040) && decide (z.2 * symF 9 z.1 = (cntQ z.1 p (z.1.length - 1):Int) * su * sv)
def gcL (n:Nat) (root:List Int) (L:List (List Int × Int)):Bool :=
 decide (L.length ≤ 8) && decide (totF L L.length = (n:Int)) && L.any (fun z => decide (z.1 = root))
def gcS (x:Int):Bool:=decide (0 ≤ x) && decide (x ≤ 5040)
def gcOK (u v:List Int):Bool :=
 gcS (symF 9 u) && gcS (symF 9 v) && gcL u.length (canon (graftL (canon u) 0 v)) (sumOf (grs u v)) && (sumOf (grs u v)).all (gcZ (symF 9 u) (symF 9 v) (canon u,canon v))
def gcAll (a b:Nat):Bool:=(levels a).all fun u => (levels b).all fun v => gcOK u v
set_option maxRecDepth 100000
theorem gc_check5:((List.range 6).all fun a => (List.range (6 - a)).all fun b => gcAll a b) = true:=by decide +kernel
end Go.Proofs.Ytofpjonggpjneaa
namespace Go.Proofs.Ytofpjonggpjneaa
open Go.RowKit
set_option maxRecDepth 100000
theorem gc_06:gcAll 0 6 = true:=by decide +kernel
theorem gc_60:gcAll 6 0 = true:=by decide +kernel
theorem gc_15:gcAll 1 5 = true:=by decide +kernel
theorem gc_51:gcAll 5 1 = true:=by decide +kernel
theorem gc_24:gcAll 2 4 = true:=by decide +kernel
theorem gc_42:gcAll 4 2 = true:=by decide +kernel
theorem gc_33:gcAll 3 3 = true:=by decide +kernel
theorem gc_pair {a b:Nat} (h:a + b ≤ 6):gcAll a b = true:=by
 by_cases e:a + b ≤ 5
 ·exact List.all_eq_true.1 (List.all_eq_true.1 gc_check5 a (List.mem_range.2 (by omega))) b (List.mem_range.2 (by omega))
 ·have hb:b = 6 - a:=by omega
  subst hb
  match a,h with
  | 0,_ => exact gc_06
  | 1,_ => exact gc_15
  | 2,_ => exact gc_24
  | 3,_ => exact gc_33
  | 4,_ => exact gc_42
  | 5,_ => exact gc_51
  | 6,_ => exact gc_60
  | a + 7,h => exact absurd h (by omega)
structure GcZ (u v:List Int) (z:List Int × Int):Prop where
 lev:lev8 z.1 = true
 c1:1 ≤ z.2
 c8:z.2 ≤ 8
 s0:0 ≤ symF 9 z.1
 s1:symF 9 z.1 ≤ 5040
 cc:(cctOf z.1 u v).2 = 0
 c0:0 ≤ (cctOf z.1 u v).1
 ch:(cctOf z.1 u v).1 ≤ 8
 cb:(cntTo z.1 (canon u,canon v) (z.1.length - 1):Int) ≤ 1000000
 eq:z.2 * symF 9 z.1 = (cctOf z.1 u v).1 * symF 9 u * symF 9 v
structure GcF (u v:List Int):Prop where
 gs:(gsOf u v).2 = 0
 bp:(bpOf u v).2 = 0
 len:(gsOf u v).1.length ≤ 8
 tot:totF (gsOf u v).1 (gsOf u v).1.length = (u.length:Int)
 any:∃ z ∈ (gsOf u v).1,z.1 = (bpOf u v).1
 su:0 ≤ symF 9 u∧symF 9 u ≤ 5040
 sv:0 ≤ symF 9 v∧symF 9 v ≤ 5040
 all:∀ z ∈ (gsOf u v).1,GcZ u v z
theorem gc_all {u v:List Int} (hu:lev8 u = true) (hv:lev8 v = true) (h:u.length + v.length ≤ 8):GcF u v:=by
 have hu1:=(lev8_lev hu).pos
 have hv1:=(lev8_lev hv).pos
 have hg:gcOK u v = true:=by
  have h1:=gc_pair (a:=u.length - 1) (b:=v.length - 1) (by omega)
  exact List.all_eq_true.1 (List.all_eq_true.1 h1 u (mem_levels _ u (lev8_lev hu) (by omega))) v (mem_levels _ v (lev8_lev hv) (by omega))
 unfold gcOK gcL gcS at hg
 simp only [Bool.and_eq_true,decide_eq_true_eq] at hg
 obtain ⟨⟨⟨h1,h2⟩,⟨h3,h4⟩,h5⟩,h6⟩:=hg
 have hgs:gsOf u v = (sumOf (grs u v),0):=by unfold gsOf;rw [if_pos (by rw [hu,hv];rfl),if_pos h]
 have hck:ckOf [u,v] = 0:=(ck_two u v).2 ⟨⟨hu,hv⟩,h⟩
 have hbp:bpOf u v = (canon (graftL (canon u) 0 v),0):=by unfold bpOf;rw [if_pos hck]
 rw [List.any_eq_true] at h5
 rw [List.all_eq_true] at h6
 refine ⟨by rw [hgs],by rw [hbp],by rw [hgs];exact h3,by rw [hgs];exact h4,?_,h1,h2,fun z hz => ?_⟩
 ·obtain ⟨z,hz1,hz2⟩:=h5
  exact ⟨z,by rw [hgs];exact hz1,by rw [hbp];exact of_decide_eq_true hz2⟩
 ·rw [hgs] at hz
  have k:=h6 z hz
  unfold gcZ at k
  simp only [Bool.and_eq_true,decide_eq_true_eq] at k
  obtain ⟨⟨⟨⟨⟨k1,k2⟩,k3⟩,k4⟩,k5⟩,k6⟩:=k
  have hzp:=(lev8_lev k1).pos
  rw [cntQ_eq k1 _ _ (by omega)] at k6
  have hc:=cctOf_ok (t:=z.1) (a:=u) (b:=v) (by rw [k1,hu,hv];rfl)
  have hle:=cntTo_le z.1 (canon u,canon v) (z.1.length - 1)
  have hz8:=lev8_len k1
  refine ⟨k1,k2,k3,k4,k5,by rw [hc],by rw [hc];simp only;omega,by rw [hc];simp only;omega,by omega,by rw [hc];exact k6⟩
end Go.Proofs.Ytofpjonggpjneaa
namespace Go.Proofs.Ytofpjonggpjneaa
open Go.RowKit
theorem AFn.of_v {P:Program} {f:FuncId} {ds:List (List D)} {d:D} {v:Value} (eg:∀ args w,(callFunc f args).run P w = .ok (.enter f args) w) (hd:∀ A w,rdV A w v d)
  (h:∀ (w:World) (A:Nat→Prop) vs,relArgs A w ds vs→Calls P f vs.toArray w (RetV w v)):AFn P f ds (· = [.val d]):=by
 refine ⟨eg,fun A w vs hA hv => (h w A vs hv).mono ?_⟩
 rintro e w' ⟨rfl,hb⟩
 exact ⟨v,_,rfl,rfl,hb,[v],[],[],rfl,List.nodup_nil,by simp,v,[],[],[],[],[],rfl,rfl,rfl,(hd (fun _ => True) w).one,⟨hd _ _,rfl,rfl⟩,rfl,rfl,rfl⟩
theorem AFn.of_v2 {P:Program} {f:FuncId} {ds:List (List D)} {d1 d2:D} {v1 v2:Value} (eg:∀ args w,(callFunc f args).run P w = .ok (.enter f args) w) (h1:∀ A w,rdV A w v1 d1) (h2:∀ A w,rdV A w v2 d2)
  (h:∀ (w:World) (A:Nat→Prop) vs,relArgs A w ds vs→Calls P f vs.toArray w (RetV w (.tuple #[v1,v2]))):AFn P f ds (· = [.val d1,.val d2]):=by
 refine ⟨eg,fun A w vs hA hv => (h w A vs hv).mono ?_⟩
 rintro e w' ⟨rfl,hb⟩
 exact ⟨_,_,rfl,rfl,hb,[v1,v2],[],[],rfl,List.nodup_nil,by simp,v1,[v2],[],[],[],[],rfl,rfl,rfl,(h1 (fun _ => True) w).one,⟨h1 _ _,rfl,rfl⟩,v2,[],[],[],[],[],rfl,rfl,rfl,(h2 (fun _ => True) w).one,⟨h2 _ _,rfl,rfl⟩,rfl,rfl,rfl⟩
theorem tab_one {A:Nat→Prop} {w:World} {t:List Int} {vs:List Value} (h:relArgs A w [eL t] vs):∃ v,vs = [v]∧Rd (RS RI) w [v] t:=by
 obtain ⟨v1,_,e1,h1,e2⟩:=h
 have e2:_ = []:=e2
 subst e2;subst e1
 exact ⟨v1,rfl,Rd.of (rd1 h1)⟩
end Go.Proofs.Ytofpjonggpjneaa
namespace Go.Proofs.Ytofpjonggpjneaa
open Go.RowKit
section
variable {P:Program} {α:Type} {R:Rep α} {e:α→List D}
theorem own_out (E:Enc R e) {lo hi:Nat} {w:World} {v:Value} {xs:List α} (h:Own (RS R) lo hi w [v] xs):∃ og c G ds' d,v = slv og xs.length c∧Row w (slv og xs.length c) R.k xs.length ds' og∧(og.toList ++ G).Nodup∧(∀ b ∈ og.toList ++ G,lo ≤ b∧b < hi)∧ownL (RK R.k R.kpos (RC d)) w ds' (xs.map e) G:=by
 obtain ⟨F,⟨v',og,ds',G,e1,hrow,hel,rfl⟩,hn,hlt⟩:=h
 obtain rfl:v = v':=by simpa using e1
 obtain ⟨d,hel'⟩:=enc_ownL E hel
 obtain ⟨oa,c,ev,k1,k2,k3,k4⟩:=hrow.value
 have hv':v = slv og xs.length c:=by
  cases og with
  | none =>
   have h0:=hrow.len0
   have hoa:oa = none:=k4
   rw [ev,hoa,h0,k3 hoa];rfl
  | some g => rw [ev,k4];rfl
 exact ⟨og,c,G,ds',d,hv',by rw [← hv'];exact hrow,hn,hlt,hel'⟩
theorem own_relR (E:Enc R e) {lo hi:Nat} {w:World} {v:Value} {xs:List α} (h:Own (RS R) lo hi w [v] xs):∃ G X,G.Nodup∧(∀ b ∈ G,lo ≤ b∧b < hi)∧v.oneCell' = true∧∀ A M Y,relR A M w Y (.own R.k (xs.map e) true) v G X:=by
 obtain ⟨og,c,G,ds',d,hv,hrow,hn,hlt,hel⟩:=own_out E h
 refine ⟨og.toList ++ G,og.toList,hn,hlt,by rw [hv];cases og <;> rfl,fun A M Y => ?_⟩
 exact ⟨og,c,G,ds',by rw [List.length_map];exact hv,by rw [List.length_map,hv];exact hrow,R.kpos,rfl,rfl,d,R.kpos,hel⟩
theorem int_rel (A:Nat→Prop) (w:World) {c:Int} (hc:In64 c):rdV A w (.int .i64 c) (.int c):=rdV_int.2 ⟨rfl,hc⟩
theorem AFn.of_oc (E:Enc R e) {f:FuncId} {ds:List (List D)} {xs:List α} {c:Int} (hc:In64 c) (eg:∀ args w,(callFunc f args).run P w = .ok (.enter f args) w)
  (h:∀ (w:World) (A:Nat→Prop) vs,relArgs A w ds vs→Calls P f vs.toArray w (RetOC (RS R) w xs c)):AFn P f ds (· = [.own R.k (xs.map e) true,.val (.int c)]):=by
 refine ⟨eg,fun A w vs hA hv => (h w A vs hv).mono ?_⟩
 rintro e' w' ⟨v,rfl,ho,hb⟩
 obtain ⟨G,X,h1,h2,h3,h4⟩:=own_relR E ho
 exact ⟨_,_,rfl,rfl,hb,[v,.int .i64 c],G,X,rfl,h1,fun b hb' => (h2 b hb').1,v,[.int .i64 c],G,[],X,[],rfl,by simp,by simp,h3,h4 _ _ _,.int .i64 c,[],[],[],[],[],rfl,rfl,rfl,rfl,⟨int_rel _ _ hc,rfl,rfl⟩,rfl,rfl,rfl⟩
end
end Go.Proofs.Ytofpjonggpjneaa
namespace Go.Proofs.Ytofpjonggpjneaa
open Go.RowKit
theorem exists_not {l:List Nat}:∃ k,k ∉ l:=by
 have key:∀ (l:List Nat),∀ x ∈ l,x ≤ l.sum:=by
  intro l
  induction l with
  | nil => intro x hx;cases hx
  | cons y l ih =>
   intro x hx
   rw [List.sum_cons]
   rcases List.mem_cons.1 hx with rfl|hx
   ·omega
   ·have:=ih x hx;omega
 exact ⟨l.sum + 1,fun h => by have:=key l _ h;omega⟩
theorem exists_free (s:St):∃ k,Free s k:=by
 obtain ⟨k,hk⟩:=exists_not (l:=s.heap.map (·.1) ++ s.regs.flatMap (·.2.refs) ++ s.heap.flatMap (·.2.refs))
 simp only [List.mem_append,not_or] at hk
 obtain ⟨⟨h1,h2⟩,h3⟩:=hk
 refine ⟨k,?_,fun r av hr hm => h2 (List.mem_flatMap.2 ⟨_,look_all hr,hm⟩),fun q u hq hm => h3 (List.mem_flatMap.2 ⟨_,look_all hq,hm⟩)⟩
 cases e:look k s.heap with
 | none => rfl
 | some o => exact absurd (List.mem_map.2 ⟨_,look_all e,rfl⟩) h1
theorem AC.frz_id {key k:Nat} {xs:List (List D)} {x:AC} (h:key ∉ x.refs):x.frz key k xs = x:=by
 cases x with
 | own q n => simp only [AC.refs,List.mem_singleton] at h;simp only [AC.frz];rw [if_neg (fun e => h e.symm)]
 | view q i n => simp only [AC.refs,List.mem_singleton] at h;simp only [AC.frz];rw [if_neg (fun e => h e.symm)]
 | _ => rfl
theorem acs_frz_id {key k:Nat} {xs:List (List D)}:∀ {cs:List AC},key ∉ cs.flatMap AC.refs→cs.map (AC.frz key k xs) = cs
 | [],_ => rfl
 | c :: cs,h => by
  rw [List.flatMap_cons,List.mem_append,not_or] at h
  rw [List.map_cons,AC.frz_id h.1,acs_frz_id h.2]
theorem AV.frz_id {key k:Nat} {xs:List (List D)} {x:AV} (h:key ∉ x.refs):x.frz key k xs = x:=by
 cases x with
 | c x => simp only [AV.frz];rw [AC.frz_id h]
 | eptr => rfl
 | optr q i j => simp only [AV.refs,List.mem_singleton] at h;simp only [AV.frz];rw [if_neg (fun e => h e.symm)]
 | agg cs => simp only [AV.frz];rw [acs_frz_id h]
 | tup cs => simp only [AV.frz];rw [acs_frz_id h]
 | dead => rfl
theorem Obj.frz_id {key k:Nat} {xs:List (List D)} {o:Obj} (h:key ∉ o.refs):o.frz key k xs = o:=by
 cases o with
 | row => rfl
 | pin => rfl
 | lit k' css =>
  simp only [Obj.frz]
  congr 1
  have h:key ∉ css.flatMap (·.flatMap AC.refs):=h
  have:∀ css:List (List AC),key ∉ css.flatMap (·.flatMap AC.refs)→css.map (·.map (AC.frz key k xs)) = css:=by
   intro css
   induction css with
   | nil => intro _;rfl
   | cons c css ih =>
    intro h
    rw [List.flatMap_cons,List.mem_append,not_or] at h
    rw [List.map_cons,acs_frz_id h.1,ih h.2]
  exact this css h
section
variable {P:Program} {cfg:Cfg} {M:Nat→Prop} {ops:Array Oper} {s s':St} {w0:W0} {w:World} {Ok:Nat→Prop} {N:Nat} {σ:Asg} {a:Act} {fs:List Fr} {Q:Exit→St→Prop} {T:Tab P}
def valD:AV→Option D
 | .c (.val d) => some d
 | _ => Option.none
def devalB (cfg:Cfg) (ops:Array Oper) (o:Oper) (s:St):Option Tel :=
 match o.op with
 | .buildSlice t len parts => if dstOK cfg o = true∧awanted ops s.regs o = some true then
   o.dst.bind fun d => (cfg.sl t).bind fun i => if len = parts.size∧len * i.z.length ≤ 16777216 then (aparts s.regs 0 parts.toList).bind fun css => (rowsD i.z css).map fun r => ⟨⟨d,.c (.val (.sl i.z.length r.1)),[]⟩,opRefs s.regs o.op.operands.toList⟩ else Option.none
  else Option.none
 | .assign x => if dstOK cfg o = true∧awanted ops s.regs o = some true then
   o.dst.bind fun d => ((opv s.regs x).bind valD).map fun v => ⟨⟨d,.c (.val v),[]⟩,[]⟩
  else Option.none
 | _ => Option.none
theorem Does1.asg (C:CfgOK P cfg) {i:Nat} {o:Oper} (hi:ops[i]? = some o) {x:Operand} (hop:o.op = .assign x) (hd:dstOK cfg o = true) {d:Nat} (hdd:o.dst = some d) (hb:awanted ops s.regs o = some true) {v:D} (hv:opv s.regs x = some (.c (.val v))):Does1 P cfg ops i s ⟨⟨d,.c (.val v),[]⟩,[]⟩:=by
 refine ⟨o,hi,hdd,fun s' h1 h2 h3 w0 Ok σ a w K Q hS hK => ?_⟩
 have hw:awanted ops s'.regs o = some true:=by rw [awanted_congr h1,hb]
 have hov:opv s'.regs x = some (.c (.val v)):=by
  rw [← hv]
  cases x with
  | tmp t =>
   have:=h1 t (looks_operand (by rw [hop];simp [Op.operands]))
   simp only [opv,this]
  | _ => rfl
 have hst:astep cfg ops o s' = some (s'.add ⟨d,.c (.val v),[]⟩):=by
  unfold astep
  rw [if_pos hd,hw]
  simp only [Option.bind_some,if_true,hop,isMut,hdd,amut,hov]
  rfl
 have:=astep_wp C hS hst hK (Q:=Q)
 unfold wpOp
 simp only [hi]
 split
 ·rename_i hw2;rw [if_pos hw2] at this;exact .inl this
 ·rename_i hw2;rw [if_neg hw2] at this;exact this
theorem Does1.lit (C:CfgOK P cfg) {i:Nat} {o:Oper} (hi:ops[i]? = some o) {t:Tel} (h:devalB cfg ops o s = some t):Does1 P cfg ops i s t:=by
 unfold devalB at h
 split at h
 ·rename_i ty len parts hop
  split at h
  ·rename_i hc
   obtain ⟨d,hd,h⟩:=bind_some h
   obtain ⟨it,hit,h⟩:=bind_some h
   split at h
   ·rename_i hsz
    obtain ⟨css,hcss,h⟩:=bind_some h
    obtain ⟨⟨xs,b⟩,hr,rfl⟩:=map_some h
    refine ⟨o,hi,hd,fun s' h1 h2 h3 w0 Ok σ a w K Q hS hK => ?_⟩
    have hw:awanted ops s'.regs o = some true:=by rw [awanted_congr h1,hc.2]
    have hopl:o.op.operands.toList = parts.toList.map (·.2):=by rw [hop];rfl
    have hag:=agree_of (xs:=o.op.operands.toList) (fun x hx => hx) h1 h2
    rw [hopl] at hag
    have hcss':aparts s'.regs 0 parts.toList = some css:=by rw [aparts_congr hag,hcss]
    obtain ⟨q,hq⟩:=exists_free s'
    have hmk:mkObj it.z css = some (.row it.z.length xs b):=by unfold mkObj;rw [hr]
    have ha:anew cfg (fun k => look k s'.heap) s'.regs q o.op = some (.c (.own q len),[(q,.row it.z.length xs b)]):=by
     rw [hop]
     simp only [anew,hit,Option.bind_some]
     rw [if_pos hsz,hcss']
     simp only [Option.bind_some,hmk,Option.map_some]
    unfold wpOp
    simp only [hi,awanted_spec hS hw,if_true]
    left
    have hdN:d < cfg.N:=by have:=hc.1;rw [dstOK,hd] at this;simpa using this
    refine anew_doesF C hS (news:=[(q,.row it.z.length xs b)]) (av:=.c (.own q len)) ha (fun p ob hp => ?_) _ _ (fun v w' σ' hv hS' => ?_)
    ·have hp:(if q = p then some (Obj.row it.z.length xs b) else none) = some ob:=hp
     split at hp
     ·rename_i e;subst e;exact hq
     ·cases hp
    ·rw [hd]
     have hS1:=Sim.ins hS' hdN hv
     have hS2:=Sim.frz hS1 q
     refine hK σ' _ _ ?_
     have hlq:look q (⟨insR d (.c (.own q len)) s'.regs,[(q,Obj.row it.z.length xs b)] ++ s'.heap⟩:St).heap = some (.row it.z.length xs b):=by show look q ((q,Obj.row it.z.length xs b) :: s'.heap) = _;rw [look,if_pos rfl]
     have e:(⟨insR d (.c (.own q len)) s'.regs,[(q,Obj.row it.z.length xs b)] ++ s'.heap⟩:St).frz q = ⟨frzR q it.z.length xs (insR d (.c (.own q len)) s'.regs),frzH q it.z.length xs (drop q ([(q,Obj.row it.z.length xs b)] ++ s'.heap))⟩:=by
      unfold St.frz;rw [hlq]
     rw [e] at hS2
     refine hS2.forget (fun r av hr => ?_) (fun k o' ho' => ?_)
     ·have hr:look r (insR d (.c (.val (.sl it.z.length xs))) s'.regs) = some av:=hr
      rw [look_ins] at hr
      show look r (frzR q it.z.length xs (insR d (.c (.own q len)) s'.regs)) = _
      rw [look_frzR,look_ins]
      by_cases er:d = r
      ·rw [if_pos er] at hr ⊢
       cases hr
       show some (AV.c (if q = q then AC.val (.sl it.z.length xs) else AC.own q len)) = _
       rw [if_pos rfl]
      ·rw [if_neg er] at hr ⊢
       rw [hr]
       show some (av.frz q it.z.length xs) = _
       rw [AV.frz_id (hq.2.1 r av hr)]
     ·have ho':look k s'.heap = some o':=ho'
      show look k (frzH q it.z.length xs (drop q ((q,Obj.row it.z.length xs b) :: s'.heap))) = _
      have hkq:k ≠ q:=by rintro rfl;rw [hq.1] at ho';cases ho'
      rw [look_frzH,look_drop,if_neg hkq,look,if_neg (fun e => hkq e.symm),ho']
      show some (o'.frz q it.z.length xs) = _
      rw [Obj.frz_id (hq.2.2 k o' ho')]
   ·cases h
  ·cases h
 ·rename_i x hop
  split at h
  ·rename_i hc
   obtain ⟨d,hd,h⟩:=bind_some h
   obtain ⟨v,hv,rfl⟩:=map_some h
   obtain ⟨av,h1,h2⟩:=bind_some hv
   have:av = .c (.val v):=by
    unfold valD at h2
    split at h2
    ·cases h2;rfl
    ·cases h2
   subst this
   exact Does1.asg C hi hop hc.1 hd hc.2 h1
  ·cases h
 ·cases h
end
end Go.Proofs.Ytofpjonggpjneaa
namespace Go.Proofs.Ytofpjonggpjneaa
open Go.RowKit
def rowA:Obj→Option (List AC)
 | .lit _ [r] => some r
 | .row _ [r] _ => some (r.map .val)
 | _ => none
section
variable {P:Program} {cfg:Cfg} {M:Nat→Prop} {ops:Array Oper} {s s':St} {w0:W0} {w:World} {Ok:Nat→Prop} {N:Nat} {σ:Asg} {a:Act} {fs:List Fr} {Q:Exit→St→Prop} {T:Tab P} {H:List (Nat × Obj)}
theorem rdCs.toA:∀ {x:List D} {us:List Value},rdCs (Zn σ H w) w us x→relCs σ H w (x.map .val) us
 | [],us,h => List.eq_nil_of_length_eq_zero (by rw [h.len];rfl)
 | y :: x,us,h => by
  obtain ⟨u,us',rfl,h3,h4⟩:=h.cons_inv
  exact ⟨u,us',rfl,h3.one,h3,rdCs.toA h4⟩
theorem relCs.len:∀ {x:List AC} {us:List Value},relCs σ H w x us→us.length = x.length
 | [],_,h => by rw [show _ = [] from h];rfl
 | y :: x,_,⟨u,us',e,_,_,h⟩ => by rw [e,List.length_cons,List.length_cons,relCs.len h]
theorem Sim.rowA (h:Sim w0 Ok N σ s a w) {key:Nat} {o:Obj} (hk:look key s.heap = some o) {r:List AC} (hr:rowA o = some r) :
  o.len = 1∧0 < o.k∧∃ us,us.length = o.k∧Row w (slv (σ.g key) o.len (σ.cap key)) o.k o.len us (σ.g key)∧relCs σ s.heap w r us:=by
 unfold Go.Proofs.Ytofpjonggpjneaa.rowA at hr
 split at hr
 ·rename_i k r'
  cases hr
  obtain ⟨ds,hrow,hkp,hel⟩:=(h.rows key _ hk).row
  obtain ⟨c,d,e,hl,hc,hd⟩:=(show relRs σ s.heap w k [r] ds from hel)
  have hd:d = []:=hd
  subst hd
  rw [List.append_nil] at e
  subst e
  exact ⟨rfl,hkp,ds,hl,hrow,hc⟩
 ·rename_i k r' d
  cases hr
  obtain ⟨ds,hrow,hkp,hel⟩:=RowOK.rd h.ok1 h.rows h.disj hk
  obtain ⟨c,e,e1,hl,hcl,hc,he⟩:=hel.cons_inv
  have he:e = []:=by
   have h1:=hrow.1
   rw [e1,List.length_append,hcl] at h1
   simp only [List.length_cons,List.length_nil] at h1
   exact List.eq_nil_of_length_eq_zero (by omega)
  subst he
  rw [List.append_nil] at e1
  subst e1
  exact ⟨rfl,hkp,ds,hcl,hrow,hc.toA⟩
 ·cases hr
theorem ROps.cut (C:CfgOK P cfg) (T:Tab P) (n:Nat) {l:List Oper} {Q:St→Prop} {s1:St} (ha:Work (aopsT cfg T ops (l.take n) s) (some s1)) (h:ROps P cfg M ops (l.drop n) Q s1):ROps P cfg M ops l Q s:=by
 have ha:aopsT cfg T ops (l.take n) s = some s1:=ha
 have cut:∀ (l m:List Oper) (s:St),aopsT cfg T ops l s = some s1→ROps P cfg M ops m Q s1→ROps P cfg M ops (l ++ m) Q s:=by
  intro l
  induction l with
  | nil => intro m s h1 h2;simp only [aopsT,Option.some.injEq] at h1;subst h1;exact h2
  | cons o l ih =>
   intro m s h1 h2
   simp only [aopsT] at h1
   obtain ⟨s2,h3,h4⟩:=bind_some h1
   exact ROps.stepT C h3 (ih m s2 h4 h2)
 have:=cut _ _ s ha h
 rwa [List.take_append_drop] at this
theorem relCs.toD:∀ {x:List D} {us:List Value},relCs σ H w (x.map .val) us→rdCs (Zn σ H w) w us x
 | [],us,h => by rw [show us = [] from h];exact rdCs.nil
 | y :: x,_,⟨u,us',e,_,h2,h⟩ => by rw [e];exact rdCs.cons h2 (relCs.toD h)
structure AFnS (P:Program) (f:FuncId) (ds:List (List D)) (cs:List D):Prop where
 call:∀ args w,(callFunc f args).run P w = .ok (.enter f args) w
 fn:∀ (A:Nat→Prop) w vs,(∀ b,A b→b < w.heap.size)→relArgs A w ds vs→Calls P f vs.toArray w (fun e w' => ∃ us,e = .returned (.agg us.toArray)∧Below w.heap.size w w'∧rdCs (fun b => A b ∨ w.heap.size ≤ b) w' us cs)
def EndsS (cfg:Cfg) (fn:Func) (cs:List D) (e:Exit) (s:St):Prop :=
 (e = .normal ∨ e = .ret)∧∃ t ty key o z,fn.results = #[.cell t ty]∧look t s.regs = some (.optr key 0 0)∧look key s.heap = some o∧rowA o = some (cs.map .val)∧cfg.ty ty = some (z,true)∧z.length = cs.length
theorem AFnS.of_runs (C:CfgOK P cfg) {f:FuncId} {fn:Func} {c:Code} (hf:P.funcs[f]? = some fn) (hb:fn.body = some c) (hname:(fn.name == "runtime.NumGoroutine") = false) (hN:fn.ntmps = cfg.N) {ds:List (List D)} (hd:ds.length ≤ fn.ntmps) {cs:List D}
  (h:∀ M,Runs P cfg M c (EndsS cfg fn cs) ⟨argRegs 0 ds,[]⟩):AFnS P f ds cs:=by
 refine ⟨enters_of hf hname hb,fun A w vs hA hv => ?_⟩
 have hlen:=hv.len
 refine calls_of_wp hf hb ?_
 have hS:=start_sim (A:=A) (N:=cfg.N) (n:=fn.ntmps - vs.length) hv (by omega)
 refine h _ ⟨w,fun _ => False⟩ A _ _ w _ rfl (by simpa using hS) (fun e s' hE σ' a' w' hS' => ?_)
 obtain ⟨he,t,ty,key,o,z,hres,ht,hk,hr,hty,hzl⟩:=hE
 obtain ⟨zv,ti,d,t1,t2,t3,t4,t5,t6,t7,t8⟩:=C.ty ty z true hty
 obtain ⟨hlen1,hkp,us,hul,hrow,hus⟩:=hS'.rowA hk hr
 obtain ⟨_,b,hg,ep⟩:=hS'.regs t _ ht o hk
 rw [Nat.zero_mul,Nat.zero_add] at ep
 rw [hg] at hrow
 have hrd:=hus.toD
 have hcl:us.length = cs.length:=hrd.len
 have hrange:w'.rangeAt b 0 us:=fun q v hq => by rw [Nat.zero_add];exact hrow.cells q v hq
 have hi:(P.info? ty).map (·.size) = some us.length:=by rw [t1,hcl,← hzl,← t3];rfl
 have hload:(loadVar ty ⟨b,0,none⟩).run P w' = .ok (.agg us.toArray) w':=run_loadVar_mid w' b 0 ty us d hrange t6 t7 hi
 have ep':a'.tmps.getD t undef = .pointer (some ⟨b,0,none⟩):=ep
 have hrun:(results fn a'.tmps).run P w' = .ok (.agg us.toArray) w':=by
  unfold results
  rw [hres,Array.mapM_eq_mapM_toList]
  rw [Array.getD_eq_getD_getElem?] at ep'
  simp [ep',asAddr,hload]
 have hm:∀ b,Zn σ' s'.heap w' b→b < w'.heap.size→A b ∨ w.heap.size ≤ b:=fun b hb _ => by
  rcases hS'.ok2 b hb.2.1 with h1|h1
  ·exact .inl h1
  ·rcases h1 with h1|h1
   ·exact .inr h1
   ·exact h1.elim
 have hfin:a'.defers = []∧∃ v,(results fn a'.tmps).run P w' = .ok v w'∧∃ us,Ending.returned v = .returned (.agg us.toArray)∧Below w.heap.size w w'∧rdCs (fun b => A b ∨ w.heap.size ≤ b) w' us cs:=⟨hS'.defers,_,hrun,us,rfl,hS'.below.below,hrd.mono hm⟩
 rcases he with rfl|rfl <;> exact hfin
end
end Go.Proofs.Ytofpjonggpjneaa
namespace Go.Proofs.Ytofpjonggpjneaa
open Go.RowKit
def nxtH (h:Int):Int:=IntKind.u64.wrap (IntKind.u64.wrap (h * 6364136223846793005) + 1442695040888963407)
def nxtB (h:Int):Int:=wrap64 (bits BinOp.and IntKind.u64 (nxtH h / 8589934592) 16777215)
def nxtX (code:List Int) (i:Nat) (h:Int):Int:=if hi:i < code.length then wrap64 (nxtB h + code[i]) else nxtB h
def nxtF (code:List Int) (s:Nat × Int) (n:Int):Int × Nat × Int:=if n < 1 then (0,s) else ((nxtX code s.1 s.2).tmod n,if s.1 < code.length then s.1 + 1 else s.1,nxtH s.2)
theorem nxtB_bd (h:Int):0 ≤ nxtB h∧nxtB h ≤ 16777215:=by
 have h0:0 ≤ nxtH h∧nxtH h < 18446744073709551616:=by unfold nxtH IntKind.wrap;simp [IntKind.signed,IntKind.bits];omega
 have e:=bits_and_u64_nat (nxtH h / 8589934592).toNat 16777215 (by omega) (by omega)
 have e1:(((nxtH h / 8589934592).toNat:Nat):Int) = nxtH h / 8589934592:=by omega
 rw [e1] at e
 have hle:(nxtH h / 8589934592).toNat &&& 16777215 ≤ 16777215:=Nat.and_le_right
 unfold nxtB
 have e2:((16777215:Nat):Int) = 16777215:=rfl
 rw [e2] at e
 rw [e]
 unfold wrap64
 omega
theorem nxtX_bd {code:List Int} (hc:∀ c ∈ code,0 ≤ c∧c < 256) (i:Nat) (h:Int):0 ≤ nxtX code i h∧nxtX code i h ≤ 16777470:=by
 have h1:=nxtB_bd h
 unfold nxtX
 split
 ·rename_i hi
  have h2:=hc code[i] (List.getElem_mem _)
  unfold wrap64
  omega
 ·omega
theorem nxtF_bd {code:List Int} (hc:∀ c ∈ code,0 ≤ c∧c < 256) (s:Nat × Int) (n:Int):0 ≤ (nxtF code s n).1∧((nxtF code s n).1 < n ∨ (n < 1∧(nxtF code s n).1 = 0)):=by
 unfold nxtF
 split
 ·rename_i h;exact ⟨Int.le_refl _,.inr ⟨h,rfl⟩⟩
 ·rename_i h
  have h1:=nxtX_bd hc s.1 s.2
  show 0 ≤ (nxtX code s.1 s.2).tmod n∧((nxtX code s.1 s.2).tmod n < n ∨ _)
  rw [Int.tmod_eq_emod_of_nonneg h1.1]
  exact ⟨Int.emod_nonneg _ (by omega),.inl (Int.emod_lt_of_pos _ (by omega))⟩
def Byt (w:World) (b:Nat) (oa:Option Addr) (code:List Int):Prop:=(∀ c ∈ code,0 ≤ c∧c < 256)∧(code = [] ∨ ∃ b2 off,oa = some ⟨b2,off,none⟩∧b2 ≠ b∧∀ i (h:i < code.length),w.cell? ⟨b2,off + i,none⟩ = some (.int .u8 code[i]))
theorem row_set {w:World} {b k cap0:Nat} {ds:List Value} (hr:Row w (slv (some b) 1 cap0) k 1 ds (some b)) (j:Nat) (u:Value):Row (w.setCell ⟨b,j,none⟩ u) (slv (some b) 1 cap0) k 1 (ds.set j u) (some b):=(hr.store j u).1
theorem bel_set {w0:World} {w:World} {b:Nat} (h:Bel ⟨w0,fun c => c = b⟩ w) (j:Nat) (u:Value):Bel ⟨w0,fun c => c = b⟩ (w.setCell ⟨b,j,none⟩ u) :=
 ⟨h.os,h.tape,h.output,by simpa using h.size,fun k hk hn => (heap_setCell_other w ⟨b,j,none⟩ k u (fun e => hn e)).trans (h.block k hk hn)⟩
theorem row_drew {w:World} {b k cap0:Nat} {ds:List Value} (hr:Row w (slv (some b) 1 cap0) k 1 ds (some b)) (n:Nat):Row (w.drewN n) (slv (some b) 1 cap0) k 1 ds (some b):=hr
theorem bel_drew {w0:World} {w:World} {b:Nat} (h:Bel ⟨w0,fun c => c = b⟩ w) (n:Nat):Bel ⟨w0,fun c => c = b⟩ (w.drewN n):=⟨h.os,h.tape,h.output,h.size,h.block⟩
theorem bel_refl (w:World) (b:Nat):Bel ⟨w,fun c => c = b⟩ w:=⟨rfl,rfl,rfl,Nat.le_refl _,fun _ _ _ => rfl⟩
def RetN (w:World) (b:Nat) (oa:Option Addr) (cap cap0:Nat) (code:List Int) (r:Int × Nat × Int) (e:Ending) (w':World):Prop :=
 e = .returned (.int .i64 r.1)∧Row w' (slv (some b) 1 cap0) 3 1 [.slice oa code.length cap,.int .i64 r.2.1,.int .u64 r.2.2] (some b)∧Bel ⟨w,fun c => c = b⟩ w'
set_option maxRecDepth 100000 in
set_option maxHeartbeats 1000000 in
theorem c_l01Next (w:World) (b:Nat) (oa:Option Addr) (code:List Int) (cap cap0:Nat) (s:Nat × Int) (n:Int) (hr:Row w (slv (some b) 1 cap0) 3 1 [.slice oa code.length cap,.int .i64 s.1,.int .u64 s.2] (some b)) (hB:Byt w b oa code) (hn:In64 n) (hat:s.1 ≤ code.length) (hl:code.length ≤ 1000000000) :
  Calls Try.prog 108 #[.pointer (some ⟨b,0,none⟩),.int .i64 n] w (RetN w b oa cap cap0 code (nxtF code s n)):=by
 obtain ⟨i,h⟩:=s
 have c0:=hr.cells 0 _ rfl
 have c1:=hr.cells 1 _ rfl
 have c2:=hr.cells 2 _ rfl
 have f0:=hr.frozen 0
 have f1:=hr.frozen 1
 have f2:=hr.frozen 2
 have hlt:=hr.lt b rfl
 simp only at c0 c1 c2 hat
 have HR:=Lib.hid hr
 by_cases hn1:n < 1
 ·have hF:nxtF code (i,h) n = (0,i,h):=if_pos hn1
  rw [hF]
  clear hr hB hF
  go_enter Try.func108,Try.ntmps108
  go_wp2
  go_ret
  exact ⟨rfl,HR.out,bel_refl w b⟩
 ·have hF:nxtF code (i,h) n = ((nxtX code i h).tmod n,if i < code.length then i + 1 else i,nxtH h):=if_neg hn1
  rw [hF]
  by_cases ha:i < code.length
  ·obtain ⟨b2,off,e,hne,hg⟩:=hB.2.resolve_left (fun e => by rw [e] at ha;cases ha)
   have hgi:=hg i ha
   clear hg
   have hc:=hB.1 code[i] (List.getElem_mem _)
   have hX:nxtX code i h = wrap64 (nxtB h + code[i]):=dif_pos ha
   rw [hX,if_pos ha]
   obtain ⟨c,hce⟩:∃ c,c = code[i]:=⟨_,rfl⟩
   rw [← hce] at hgi hc ⊢
   have hwc:wrap64 c = c:=by unfold wrap64;omega
   subst e
   clear hr hB hce hF hX
   go_enter Try.func108,Try.ntmps108
   go_wp2
   go_quiet (fail)
   go_wp2
   go_quiet (fail)
   go_wp2
   go_ret
   exact ⟨rfl,row_set (row_drew (row_set HR.out 2 _) _) 1 _,bel_set (bel_drew (bel_set (bel_refl w b) 2 _) _) 1 _⟩
  ·have hX:nxtX code i h = nxtB h:=dif_neg ha
   rw [hX,if_neg ha]
   clear hr hB hF hX
   go_enter Try.func108,Try.ntmps108
   go_wp2
   go_quiet (fail)
   go_wp2
   go_ret
   exact ⟨rfl,row_drew (row_set HR.out 2 _) _,bel_drew (bel_set (bel_refl w b) 2 _) _⟩
def hshS (m:Int) (h c:Int):Int:=IntKind.u64.wrap (IntKind.u64.wrap (IntKind.u64.wrap (h * 1099511628211) + c) + m)
def hshF (m h0:Int) (code:List Int):Int:=code.foldl (hshS m) h0
theorem hshF_snoc (m h0:Int) (code:List Int) (k:Nat) (h:k < code.length):hshF m h0 (code.take (k + 1)) = hshS m (hshF m h0 (code.take k)) code[k]:=by
 unfold hshF
 rw [List.take_succ_eq_append_getElem h,List.foldl_append];rfl
def RetP (w:World) (oa:Option Addr) (cap:Nat) (code:List Int) (h:Int) (e:Ending) (w':World):Prop :=
 e = .returned (.pointer (some ⟨w.heap.size,0,none⟩))∧Row w' (slv (some w.heap.size) 1 1) 3 1 [.slice oa code.length cap,.int .i64 0,.int .u64 h] (some w.heap.size)∧Below w.heap.size w w'
theorem cell_lt {w:World} {b off:Nat} {v:Value} (h:w.cell? ⟨b,off,none⟩ = some v):b < w.heap.size:=by
 rcases Nat.lt_or_ge b w.heap.size with h1|h1
 ·exact h1
 ·rw [World.cell?] at h
  simp [Array.getElem?_eq_none h1] at h
theorem byt_below {w w':World} {n b off:Nat} {v:Value} (hb:Below n w w') (hlt:b < n) (h:w.cell? ⟨b,off,none⟩ = some v):w'.cell? ⟨b,off,none⟩ = some v:=by
 rw [World.cell?] at h ⊢
 rw [hb.block b hlt]
 exact h
set_option maxRecDepth 100000 in
set_option maxHeartbeats 2000000 in
theorem c_l01From (w:World) (oa:Option Addr) (code:List Int) (cap:Nat) (hB:Byt w w.heap.size oa code) (hcap:code.length ≤ cap) (hnil:oa = none→cap = 0) (hl:code.length ≤ 1000000000) :
  Calls Try.prog 90 #[.slice oa code.length cap] w (RetP w oa cap code (hshF 11 (5381 + code.length) (code.take 4096))):=by
 unfold RetP
 have HB:=Lib.hid hB
 obtain ⟨h0,hh0⟩:∃ h0,h0 = 5381 + (code.length:Int):=⟨_,rfl⟩
 rw [← hh0]
 have HH:=Lib.hid hh0
 clear hB hh0
 go_enter Try.func90,Try.ntmps90
 go_wp2
 go_loopw [4] (fun i wr => ∃ k:Nat,k ≤ code.length∧k ≤ 4096∧i = .int .i64 k∧Row wr (slv (some w.heap.size) 1 1) 3 1 [.slice oa code.length cap,.int .i64 0,.int .u64 (hshF 11 h0 (code.take k))] (some w.heap.size)∧Below w.heap.size w wr) (fun i _ => code.length - (intOf i).toNat)
 case atStart =>
  refine ⟨0,Nat.zero_le _,Nat.zero_le _,rfl,?_,?_⟩
  ·rw [List.take_zero]
   show Row _ _ 3 1 [_,_,.int .u64 h0] _
   rw [HH.out]
   exact Row.lit w #[.slice oa code.length cap,.int .i64 0,.int .u64 _] _ 3 1 (by decide) rfl
  ·exact (Below.refl _ _).alloc (Nat.le_refl _) _
 case round =>
  obtain ⟨k,hk,hk2,rfl,hrow,hbel⟩:=hrel
  have c0:=hrow.cells 0 _ rfl
  have c2:=hrow.cells 2 _ rfl
  have f2:=hrow.frozen 2
  have hlt:=hrow.lt _ rfl
  have HR:=Lib.hid hrow
  have HL:=Lib.hid hbel
  clear hrow hbel
  by_cases hlt1:k < code.length
  ·by_cases hlt2:k < 4096
   ·have hB:=HB.out
    obtain ⟨b2,off,e,hne,hg⟩:=hB.2.resolve_left (fun e => by rw [e] at hlt1;cases hlt1)
    have hgi:=byt_below HL.out (cell_lt (hg k hlt1)) (hg k hlt1)
    have hc:=hB.1 code[k] (List.getElem_mem _)
    have hst:=hshF_snoc 11 h0 code k hlt1
    obtain ⟨c,hce⟩:∃ c,c = code[k]:=⟨_,rfl⟩
    rw [← hce] at hgi hc hst
    subst e
    have HS:=Lib.hid hst
    clear hB hg hce hst
    obtain ⟨h,hh⟩:∃ h,h = hshF 11 h0 (code.take k):=⟨_,rfl⟩
    rw [← hh] at HR HS c2
    clear hh
    go_wp2_with fail
    go_region
    go_wp2_with fail
    go_roundw
    case rel =>
     refine ⟨k + 1,by omega,by omega,by go_num,?_,?_⟩
     ·rw [HS.out]
      exact row_set HR.out 2 _
     ·have hz:Below w.heap.size w (wr.setCell ⟨w.heap.size,2,none⟩ (.int .u64 (hshS 11 h c))):=HL.out.setCell (Nat.le_refl _) _
      exact ⟨hz.os,hz.tape,hz.output,hz.size,hz.block⟩
    case measure => simp [intOf];omega
   ·obtain rfl:k = 4096:=by omega
    go_wp2_with fail
    go_ret
    exact ⟨rfl,HR.out,HL.out⟩
  ·have e:code.take 4096 = code.take k:=by rw [List.take_of_length_le (by omega),List.take_of_length_le (by omega)]
   have HE:=Lib.hid e
   clear e
   go_wp2_with fail
   go_ret
   rw [HE.out]
   exact ⟨rfl,HR.out,HL.out⟩
end Go.Proofs.Ytofpjonggpjneaa
