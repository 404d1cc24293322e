/- Lemmas (25). -/
import Derived.Test.YtofpjonggpjneaaZG16
import Derived.Test.YtofpjonggpjneaaZG17
import Derived.Test.YtofpjonggpjneaaZG23
import Derived.Test.YtofpjonggpjneaaZG24
set_option linter.unusedSimpArgs false
set_option linter.unusedVariables false
namespace Go.Proofs.Ytofpjonggpjneaa
open Go.RowKit
theorem gfOf_cnt (u:List Int) (f:List (List Int)):cnt_C (gfOf u f).1 ≤ 1048576:=by
 unfold gfOf
 split
 ·rename_i h
  rw [Bool.and_eq_true] at h
  split
  ·rename_i h8
   have F:=gf_all h.1 h.2 h8
   have h1:=sumOf_len (gfT u f)
   have h3:(gfT u f).length = u.length ^ f.length:=by unfold gfT;rw [List.length_map,plcO_len]
   have h4:=F.pow
   have h2:=cnt_C_le (m:=8) (sumOf (gfT u f)) (fun z hz => F.siz _ ((sumOf_is (gfT u f)).key z hz))
   show cnt_C (sumOf (gfT u f)) ≤ _
   omega
  ·simp [cnt_C]
 ·simp [cnt_C]
theorem gfX_siz {u:List Int} {f:List (List Int)} (F:GfF u f) (hu:lev8 u = true):sumLen (gfX (canon u) f [] f.length) ≤ 2048:=by
 have hcl:=canon_len (lev8_lev hu)
 have hp:(gfX (canon u) f [] f.length).Perm (gfT u f):=by
  have h1:=(sumOf_is (gfX (canon u) f [] f.length)).2
  have h2:=(sumOf_is (gfT u f)).2
  rw [F.c2] at h1
  exact h1.symm.trans h2
 have h3:(gfT u f).length = u.length ^ f.length:=by unfold gfT;rw [List.length_map,plcO_len]
 have h4:=F.pow
 have h5:=sumLen_le (gfX (canon u) f [] f.length) (fun t ht => F.siz t (hp.mem_iff.1 ht))
 rw [hp.length_eq] at h5
 omega
noncomputable def TGfI:Tab Try.prog :=
 (Tab.none.add 52 (tab1 codLL fun f => if sumLen f ≤ 1048576∧f.length ≤ 1048576 then some [.val (.bool (forB f))] else none) (tab1_ok fun f rs h => by split at h;cases h;rename_i hs;exact a_impl_IsForest f (by omega) (by omega);cases h)).add
  128 (tab1 codLL fun f => some [.val (.int (nodesB f))]) (tab1_ok fun f rs h => by cases h;exact a_nodesIn f)
set_option maxHeartbeats 4000000 in
theorem a_impl_GraftForest (u:List Int) (f:List (List Int)) (hsu:u.length ≤ 1048576) (hf:sumLen f ≤ 1048576) (hf2:f.length ≤ 1048576):AFn Try.prog 75 [eL u,eLL f] (· = [.own 2 ((gfOf u f).1.map eCt) true,.val (.int (gfOf u f).2)]):=by
 have n1:=nodesB_eq f (by omega)
 have s1:=eq_true (And.intro hf hf2)
 have hl:=a_impl_IsLevels u
 have hum:(u.map eI).length = u.length:=List.length_map _
 unfold gfOf
 by_cases hu:lev8 u = true
 rotate_left
 ·have hu:lev8 u = false:=by simpa using hu
  rw [hu] at hl ⊢
  rw [if_neg (by rw [Bool.false_and];decide)]
  simp only [eL] at hl
  refine AFn.of_runs (cfg_ok 27) Try.func75 rfl rfl rfl (by simp only [List.length_cons,List.length_nil];decide) ?_
  have hres:Try.f75.results.toList = [.tmp 4,.tmp 5]:=rfl
  have hrts:Try.f75.resultTypes.toList = [40,2]:=rfl
  simp only [argRegs,argAV1,eL,eI,eLL,eB,Nat.zero_add,Nat.reduceAdd]
  intro M
  refine RunK.of ?_
  repeat' (first|with_reducible (first|refine Q1 ?_|refine Q2 ?_|refine Q3 ?_|refine Q4 ?_|refine Q5 ?_|refine Q6 ?_|refine Q7 ?_|refine Q8 ?_|refine Q9 ?_|refine Qa ?_|refine Qb ?_|refine Qc ?_|refine Qd ?_|refine Qe ?_|refine Qf ?_)|((with_reducible refine Qo ?_ ?_);focus rfl)|((with_reducible first|refine QT 6 (l:=?_) ?_ ?_|refine QF 6 (l:=?_) ?_ ?_);rotate_left 1;focus (simp only [Zu,Nat.reduceSub,Nat.reduceBEq];with_reducible rfl))|((with_reducible first|refine QS (cfg_ok 27) (TGfI.at' 49 hl) (s':=?_) ?_ ?_|refine QC (b:=?_) ?_ ?_);rotate_left 1;focus ((with_reducible refine QW ?_);simp only [Zg,seval,if_true,if_false,reduceCtorEq,Nat.reduceEqDiff,TGfI,eL,s1];with_reducible rfl)))
  (refine Ends.mk (by simp) (rs:=?_) (ks:=?_) hres hrts ?_ ?_ ?_;rotate_left 2;(focus (simp only [Ze,Zg,seval,if_true,if_false,reduceCtorEq,Nat.reduceEqDiff];with_reducible rfl));(focus simp);focus (first|with_reducible rfl|(simp only [Zv];done)))
 by_cases hF:forB f = true
 rotate_left
 ·have hF:forB f = false:=by simpa using hF
  rw [hu] at hl ⊢
  rw [hF,if_neg (by decide)]
  simp only [eL] at hl
  refine AFn.of_runs (cfg_ok 27) Try.func75 rfl rfl rfl (by simp only [List.length_cons,List.length_nil];decide) ?_
  have hres:Try.f75.results.toList = [.tmp 4,.tmp 5]:=rfl
  have hrts:Try.f75.resultTypes.toList = [40,2]:=rfl
  simp only [argRegs,argAV1,eL,eI,eLL,eB,Nat.zero_add,Nat.reduceAdd]
  intro M
  refine RunK.of ?_
  repeat' (first|with_reducible (first|refine Q1 ?_|refine Q2 ?_|refine Q3 ?_|refine Q4 ?_|refine Q5 ?_|refine Q6 ?_|refine Q7 ?_|refine Q8 ?_|refine Q9 ?_|refine Qa ?_|refine Qb ?_|refine Qc ?_|refine Qd ?_|refine Qe ?_|refine Qf ?_)|((with_reducible refine Qo ?_ ?_);focus rfl)|((with_reducible first|refine QT 6 (l:=?_) ?_ ?_|refine QF 6 (l:=?_) ?_ ?_);rotate_left 1;focus (simp only [Zu,Nat.reduceSub,Nat.reduceBEq];with_reducible rfl))|((with_reducible first|refine QS (cfg_ok 27) (TGfI.at' 49 hl) (s':=?_) ?_ ?_|refine QC (b:=?_) ?_ ?_);rotate_left 1;focus ((with_reducible refine QW ?_);simp only [Zg,seval,if_true,if_false,reduceCtorEq,Nat.reduceEqDiff,TGfI,eL,s1,hF];with_reducible rfl)))
  (refine Ends.mk (by simp) (rs:=?_) (ks:=?_) hres hrts ?_ ?_ ?_;rotate_left 2;(focus (simp only [Ze,Zg,seval,if_true,if_false,reduceCtorEq,Nat.reduceEqDiff];with_reducible rfl));(focus simp);focus (first|with_reducible rfl|(simp only [Zv];done)))
 have hw:=w64_eq (n:=(u.length:Int) + (sumLen f:Int)) (by omega)
 rw [hu] at hl ⊢
 rw [hF,if_pos (by decide)]
 by_cases h8:u.length + sumLen f ≤ 8
 rotate_left
 ·have i1:((u.length:Int) + (sumLen f:Int) > 8) = True:=eq_true (by omega)
  rw [if_neg h8]
  simp only [eL] at hl
  refine AFn.of_runs (cfg_ok 27) Try.func75 rfl rfl rfl (by simp only [List.length_cons,List.length_nil];decide) ?_
  have hres:Try.f75.results.toList = [.tmp 4,.tmp 5]:=rfl
  have hrts:Try.f75.resultTypes.toList = [40,2]:=rfl
  simp only [argRegs,argAV1,eL,eI,eLL,eB,Nat.zero_add,Nat.reduceAdd]
  intro M
  refine RunK.of ?_
  repeat' (first|with_reducible (first|refine Q1 ?_|refine Q2 ?_|refine Q3 ?_|refine Q4 ?_|refine Q5 ?_|refine Q6 ?_|refine Q7 ?_|refine Q8 ?_|refine Q9 ?_|refine Qa ?_|refine Qb ?_|refine Qc ?_|refine Qd ?_|refine Qe ?_|refine Qf ?_)|((with_reducible refine Qo ?_ ?_);focus rfl)|((with_reducible first|refine QT 6 (l:=?_) ?_ ?_|refine QF 6 (l:=?_) ?_ ?_);rotate_left 1;focus (simp only [Zu,Nat.reduceSub,Nat.reduceBEq];with_reducible rfl))|((with_reducible first|refine QS (cfg_ok 27) (TGfI.at' 49 hl) (s':=?_) ?_ ?_|refine QC (b:=?_) ?_ ?_);rotate_left 1;focus ((with_reducible refine QW ?_);simp only [Zg,seval,if_true,if_false,reduceCtorEq,Nat.reduceEqDiff,TGfI,eL,s1,hF,n1,hw,i1,hum];with_reducible rfl)))
  (refine Ends.mk (by simp) (rs:=?_) (ks:=?_) hres hrts ?_ ?_ ?_;rotate_left 2;(focus (simp only [Ze,Zg,seval,if_true,if_false,reduceCtorEq,Nat.reduceEqDiff];with_reducible rfl));(focus simp);focus (first|with_reducible rfl|(simp only [Zv];done)))
 have i1:((u.length:Int) + (sumLen f:Int) > 8) = False:=eq_false (by omega)
 rw [if_pos h8]
 have F:=gf_all hu hF h8
 have hcl:=canon_len (lev8_lev hu)
 have hcu:=lev8_canon hu
 have hca:=a_canonical u (lev8_lev hu) (lev8_len hu)
 have hpow:=F.pow
 have hga:=(a_graftAllF (canon u) f hcu F.lev (by omega) F.c1 F.few f.length [] [] (by simp) (by simp) (fun p hp => hp) (by rw [hcl];simp only [List.length_nil];omega)).nil (by decide)
 rw [List.nil_append] at hga
 have hct:=a_countedB (gfX (canon u) f [] f.length) (by rw [gfX_len,hcl];omega) (by have:=gfX_siz F hu;omega)
 rw [cntOf_sumOf,F.c2] at hct
 obtain ⟨V,hV⟩:∃ V,V = sumOf (gfT u f):=⟨_,rfl⟩
 obtain ⟨X,hX⟩:∃ X,X = gfX (canon u) f [] f.length:=⟨_,rfl⟩
 rw [← hV,← hX] at hct
 rw [← hX] at hga
 rw [← hV]
 simp only [eLL,eL] at hl hca hct
 refine AFn.of_runs (cfg_ok 27) Try.func75 rfl rfl rfl (by simp only [List.length_cons,List.length_nil];decide) ?_
 have hres:Try.f75.results.toList = [.tmp 4,.tmp 5]:=rfl
 have hrts:Try.f75.resultTypes.toList = [40,2]:=rfl
 simp only [argRegs,argAV1,eL,eI,eLL,eB,Nat.zero_add,Nat.reduceAdd]
 intro M
 refine RunK.of ?_
 repeat' (first|with_reducible (first|refine Q1 ?_|refine Q2 ?_|refine Q3 ?_|refine Q4 ?_|refine Q5 ?_|refine Q6 ?_|refine Q7 ?_|refine Q8 ?_|refine Q9 ?_|refine Qa ?_|refine Qb ?_|refine Qc ?_|refine Qd ?_|refine Qe ?_|refine Qf ?_)|((with_reducible refine Qo ?_ ?_);focus rfl)|((with_reducible first|refine QT 6 (l:=?_) ?_ ?_|refine QF 6 (l:=?_) ?_ ?_);rotate_left 1;focus (simp only [Zu,Nat.reduceSub,Nat.reduceBEq];with_reducible rfl))|((with_reducible first|refine QS (cfg_ok 27) (TGfI.at' 49 hl) (s':=?_) ?_ ?_|refine QC (b:=?_) ?_ ?_);rotate_left 1;focus ((with_reducible refine QW ?_);simp only [Zg,seval,if_true,if_false,reduceCtorEq,Nat.reduceEqDiff,TGfI,eL,eLL,s1,hF,n1,hw,i1,hum];with_reducible rfl)))
 refine RunK.regCut (cfg_ok 27) (Tab.none.at' 105 hca) 3 (s1:=?_) ?_ ?_
 rotate_left 1
 focus (refine Work.mk ?_;simp only [Zg,seval,if_true,if_false,reduceCtorEq,Nat.reduceEqDiff];with_reducible rfl)
 simp only [List.toList_toArray,List.drop_succ_cons,List.drop_zero]
 refine ROps.frzs [23] ?_
 refine ROps.callNil (cfg_ok 27) (d:=25) (g:=115) (xs:=[.tmp 23,.const (.slice none 0 0),.tmp 24]) (tx:=[24,108,30]) (pre:=[eL (canon u),eL [],eLL f]) rfl (by decide) rfl rfl rfl rfl rfl rfl hga rfl ?_
 refine ROps.opsT (cfg_ok 27) (T:=Tab.none.at' 114 hct) (s':=?_) ?_ ?_
 rotate_left 1
 focus (simp only [Zg,seval,if_true,if_false,reduceCtorEq,Nat.reduceEqDiff];with_reducible rfl)
 repeat' (first|with_reducible (first|refine Q1 ?_|refine Q2 ?_|refine Q3 ?_|refine Q4 ?_|refine Q5 ?_|refine Q6 ?_|refine Q7 ?_|refine Q8 ?_|refine Q9 ?_|refine Qa ?_|refine Qb ?_|refine Qc ?_|refine Qd ?_|refine Qe ?_|refine Qf ?_)|((with_reducible refine Qo ?_ ?_);focus rfl)|((with_reducible first|refine QT 6 (l:=?_) ?_ ?_|refine QF 6 (l:=?_) ?_ ?_);rotate_left 1;focus (simp only [Zu,Nat.reduceSub,Nat.reduceBEq];with_reducible rfl))|((with_reducible first|refine QS (cfg_ok 27) Tab.none (s':=?_) ?_ ?_|refine QC (b:=?_) ?_ ?_);rotate_left 1;focus ((with_reducible refine QW ?_);simp only [Zg,seval,if_true,if_false,reduceCtorEq,Nat.reduceEqDiff];with_reducible rfl)))
 (refine Ends.mk (by simp) (rs:=?_) (ks:=?_) hres hrts ?_ ?_ ?_;rotate_left 2;(focus (simp only [Ze,Zg,seval,if_true,if_false,reduceCtorEq,Nat.reduceEqDiff];with_reducible rfl));(focus simp);focus (first|with_reducible rfl|(simp only [Zv];done)))
theorem k_impl_GraftForest (v1 v2:Value) (u:List Int) (f:List (List Int)) (w:World) (h:Rd (RS RI) w [v1] u) (h2:Rd (RS (RS RI)) w [v2] f) (hsu:u.length ≤ 1048576) (hz:szII f):Calls Try.prog 75 #[v1,v2] w (RetOC (RS RCounted) w (gfOf u f).1 (gfOf u f).2) :=
 AFn.oi encCt (a_impl_GraftForest u f hsu (by unfold szII at hz;omega) (by unfold szII at hz;omega)) (args2 (arg_L h) (arg_LL h2))
noncomputable def TGfS:Tab Try.prog :=
 (Tab.none.add 136 (tab1 codLL fun f => if sumLen f ≤ 1048576∧f.length ≤ 1048576 then some [.val (.bool (forB f))] else none) (tab1_ok fun f rs h => by split at h;cases h;rename_i hs;exact a_l03Forest f (by omega) (by omega);cases h)).add
  137 (tab1 codLL fun f => some [.val (.int (nodesB f))]) (tab1_ok fun f rs h => by cases h;exact a_l03Nodes f)
theorem lev_bd {t:List Int} (h:lev8 t = true):∀ x ∈ t,-100 ≤ x∧x ≤ 100:=fun x hx => by
 obtain ⟨i,hi,rfl⟩:=List.mem_iff_getElem.1 hx
 have:=(lev8_lev h).bd i hi
 have:=lev8_len h
 omega
set_option maxRecDepth 20000 in
set_option maxHeartbeats 16000000 in
theorem a_spec_GraftForest (u:List Int) (f:List (List Int)) (hsu:u.length ≤ 1048576) (hf:sumLen f ≤ 1048576) (hf2:f.length ≤ 1048576):AFn Try.prog 72 [eL u,eLL f] (· = [.own 2 ((gfOf u f).1.map eCt) (!(lev8 u && forB f && decide (u.length + sumLen f ≤ 8))),.val (.int (gfOf u f).2)]):=by
 have n1:=nodesB_eq f (by omega)
 have s1:=eq_true (And.intro hf hf2)
 have hl:=a_spec_l03Is u hsu
 have hum:(u.map eI).length = u.length:=List.length_map _
 have hfm:(f.map eL).length = f.length:=List.length_map _
 unfold gfOf
 by_cases hu:lev8 u = true
 rotate_left
 ·have hu:lev8 u = false:=by simpa using hu
  rw [hu] at hl ⊢
  rw [if_neg (by rw [Bool.false_and];decide),Bool.false_and,Bool.false_and]
  simp only [eL] at hl
  refine AFn.of_runs (cfg_ok 65) Try.func72 rfl rfl rfl (by simp only [List.length_cons,List.length_nil];decide) ?_
  have hres:Try.f72.results.toList = [.tmp 4,.tmp 5]:=rfl
  have hrts:Try.f72.resultTypes.toList = [40,2]:=rfl
  simp only [argRegs,argAV1,eL,eI,eLL,eB,Nat.zero_add,Nat.reduceAdd]
  intro M
  refine RunK.of ?_
  repeat' (first|with_reducible (first|refine Q1 ?_|refine Q2 ?_|refine Q3 ?_|refine Q4 ?_|refine Q5 ?_|refine Q6 ?_|refine Q7 ?_|refine Q8 ?_|refine Q9 ?_|refine Qa ?_|refine Qb ?_|refine Qc ?_|refine Qd ?_|refine Qe ?_|refine Qf ?_)|((with_reducible refine Qo ?_ ?_);focus rfl)|((with_reducible first|refine QT 9 (l:=?_) ?_ ?_|refine QF 9 (l:=?_) ?_ ?_);rotate_left 1;focus (simp only [Zu,Nat.reduceSub,Nat.reduceBEq];with_reducible rfl))|((with_reducible first|refine QS (cfg_ok 65) (TGfS.at' 110 hl) (s':=?_) ?_ ?_|refine QC (b:=?_) ?_ ?_);rotate_left 1;focus ((with_reducible refine QW ?_);simp only [Zg,seval,if_true,if_false,reduceCtorEq,Nat.reduceEqDiff,TGfS,eL,s1];with_reducible rfl)))
  (refine Ends.mk (by simp) (rs:=?_) (ks:=?_) hres hrts ?_ ?_ ?_;rotate_left 2;(focus (simp only [Ze,Zg,seval,if_true,if_false,reduceCtorEq,Nat.reduceEqDiff,Bool.not_false];with_reducible rfl));(focus simp);focus (first|with_reducible rfl|(simp only [Zv,Bool.not_false];done)))
 by_cases hF:forB f = true
 rotate_left
 ·have hF:forB f = false:=by simpa using hF
  rw [hu] at hl ⊢
  rw [hF,if_neg (by decide),Bool.and_false,Bool.false_and]
  simp only [eL] at hl
  refine AFn.of_runs (cfg_ok 65) Try.func72 rfl rfl rfl (by simp only [List.length_cons,List.length_nil];decide) ?_
  have hres:Try.f72.results.toList = [.tmp 4,.tmp 5]:=rfl
  have hrts:Try.f72.resultTypes.toList = [40,2]:=rfl
  simp only [argRegs,argAV1,eL,eI,eLL,eB,Nat.zero_add,Nat.reduceAdd]
  intro M
  refine RunK.of ?_
  repeat' (first|with_reducible (first|refine Q1 ?_|refine Q2 ?_|refine Q3 ?_|refine Q4 ?_|refine Q5 ?_|refine Q6 ?_|refine Q7 ?_|refine Q8 ?_|refine Q9 ?_|refine Qa ?_|refine Qb ?_|refine Qc ?_|refine Qd ?_|refine Qe ?_|refine Qf ?_)|((with_reducible refine Qo ?_ ?_);focus rfl)|((with_reducible first|refine QT 9 (l:=?_) ?_ ?_|refine QF 9 (l:=?_) ?_ ?_);rotate_left 1;focus (simp only [Zu,Nat.reduceSub,Nat.reduceBEq];with_reducible rfl))|((with_reducible first|refine QS (cfg_ok 65) (TGfS.at' 110 hl) (s':=?_) ?_ ?_|refine QC (b:=?_) ?_ ?_);rotate_left 1;focus ((with_reducible refine QW ?_);simp only [Zg,seval,if_true,if_false,reduceCtorEq,Nat.reduceEqDiff,TGfS,eL,s1,hF];with_reducible rfl)))
  (refine Ends.mk (by simp) (rs:=?_) (ks:=?_) hres hrts ?_ ?_ ?_;rotate_left 2;(focus (simp only [Ze,Zg,seval,if_true,if_false,reduceCtorEq,Nat.reduceEqDiff,Bool.not_false];with_reducible rfl));(focus simp);focus (first|with_reducible rfl|(simp only [Zv,Bool.not_false];done)))
 have hw:=w64_eq (n:=(u.length:Int) + (sumLen f:Int)) (by omega)
 rw [hu] at hl ⊢
 rw [hF,if_pos (by decide),Bool.and_self,Bool.true_and]
 by_cases h8:u.length + sumLen f ≤ 8
 rotate_left
 ·have i1:((u.length:Int) + (sumLen f:Int) > 8) = True:=eq_true (by omega)
  rw [if_neg h8,decide_eq_false h8]
  simp only [eL] at hl
  refine AFn.of_runs (cfg_ok 65) Try.func72 rfl rfl rfl (by simp only [List.length_cons,List.length_nil];decide) ?_
  have hres:Try.f72.results.toList = [.tmp 4,.tmp 5]:=rfl
  have hrts:Try.f72.resultTypes.toList = [40,2]:=rfl
  simp only [argRegs,argAV1,eL,eI,eLL,eB,Nat.zero_add,Nat.reduceAdd]
  intro M
  refine RunK.of ?_
  repeat' (first|with_reducible (first|refine Q1 ?_|refine Q2 ?_|refine Q3 ?_|refine Q4 ?_|refine Q5 ?_|refine Q6 ?_|refine Q7 ?_|refine Q8 ?_|refine Q9 ?_|refine Qa ?_|refine Qb ?_|refine Qc ?_|refine Qd ?_|refine Qe ?_|refine Qf ?_)|((with_reducible refine Qo ?_ ?_);focus rfl)|((with_reducible first|refine QT 9 (l:=?_) ?_ ?_|refine QF 9 (l:=?_) ?_ ?_);rotate_left 1;focus (simp only [Zu,Nat.reduceSub,Nat.reduceBEq];with_reducible rfl))|((with_reducible first|refine QS (cfg_ok 65) (TGfS.at' 110 hl) (s':=?_) ?_ ?_|refine QC (b:=?_) ?_ ?_);rotate_left 1;focus ((with_reducible refine QW ?_);simp only [Zg,seval,if_true,if_false,reduceCtorEq,Nat.reduceEqDiff,TGfS,eL,s1,hF,n1,hw,i1,hum];with_reducible rfl)))
  (refine Ends.mk (by simp) (rs:=?_) (ks:=?_) hres hrts ?_ ?_ ?_;rotate_left 2;(focus (simp only [Ze,Zg,seval,if_true,if_false,reduceCtorEq,Nat.reduceEqDiff,Bool.not_false];with_reducible rfl));(focus simp);focus (first|with_reducible rfl|(simp only [Zv,Bool.not_false];done)))
 have i1:((u.length:Int) + (sumLen f:Int) > 8) = False:=eq_false (by omega)
 rw [if_pos h8,decide_eq_true h8]
 have F:=gf_all hu hF h8
 have hup:=(lev8_lev hu).pos
 have hpow:=F.pow
 have hfew:=F.few
 obtain ⟨P,hP⟩:∃ P,P = plcO u.length f.length:=⟨_,rfl⟩
 have hPl:P.length = u.length ^ f.length:=by rw [hP,plcO_len]
 have hP0:P[0]? = some (List.replicate f.length 0):=by rw [hP];exact plcO_zero hup _
 have hPn:∀ t p,P[t]? = some p→nxtP u.length p = P[t + 1]?:=fun t p h => by rw [hP] at h ⊢;exact nxtP_at hup _ t p h
 have hPm:∀ p ∈ P,p.length = f.length∧∀ n ∈ p,n < u.length:=fun p hp => by rw [hP] at hp;exact plcO_mem hp
 have hPv:∀ p ∈ P,lev8 (mixL u f p) = true:=fun p hp => F.c3 p (by rw [← hP];exact hp)
 obtain ⟨G,hG⟩:∃ G,G = P.map fun ps => canon (mixL u f ps):=⟨_,rfl⟩
 have hGT:gfT u f = G:=by rw [hG,hP];rfl
 rw [hGT]
 simp only [eL] at hl
 refine AFn.of_runs (cfg_ok 65) Try.func72 rfl rfl rfl (by simp only [List.length_cons,List.length_nil];decide) ?_
 have hres:Try.f72.results.toList = [.tmp 4,.tmp 5]:=rfl
 have hrts:Try.f72.resultTypes.toList = [40,2]:=rfl
 simp only [argRegs,argAV1,eL,eI,eLL,eB,Nat.zero_add,Nat.reduceAdd]
 intro M
 refine RunK.of ?_
 repeat' (first|with_reducible (first|refine Q1 ?_|refine Q2 ?_|refine Q3 ?_|refine Q4 ?_|refine Q5 ?_|refine Q6 ?_|refine Q7 ?_|refine Q8 ?_|refine Q9 ?_|refine Qa ?_|refine Qb ?_|refine Qc ?_|refine Qd ?_|refine Qe ?_|refine Qf ?_)|((with_reducible refine Qo ?_ ?_);focus rfl)|((with_reducible first|refine QT 9 (l:=?_) ?_ ?_|refine QF 9 (l:=?_) ?_ ?_);rotate_left 1;focus (simp only [Zu,Nat.reduceSub,Nat.reduceBEq];with_reducible rfl))|((with_reducible first|refine QS (cfg_ok 65) (TGfS.at' 110 hl) (s':=?_) ?_ ?_|refine QC (b:=?_) ?_ ?_);rotate_left 1;focus ((with_reducible refine QW ?_);simp only [Zg,seval,if_true,if_false,reduceCtorEq,Nat.reduceEqDiff,TGfS,eL,s1,hF,n1,hw,i1,hum,hfm];with_reducible rfl)))
 have mk1:((0:Int) ≤ (f.length:Int)) = True:=eq_true (by omega)
 have mk2:((f.length:Int) * 1 ≤ 16777216) = True:=eq_true (by omega)
 have mk3:((f.length:Int) * ((1:Nat):Int) ≤ 16777216) = True:=eq_true (by omega)
 have mk4:((f.length:Int) * 8 ≤ 281474976710656) = True:=eq_true (by omega)
 have mk5:((f.length:Int) * ((8:Nat):Int) ≤ 281474976710656) = True:=eq_true (by omega)
 repeat' (first|with_reducible (first|refine Q1 ?_|refine Q2 ?_|refine Q3 ?_|refine Q4 ?_|refine Q5 ?_|refine Q6 ?_|refine Q7 ?_|refine Q8 ?_|refine Q9 ?_|refine Qa ?_|refine Qb ?_|refine Qc ?_|refine Qd ?_|refine Qe ?_|refine Qf ?_)|((with_reducible refine Qo ?_ ?_);focus rfl)|((with_reducible first|refine QT 9 (l:=?_) ?_ ?_|refine QF 9 (l:=?_) ?_ ?_);rotate_left 1;focus (simp only [Zu,Nat.reduceSub,Nat.reduceBEq];with_reducible rfl))|((with_reducible first|refine QS (cfg_ok 65) Tab.none (s':=?_) ?_ ?_|refine QC (b:=?_) ?_ ?_);rotate_left 1;focus ((with_reducible refine QW ?_);simp only [Zg,seval,if_true,if_false,reduceCtorEq,Nat.reduceEqDiff,hfm,mk1,mk2,mk3,mk4,mk5,Int.toNat_natCast];with_reducible rfl)))
 have hGl:G.length = u.length ^ f.length:=by rw [hG,List.length_map,hPl]
 refine RunK.loop (β:=Nat × List Nat) (γ:=Unit) (fun x => ⟨[(0,.c (.val (.sl 1 (u.map eI)))),(1,.c (.val (.sl 1 (f.map eL)))),(6,.c (.own 6 (sumOf (G.take x.1)).length)),(7,.c (.own 7 f.length))],[(6,.row 2 ((sumOf (G.take x.1)).map eCt) false),(7,.row 1 ((intN x.2).map eI) true)]⟩) (fun x => P[x.1]? = some x.2) (fun x => P.length - x.1)
  (fun _ => ⟨[],[]⟩) (fun _ => False) (0,List.replicate f.length 0) hP0 ?_ ?_ ?_
 ·(repeat' (first|with_reducible refine Qn|((with_reducible refine Qr ?_ ?_);focus (first|with_reducible rfl|(simp only [Zz,Nat.reduceBEq,List.take_zero,show sumOf [] = [] from rfl,List.map_nil,List.length_nil,intN,List.map_replicate,eI,Int.natCast_zero];done)|rfl))|((with_reducible refine Qj (o':=?_) ?_ ?_ ?_);rotate_left 1;focus rfl)|((with_reducible refine Qw ?_ ?_);(focus (first|with_reducible rfl|(simp only [Zv,List.take_zero,show sumOf [] = [] from rfl,List.map_nil,List.length_nil,intN,List.map_replicate,eI,Int.natCast_zero];done)));focus (first|exact id|exact (fun h => nomatch h)|exact (fun _ => rfl)))))
  all_goals first|exact ⟨rfl,rfl⟩|exact ⟨rfl,rfl,id⟩|exact ⟨rfl,rfl,fun h => nomatch h⟩
 ·rintro ⟨t,p⟩ hp
  have hp:P[t]? = some p:=hp
  obtain ⟨ht,hpe⟩:=List.getElem?_eq_some_iff.1 hp
  have hpm:p ∈ P:=by rw [← hpe];exact List.getElem_mem _
  obtain ⟨hpl,hpb⟩:=hPm p hpm
  have hnx:=hPn t p hp
  have hv8:=hPv p hpm
  have hmx:AFn Try.prog 146 [eL u,eLL f,eL (intN p)] (· = [.own 1 ((canon (mixL u f p)).map eI) true]) :=
   a_l04Mixed u f p (lev8_len hu) hfew (by omega) hpl (lev_bd hu) (fun v hv => lev_bd (F.lev v hv)) (fun n hn => by have:=hpb n hn;have:=lev8_len hu;omega) (lev8_lev hv8)
  have hgt:G.take (t + 1) = G.take t ++ [canon (mixL u f p)]:=by
   rw [List.take_succ_eq_append_getElem (by rw [hG,List.length_map];exact ht)]
   congr 2
   simp only [hG,List.getElem_map,hpe]
  have hsl:=sumOf_len (G.take t)
  rw [List.length_take] at hsl
  have hput:=a_l04Put (sumOf (G.take t)) (canon (mixL u f p)) 1 (sumOf_rise _) (by omega) (by rw [canon_len (lev8_lev hv8)];have:=lev8_len hv8;omega) (fun z hz => by
   have:=(sumOf_is (G.take t)).cnt z hz
   rw [List.length_take] at this
   unfold In64;omega)
  rw [← sumOf_snoc,← hgt] at hput
  have hil:((intN p).map eI).length = f.length:=by rw [List.length_map];unfold intN;rw [List.length_map,hpl]
  obtain ⟨A,hA⟩:∃ A,A = sumOf (G.take t):=⟨_,rfl⟩
  obtain ⟨B,hB⟩:∃ B,B = sumOf (G.take (t + 1)):=⟨_,rfl⟩
  rw [← hA,← hB] at hput
  rw [← hA]
  simp only [eLL,eL,eI] at hmx hput
  repeat' (first|with_reducible (first|refine Q1 ?_|refine Q2 ?_|refine Q3 ?_|refine Q4 ?_|refine Q5 ?_|refine Q6 ?_|refine Q7 ?_|refine Q8 ?_|refine Q9 ?_|refine Qa ?_|refine Qb ?_|refine Qc ?_|refine Qd ?_|refine Qe ?_|refine Qf ?_)|((with_reducible refine Qo ?_ ?_);focus rfl)|((with_reducible first|refine QT 9 (l:=?_) ?_ ?_|refine QF 9 (l:=?_) ?_ ?_);rotate_left 1;focus (simp only [Zu,Nat.reduceSub,Nat.reduceBEq];with_reducible rfl))|((with_reducible first|refine QS (cfg_ok 65) ((Tab.none.at' 146 hmx).at' 145 hput) (s':=?_) ?_ ?_|refine QC (b:=?_) ?_ ?_);rotate_left 1;focus ((with_reducible refine QW ?_);simp only [Zg,seval,if_true,if_false,reduceCtorEq,Nat.reduceEqDiff,hil,eI];with_reducible rfl)))
  have hgn:∀ (q:List Nat) (c:Nat),c < q.length→((intN q).map eI)[c]? = some [.int ((q.getD c 0:Nat):Int)]:=fun q c hc => by
   unfold intN
   rw [List.getElem?_map,List.getElem?_map,List.getElem?_eq_getElem hc,List.getD_eq_getElem?_getD,List.getElem?_eq_getElem hc];rfl
  have hsn:∀ (q:List Nat) (c d:Nat),((intN q).map eI).set c [.int ((d:Nat):Int)] = (intN (q.set c d)).map eI:=fun q c d => by
   unfold intN
   rw [List.map_set,List.map_set];rfl
  have hrl:∀ c,c ≤ p.length→(List.replicate c 0 ++ p.drop c).length = f.length:=fun c hc => by rw [List.length_append,List.length_replicate,List.length_drop];omega
  have hrg:∀ c,c < p.length→(List.replicate c 0 ++ p.drop c).getD c 0 = p.getD c 0:=fun c hc => by
   rw [List.getD_eq_getElem?_getD,List.getElem?_append_right (by simp),List.length_replicate,Nat.sub_self,List.getElem?_drop,Nat.add_zero,List.getD_eq_getElem?_getD]
  have hwm:w64 ((u.length:Int) - 1) = (u.length:Int) - 1:=w64_eq (by have:=lev8_len hu;omega)
  refine RunK.loop (β:=Nat) (γ:=Nat) (fun c => ⟨[(0,.c (.val (.sl 1 (u.map eI)))),(1,.c (.val (.sl 1 (f.map eL)))),(6,.c (.own 6 B.length)),(7,.c (.own 7 f.length)),(8,.c (.val (.int c)))],[(6,.row 2 (B.map eCt) false),(7,.row 1 ((intN (List.replicate c 0 ++ p.drop c)).map eI) true)]⟩) (fun c => c ≤ f.length∧∀ i,i < c→p.getD i 0 + 1 = u.length) (fun c => f.length - c)
   (fun c => ⟨[(0,.c (.val (.sl 1 (u.map eI)))),(1,.c (.val (.sl 1 (f.map eL)))),(6,.c (.own 6 B.length)),(7,.c (.own 7 f.length)),(8,.c (.val (.int c)))],[(6,.row 2 (B.map eCt) false),(7,.row 1 ((intN (List.replicate c 0 ++ p.drop c)).map eI) true)]⟩) (fun c => (c ≤ f.length∧∀ i,i < c→p.getD i 0 + 1 = u.length)∧(c < f.length→p.getD c 0 + 1 ≠ u.length)) 0 ⟨Nat.zero_le _,fun i hi => absurd hi (Nat.not_lt_zero _)⟩ ?_ ?_ ?_
  ·(repeat' (first|with_reducible refine Qn|((with_reducible refine Qr ?_ ?_);focus (first|with_reducible rfl|(simp only [Zz,Nat.reduceBEq,List.replicate_zero,List.nil_append,List.drop_zero,List.length_map,Int.natCast_zero];done)|rfl))|((with_reducible refine Qj (o':=?_) ?_ ?_ ?_);rotate_left 1;focus rfl)|((with_reducible refine Qw ?_ ?_);(focus (first|with_reducible rfl|(simp only [Zv,List.replicate_zero,List.nil_append,List.drop_zero,List.length_map,Int.natCast_zero];done)));focus (first|exact id|exact (fun h => nomatch h)|exact (fun _ => rfl)))))
   all_goals first|exact ⟨rfl,rfl⟩|exact ⟨rfl,rfl,id⟩|exact ⟨rfl,rfl,fun h => nomatch h⟩
  ·rintro c ⟨hc,hcm⟩
   have hwc:=w64_succ (n:=c) (by omega)
   have k2:((0:Int) ≤ (c:Int)) = True:=eq_true (by omega)
   by_cases hcf:c < f.length
   ·have k1:((c:Int) < (f.length:Int)) = True:=eq_true (by omega)
    have hq:=hgn (List.replicate c 0 ++ p.drop c) c (by rw [hrl c (by omega)];exact hcf)
    rw [hrg c (by omega)] at hq
    have hs:=hsn (List.replicate c 0 ++ p.drop c) c 0
    rw [rep_set (by omega)] at hs
    have hil2:((intN (List.replicate c 0 ++ p.drop c)).map eI).length = f.length:=by rw [List.length_map];unfold intN;rw [List.length_map,hrl c (by omega)]
    obtain ⟨d,hd⟩:∃ d,d = p.getD c 0:=⟨_,rfl⟩
    obtain ⟨R,hR⟩:∃ R,R = (intN (List.replicate c 0 ++ p.drop c)).map eI:=⟨_,rfl⟩
    rw [← hd] at hq
    rw [← hR] at hq hs hil2 ⊢
    by_cases he:d + 1 = u.length
    ·have be:(((d:Nat):Int) == (u.length:Int) - 1) = true:=by rw [beq_iff_eq];omega
     have hs:R.set c [D.int 0] = (intN (List.replicate (c + 1) 0 ++ p.drop (c + 1))).map eI:=hs
     repeat' (first|with_reducible (first|refine Q1 ?_|refine Q2 ?_|refine Q3 ?_|refine Q4 ?_|refine Q5 ?_|refine Q6 ?_|refine Q7 ?_|refine Q8 ?_|refine Q9 ?_|refine Qa ?_|refine Qb ?_|refine Qc ?_|refine Qd ?_|refine Qe ?_|refine Qf ?_)|((with_reducible refine Qo ?_ ?_);focus rfl)|((with_reducible first|refine QT 9 (l:=?_) ?_ ?_|refine QF 9 (l:=?_) ?_ ?_);rotate_left 1;focus (simp only [Zu,Nat.reduceSub,Nat.reduceBEq];with_reducible rfl))|((with_reducible first|refine QS (cfg_ok 65) Tab.none (s':=?_) ?_ ?_|refine QC (b:=?_) ?_ ?_);rotate_left 1;focus ((with_reducible refine QW ?_);simp only [Zg,seval,if_true,if_false,reduceCtorEq,Nat.reduceEqDiff,k1,k2,hum,hfm,hil2,hq,hwm,be,hwc,hs,Int.toNat_natCast];with_reducible rfl)))
     refine roundK.on (c + 1) ⟨⟨hcf,fun i hi => ?_⟩,by omega⟩ ?_
     ·by_cases e:i = c
      ·rw [e,← hd];exact he
      ·exact hcm i (by omega)
     (repeat' (first|with_reducible refine Qn|((with_reducible refine Qr ?_ ?_);focus (first|with_reducible rfl|(simp only [Zz,Nat.reduceBEq];done)|rfl))|((with_reducible refine Qj (o':=?_) ?_ ?_ ?_);rotate_left 1;focus rfl)|((with_reducible refine Qw ?_ ?_);(focus (first|with_reducible rfl|(simp only [Zv];done)));focus (first|exact id|exact (fun h => nomatch h)|exact (fun _ => rfl)))))
    ·have be:(((d:Nat):Int) == (u.length:Int) - 1) = false:=by simp only [beq_eq_false_iff_ne,ne_eq];omega
     repeat' (first|with_reducible (first|refine Q1 ?_|refine Q2 ?_|refine Q3 ?_|refine Q4 ?_|refine Q5 ?_|refine Q6 ?_|refine Q7 ?_|refine Q8 ?_|refine Q9 ?_|refine Qa ?_|refine Qb ?_|refine Qc ?_|refine Qd ?_|refine Qe ?_|refine Qf ?_)|((with_reducible refine Qo ?_ ?_);focus rfl)|((with_reducible first|refine QT 9 (l:=?_) ?_ ?_|refine QF 9 (l:=?_) ?_ ?_);rotate_left 1;focus (simp only [Zu,Nat.reduceSub,Nat.reduceBEq];with_reducible rfl))|((with_reducible first|refine QS (cfg_ok 65) Tab.none (s':=?_) ?_ ?_|refine QC (b:=?_) ?_ ?_);rotate_left 1;focus ((with_reducible refine QW ?_);simp only [Zg,seval,if_true,if_false,reduceCtorEq,Nat.reduceEqDiff,k1,k2,hum,hfm,hil2,hq,hwm,be,Int.toNat_natCast];with_reducible rfl)))
     refine roundK.out c ⟨⟨hc,hcm⟩,fun _ => by rw [← hd];exact he⟩ ?_
     rw [← hR]
     (repeat' (first|with_reducible refine Qn|((with_reducible refine Qr ?_ ?_);focus (first|with_reducible rfl|(simp only [Zz,Nat.reduceBEq];done)|rfl))|((with_reducible refine Qj (o':=?_) ?_ ?_ ?_);rotate_left 1;focus rfl)|((with_reducible refine Qw ?_ ?_);(focus (first|with_reducible rfl|(simp only [Zv];done)));focus (first|exact id|exact (fun h => nomatch h)|exact (fun _ => rfl)))))
   ·have k1:((c:Int) < (f.length:Int)) = False:=eq_false (by omega)
    repeat' (first|with_reducible (first|refine Q1 ?_|refine Q2 ?_|refine Q3 ?_|refine Q4 ?_|refine Q5 ?_|refine Q6 ?_|refine Q7 ?_|refine Q8 ?_|refine Q9 ?_|refine Qa ?_|refine Qb ?_|refine Qc ?_|refine Qd ?_|refine Qe ?_|refine Qf ?_)|((with_reducible refine Qo ?_ ?_);focus rfl)|((with_reducible first|refine QT 9 (l:=?_) ?_ ?_|refine QF 9 (l:=?_) ?_ ?_);rotate_left 1;focus (simp only [Zu,Nat.reduceSub,Nat.reduceBEq];with_reducible rfl))|((with_reducible first|refine QS (cfg_ok 65) Tab.none (s':=?_) ?_ ?_|refine QC (b:=?_) ?_ ?_);rotate_left 1;focus ((with_reducible refine QW ?_);simp only [Zg,seval,if_true,if_false,reduceCtorEq,Nat.reduceEqDiff,k1,hfm];with_reducible rfl)))
    refine roundK.out c ⟨⟨hc,hcm⟩,fun h => absurd h hcf⟩ ?_
    (repeat' (first|with_reducible refine Qn|((with_reducible refine Qr ?_ ?_);focus (first|with_reducible rfl|(simp only [Zz,Nat.reduceBEq];done)|rfl))|((with_reducible refine Qj (o':=?_) ?_ ?_ ?_);rotate_left 1;focus rfl)|((with_reducible refine Qw ?_ ?_);(focus (first|with_reducible rfl|(simp only [Zv];done)));focus (first|exact id|exact (fun h => nomatch h)|exact (fun _ => rfl)))))
  ·rintro c ⟨⟨hc,hcm⟩,hcn⟩
   have k2:((0:Int) ≤ (c:Int)) = True:=eq_true (by omega)
   by_cases hcf:c < f.length
   ·have k1:((c:Int) < (f.length:Int)) = True:=eq_true (by omega)
    have bc:((c:Int) == (f.length:Int)) = false:=by simp only [beq_eq_false_iff_ne,ne_eq];omega
    have hq:=hgn (List.replicate c 0 ++ p.drop c) c (by rw [hrl c (by omega)];exact hcf)
    rw [hrg c (by omega)] at hq
    have hn2:=nxtP_some (m:=u.length) (by omega) hcm (hcn hcf)
    rw [hnx] at hn2
    have hs:=hsn (List.replicate c 0 ++ p.drop c) c (p.getD c 0 + 1)
    have hil2:((intN (List.replicate c 0 ++ p.drop c)).map eI).length = f.length:=by rw [List.length_map];unfold intN;rw [List.length_map,hrl c (by omega)]
    have hdb:p.getD c 0 < u.length:=by
     rw [List.getD_eq_getElem?_getD,List.getElem?_eq_getElem (by omega)]
     exact hpb _ (List.getElem_mem _)
    obtain ⟨d,hd⟩:∃ d,d = p.getD c 0:=⟨_,rfl⟩
    obtain ⟨R,hR⟩:∃ R,R = (intN (List.replicate c 0 ++ p.drop c)).map eI:=⟨_,rfl⟩
    obtain ⟨p',hp'⟩:∃ p',p' = (List.replicate c 0 ++ p.drop c).set c (p.getD c 0 + 1):=⟨_,rfl⟩
    rw [← hp'] at hn2 hs
    rw [← hd] at hq hs hdb
    rw [← hR] at hq hs hil2 ⊢
    have hwd:w64 ((d:Int) + 1) = ((d + 1:Nat):Int):=by have:=lev8_len hu;rw [w64_eq (by omega)];omega
    have hlt:t + 1 < P.length:=by
     obtain ⟨h,_⟩:=List.getElem?_eq_some_iff.1 hn2
     exact h
    repeat' (first|with_reducible (first|refine Q1 ?_|refine Q2 ?_|refine Q3 ?_|refine Q4 ?_|refine Q5 ?_|refine Q6 ?_|refine Q7 ?_|refine Q8 ?_|refine Q9 ?_|refine Qa ?_|refine Qb ?_|refine Qc ?_|refine Qd ?_|refine Qe ?_|refine Qf ?_)|((with_reducible refine Qo ?_ ?_);focus rfl)|((with_reducible first|refine QT 9 (l:=?_) ?_ ?_|refine QF 9 (l:=?_) ?_ ?_);rotate_left 1;focus (simp only [Zu,Nat.reduceSub,Nat.reduceBEq];with_reducible rfl))|((with_reducible first|refine QS (cfg_ok 65) Tab.none (s':=?_) ?_ ?_|refine QC (b:=?_) ?_ ?_);rotate_left 1;focus ((with_reducible refine QW ?_);simp only [Zg,seval,if_true,if_false,reduceCtorEq,Nat.reduceEqDiff,k1,k2,bc,hfm,hil2,hq,hwd,hs,Int.toNat_natCast];with_reducible rfl)))
    refine roundK.on (t + 1,p') ⟨hn2,by show P.length - (t + 1) < P.length - t;omega⟩ ?_
    rw [hB]
    (repeat' (first|with_reducible refine Qn|((with_reducible refine Qr ?_ ?_);focus (first|with_reducible rfl|(simp only [Zz,Nat.reduceBEq,List.length_map];done)|rfl))|((with_reducible refine Qj (o':=?_) ?_ ?_ ?_);rotate_left 1;focus rfl)|((with_reducible refine Qw ?_ ?_);(focus (first|with_reducible rfl|(simp only [Zv,List.length_map];done)));focus (first|exact id|exact (fun h => nomatch h)|exact (fun _ => rfl)))))
   ·obtain rfl:c = f.length:=by omega
    have bc:((f.length:Int) == (f.length:Int)) = true:=by simp
    have hdone:=nxtP_done (m:=u.length) (p:=p) (fun i hi => hcm i (by omega))
    rw [hnx] at hdone
    have hlast:P.length ≤ t + 1:=List.getElem?_eq_none_iff.1 hdone
    have hBG:B = sumOf G:=by rw [hB,List.take_of_length_le (by rw [hGl,← hPl];exact hlast)]
    rw [hBG]
    repeat' (first|with_reducible (first|refine Q1 ?_|refine Q2 ?_|refine Q3 ?_|refine Q4 ?_|refine Q5 ?_|refine Q6 ?_|refine Q7 ?_|refine Q8 ?_|refine Q9 ?_|refine Qa ?_|refine Qb ?_|refine Qc ?_|refine Qd ?_|refine Qe ?_|refine Qf ?_)|((with_reducible refine Qo ?_ ?_);focus rfl)|((with_reducible first|refine QT 9 (l:=?_) ?_ ?_|refine QF 9 (l:=?_) ?_ ?_);rotate_left 1;focus (simp only [Zu,Nat.reduceSub,Nat.reduceBEq];with_reducible rfl))|((with_reducible first|refine QS (cfg_ok 65) Tab.none (s':=?_) ?_ ?_|refine QC (b:=?_) ?_ ?_);rotate_left 1;focus ((with_reducible refine QW ?_);simp only [Zg,seval,if_true,if_false,reduceCtorEq,Nat.reduceEqDiff,bc,hfm];with_reducible rfl)))
    refine roundK.ret ?_
    repeat' (first|with_reducible (first|refine Q1 ?_|refine Q2 ?_|refine Q3 ?_|refine Q4 ?_|refine Q5 ?_|refine Q6 ?_|refine Q7 ?_|refine Q8 ?_|refine Q9 ?_|refine Qa ?_|refine Qb ?_|refine Qc ?_|refine Qd ?_|refine Qe ?_|refine Qf ?_)|((with_reducible refine Qo ?_ ?_);focus rfl)|((with_reducible first|refine QT 9 (l:=?_) ?_ ?_|refine QF 9 (l:=?_) ?_ ?_);rotate_left 1;focus (simp only [Zu,Nat.reduceSub,Nat.reduceBEq];with_reducible rfl))|((with_reducible first|refine QS (cfg_ok 65) Tab.none (s':=?_) ?_ ?_|refine QC (b:=?_) ?_ ?_);rotate_left 1;focus ((with_reducible refine QW ?_);simp only [Zg,seval,if_true,if_false,reduceCtorEq,Nat.reduceEqDiff];with_reducible rfl)))
    (refine Ends.mk (by simp) (rs:=?_) (ks:=?_) hres hrts ?_ ?_ ?_;rotate_left 2;(focus (simp only [Ze,Zg,seval,if_true,if_false,reduceCtorEq,Nat.reduceEqDiff,Bool.not_true];with_reducible rfl));(focus simp);focus (first|with_reducible rfl|(simp only [Zv,Bool.not_true];done)))
 ·rintro _ h
  exact h.elim
theorem k_spec_GraftForest (v1 v2:Value) (u:List Int) (f:List (List Int)) (w:World) (h:Rd (RS RI) w [v1] u) (h2:Rd (RS (RS RI)) w [v2] f) (hsu:u.length ≤ 1048576) (hz:szII f):Calls Try.prog 72 #[v1,v2] w (RetGI (RS RCounted) w (gfOf u f).1 (gfOf u f).2) :=
 AFn.gi encCt (r:=.own 2 ((gfOf u f).1.map eCt) (!(lev8 u && forB f && decide (u.length + sumLen f ≤ 8)))) (by cases lev8 u <;> cases forB f <;> cases decide (u.length + sumLen f ≤ 8) <;> first|exact .inl rfl|exact .inr (.inl rfl)) (a_spec_GraftForest u f hsu (by unfold szII at hz;omega) (by unfold szII at hz;omega)) (args2 (arg_L h) (arg_LL h2))
end Go.Proofs.Ytofpjonggpjneaa
namespace Go.Proofs.Ytofpjonggpjneaa
open Go.RowKit
set_option maxHeartbeats 1000000 in
theorem walk_FnExactGraftForest (v0:Value) (v1:Value) (x0:List Int) (x1:List (List Int)) (w:World) (h0:Rd (RS RI) w [v0] x0) (h1:Rd (RS (RS RI)) w [v1] x1):Calls Try.prog 10 #[v0,v1] w (RetV w (.bool true)):=by
 obtain ⟨a0,c0,hv0,hl0,hm0⟩:=h0.val
 unfold maxLen at hm0
 by_cases z0:x0.length ≤ 1048576
 rotate_left
 ·subst hv0
  go_enter Try.func10,Try.ntmps10
  go_wp2_with fail
  go_ret
  exact ⟨rfl,Below.refl _ _⟩
 subst hv0
 go_enter Try.func10,Try.ntmps10
 go_wp2_with fail
 refine (sz_II _ x1 1048576 _ h1 (by omega) (by omega)).mono ?_
 rintro e w1 ⟨r1,rfl,hr1,B1⟩
 have s1:=B1.size
 have BB:=B1.mono (B':=w.heap.size) (by omega)
 rcases hr1 with ⟨n1,z1⟩|⟨n1,n1b,z1⟩
 ·go_wp2_with fail
  go_ret
  exact ⟨rfl,BB⟩
 go_wp2_with fail
 refine (to_I _ x0 _ (h0.below BB (Nat.le_refl _)) z0).mono ?_
 rintro e w2 ⟨u2,rfl,o2,B2⟩
 have s2:=B2.size
 replace BB:=BB.trans (B2.mono (B':=w.heap.size) (by omega))
 go_wp2_with fail
 refine (to_II _ x1 _ (h1.below BB (Nat.le_refl _)) z1).mono ?_
 rintro e w3 ⟨u3,rfl,o3,B3⟩
 have s3:=B3.size
 replace o2:=o2.below B3 (by omega)
 replace BB:=BB.trans (B3.mono (B':=w.heap.size) (by omega))
 go_wp2_with fail
 refine (k_spec_GraftForest _ _ x0 x1 _ o2.rd o3.rd z0 z1).mono ?_
 rintro e w4 ⟨u4,rfl,o4,B4⟩
 have s4:=B4.size
 replace o2:=o2.below B4 (by omega)
 replace o3:=o3.below B4 (by omega)
 replace BB:=BB.trans (B4.mono (B':=w.heap.size) (by omega))
 go_wp2_with fail
 refine (to_I _ x0 _ (h0.below BB (Nat.le_refl _)) z0).mono ?_
 rintro e w5 ⟨u5,rfl,o5,B5⟩
 have s5:=B5.size
 replace o2:=o2.below B5 (by omega)
 replace o3:=o3.below B5 (by omega)
 replace o4:=o4.below B5 (by omega)
 replace BB:=BB.trans (B5.mono (B':=w.heap.size) (by omega))
 go_wp2_with fail
 refine (to_II _ x1 _ (h1.below BB (Nat.le_refl _)) z1).mono ?_
 rintro e w6 ⟨u6,rfl,o6,B6⟩
 have s6:=B6.size
 replace o2:=o2.below B6 (by omega)
 replace o3:=o3.below B6 (by omega)
 replace o4:=o4.below B6 (by omega)
 replace o5:=o5.below B6 (by omega)
 replace BB:=BB.trans (B6.mono (B':=w.heap.size) (by omega))
 go_wp2_with fail
 refine (k_impl_GraftForest _ _ x0 x1 _ o5.rd o6.rd z0 z1).mono ?_
 rintro e w7 ⟨u7,rfl,o7,B7⟩
 have s7:=B7.size
 replace o2:=o2.below B7 (by omega)
 replace o3:=o3.below B7 (by omega)
 replace o4:=o4.below B7 (by omega)
 replace o5:=o5.below B7 (by omega)
 replace o6:=o6.below B7 (by omega)
 replace BB:=BB.trans (B7.mono (B':=w.heap.size) (by omega))
 go_wp2_with fail
 refine (eqv_C _ _ (gfOf x0 x1).1 _ o7.rd o4.rd).mono ?_
 rintro e w8 ⟨rfl,B8⟩
 have s8:=B8.size
 replace o2:=o2.below B8 (by omega)
 replace o3:=o3.below B8 (by omega)
 replace o4:=o4.below B8 (by omega)
 replace o5:=o5.below B8 (by omega)
 replace o6:=o6.below B8 (by omega)
 replace o7:=o7.below B8 (by omega)
 replace BB:=BB.trans (B8.mono (B':=w.heap.size) (by omega))
 go_wp2_with fail
 refine (to_I _ x0 _ (h0.below BB (Nat.le_refl _)) z0).mono ?_
 rintro e w9 ⟨u9,rfl,o9,B9⟩
 have s9:=B9.size
 replace o2:=o2.below B9 (by omega)
 replace o3:=o3.below B9 (by omega)
 replace o4:=o4.below B9 (by omega)
 replace o5:=o5.below B9 (by omega)
 replace o6:=o6.below B9 (by omega)
 replace o7:=o7.below B9 (by omega)
 replace BB:=BB.trans (B9.mono (B':=w.heap.size) (by omega))
 go_wp2_with fail
 refine (eqv_I _ _ x0 _ o5.rd o9.rd).mono ?_
 rintro e w10 ⟨rfl,B10⟩
 have s10:=B10.size
 replace o2:=o2.below B10 (by omega)
 replace o3:=o3.below B10 (by omega)
 replace o4:=o4.below B10 (by omega)
 replace o5:=o5.below B10 (by omega)
 replace o6:=o6.below B10 (by omega)
 replace o7:=o7.below B10 (by omega)
 replace o9:=o9.below B10 (by omega)
 replace BB:=BB.trans (B10.mono (B':=w.heap.size) (by omega))
 go_wp2_with fail
 refine (to_II _ x1 _ (h1.below BB (Nat.le_refl _)) z1).mono ?_
 rintro e w11 ⟨u11,rfl,o11,B11⟩
 have s11:=B11.size
 replace o2:=o2.below B11 (by omega)
 replace o3:=o3.below B11 (by omega)
 replace o4:=o4.below B11 (by omega)
 replace o5:=o5.below B11 (by omega)
 replace o6:=o6.below B11 (by omega)
 replace o7:=o7.below B11 (by omega)
 replace o9:=o9.below B11 (by omega)
 replace BB:=BB.trans (B11.mono (B':=w.heap.size) (by omega))
 go_wp2_with fail
 refine (eqv_II _ _ x1 _ o6.rd o11.rd).mono ?_
 rintro e w12 ⟨rfl,B12⟩
 have s12:=B12.size
 replace o2:=o2.below B12 (by omega)
 replace o3:=o3.below B12 (by omega)
 replace o4:=o4.below B12 (by omega)
 replace o5:=o5.below B12 (by omega)
 replace o6:=o6.below B12 (by omega)
 replace o7:=o7.below B12 (by omega)
 replace o9:=o9.below B12 (by omega)
 replace o11:=o11.below B12 (by omega)
 replace BB:=BB.trans (B12.mono (B':=w.heap.size) (by omega))
 go_wp2_with fail
 have p13:=cntb_I x0 z0
 refine (mark_I _ x0 _ _ 1 _ o5 (by omega) (by omega)).mono ?_
 rintro e w13 ⟨rfl,o5n,B13⟩
 have s13:=B13.size
 replace o2:=o2.apart B13 (by omega)
 replace o3:=o3.apart B13 (by omega)
 replace o4:=o4.apart B13 (by omega)
 replace o6:=o6.apart B13 (by omega)
 replace o7:=o7.apart B13 (by omega)
 replace o9:=o9.apart B13 (by omega)
 replace o11:=o11.apart B13 (by omega)
 replace o5:=o5n
 clear o5n
 replace BB:=BB.trans (B13.below (B:=w.heap.size) (by omega) (by omega))
 go_wp2_with fail
 have p14:=cntb_II x1 z1
 refine (mark_II _ x1 _ _ (1 + (cnt_I x0:Nat)) _ o6 (by omega) (by omega)).mono ?_
 rintro e w14 ⟨rfl,o6n,B14⟩
 have s14:=B14.size
 replace o2:=o2.apart B14 (by omega)
 replace o3:=o3.apart B14 (by omega)
 replace o4:=o4.apart B14 (by omega)
 replace o5:=o5.apart B14 (by omega)
 replace o7:=o7.apart B14 (by omega)
 replace o9:=o9.apart B14 (by omega)
 replace o11:=o11.apart B14 (by omega)
 replace o6:=o6n
 clear o6n
 replace BB:=BB.trans (B14.below (B:=w.heap.size) (by omega) (by omega))
 go_wp2_with fail
 refine (eqv_C _ _ (gfOf x0 x1).1 _ o7.rd o4.rd).mono ?_
 rintro e w15 ⟨rfl,B15⟩
 have s15:=B15.size
 replace o2:=o2.below B15 (by omega)
 replace o3:=o3.below B15 (by omega)
 replace o4:=o4.below B15 (by omega)
 replace o5:=o5.below B15 (by omega)
 replace o6:=o6.below B15 (by omega)
 replace o7:=o7.below B15 (by omega)
 replace o9:=o9.below B15 (by omega)
 replace o11:=o11.below B15 (by omega)
 replace BB:=BB.trans (B15.mono (B':=w.heap.size) (by omega))
 go_wp2_with fail
 have p16:=gfOf_cnt x0 x1
 refine (mark_C _ (gfOf x0 x1).1 _ _ 1 _ o7 (by omega) (by omega)).mono ?_
 rintro e w16 ⟨rfl,o7n,B16⟩
 have s16:=B16.size
 replace o2:=o2.apart B16 (by omega)
 replace o3:=o3.apart B16 (by omega)
 replace o4:=o4.apart B16 (by omega)
 replace o5:=o5.apart B16 (by omega)
 replace o6:=o6.apart B16 (by omega)
 replace o9:=o9.apart B16 (by omega)
 replace o11:=o11.apart B16 (by omega)
 replace o7:=o7n
 clear o7n
 replace BB:=BB.trans (B16.below (B:=w.heap.size) (by omega) (by omega))
 go_wp2_with fail
 refine (held_C _ (gfOf x0 x1).1 1 _ o7.rd (by omega) (by omega)).mono ?_
 rintro e w17 ⟨rfl,rfl⟩
 go_wp2_with fail
 refine (to_I _ x0 _ (h0.below BB (Nat.le_refl _)) z0).mono ?_
 rintro e w18 ⟨u18,rfl,o18,B18⟩
 have s18:=B18.size
 replace o2:=o2.below B18 (by omega)
 replace o3:=o3.below B18 (by omega)
 replace o4:=o4.below B18 (by omega)
 replace o5:=o5.below B18 (by omega)
 replace o6:=o6.below B18 (by omega)
 replace o7:=o7.below B18 (by omega)
 replace o9:=o9.below B18 (by omega)
 replace o11:=o11.below B18 (by omega)
 replace BB:=BB.trans (B18.mono (B':=w.heap.size) (by omega))
 go_wp2_with fail
 refine (to_II _ x1 _ (h1.below BB (Nat.le_refl _)) z1).mono ?_
 rintro e w19 ⟨u19,rfl,o19,B19⟩
 have s19:=B19.size
 replace o2:=o2.below B19 (by omega)
 replace o3:=o3.below B19 (by omega)
 replace o4:=o4.below B19 (by omega)
 replace o5:=o5.below B19 (by omega)
 replace o6:=o6.below B19 (by omega)
 replace o7:=o7.below B19 (by omega)
 replace o9:=o9.below B19 (by omega)
 replace o11:=o11.below B19 (by omega)
 replace o18:=o18.below B19 (by omega)
 replace BB:=BB.trans (B19.mono (B':=w.heap.size) (by omega))
 go_wp2_with fail
 refine (k_impl_GraftForest _ _ x0 x1 _ o18.rd o19.rd z0 z1).mono ?_
 rintro e w20 ⟨u20,rfl,o20,B20⟩
 have s20:=B20.size
 replace o2:=o2.below B20 (by omega)
 replace o3:=o3.below B20 (by omega)
 replace o4:=o4.below B20 (by omega)
 replace o5:=o5.below B20 (by omega)
 replace o6:=o6.below B20 (by omega)
 replace o7:=o7.below B20 (by omega)
 replace o9:=o9.below B20 (by omega)
 replace o11:=o11.below B20 (by omega)
 replace o18:=o18.below B20 (by omega)
 replace o19:=o19.below B20 (by omega)
 replace BB:=BB.trans (B20.mono (B':=w.heap.size) (by omega))
 go_wp2_with fail
 refine (eqv_C _ _ (gfOf x0 x1).1 _ o20.rd o4.rd).mono ?_
 rintro e w21 ⟨rfl,B21⟩
 have s21:=B21.size
 replace o2:=o2.below B21 (by omega)
 replace o3:=o3.below B21 (by omega)
 replace o4:=o4.below B21 (by omega)
 replace o5:=o5.below B21 (by omega)
 replace o6:=o6.below B21 (by omega)
 replace o7:=o7.below B21 (by omega)
 replace o9:=o9.below B21 (by omega)
 replace o11:=o11.below B21 (by omega)
 replace o18:=o18.below B21 (by omega)
 replace o19:=o19.below B21 (by omega)
 replace o20:=o20.below B21 (by omega)
 replace BB:=BB.trans (B21.mono (B':=w.heap.size) (by omega))
 go_wp2_with fail
 refine (held_C _ (gfOf x0 x1).1 1 _ o7.rd (by omega) (by omega)).mono ?_
 rintro e w22 ⟨rfl,rfl⟩
 go_wp2_with fail
 go_ret
 exact ⟨rfl,BB⟩
end Go.Proofs.Ytofpjonggpjneaa
