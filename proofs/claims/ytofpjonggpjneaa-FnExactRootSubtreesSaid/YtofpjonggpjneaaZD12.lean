/- Lemmas (12). -/
import Derived.Test.YtofpjonggpjneaaZD6
import Derived.Test.YtofpjonggpjneaaZD9
import Derived.Test.YtofpjonggpjneaaZD11
set_option linter.unusedSimpArgs false
set_option linter.unusedVariables false
namespace Go.Proofs.Ytofpjonggpjneaa
open Go.RowKit
theorem rsOf_cnt (t:List Int):cnt_C (rsOf t).1 ≤ 1048576:=by
 unfold rsOf
 split
 ·rename_i h
  have hb:=trunks_b (lev8_lev h) (lev8_len h)
  have h1:=(cntOf_is (trunks t)).len
  have h2:=cnt_C_le (m:=8) (cntOf (trunks t)) (fun z hz => by
   have hk:=(cntOf_is (trunks t)).key z hz
   obtain ⟨s,hs,hm⟩:=List.mem_flatMap.1 hk
   have h3:=(split_good _ (Nat.le_refl _) (lev8_lev h) s hs).2
   have h4:=sumLen_mem hm
   have h5:=lev8_len h
   omega)
  show cnt_C (cntOf (trunks t)) ≤ _
  omega
 ·simp [cnt_C]
set_option maxRecDepth 20000 in
set_option maxHeartbeats 8000000 in
theorem a_impl_RootSubtrees (t:List Int):AFn Try.prog 89 [eL t] (· = [.own 2 ((rsOf t).1.map eCt) true,.val (.int (rsOf t).2)]):=by
 have hl:=a_impl_IsLevels t
 unfold rsOf
 by_cases h:lev8 t = true
 rotate_left
 ·rw [if_neg h]
  rw [show lev8 t = false by simpa using h] at hl
  simp only [eL] at hl
  refine AFn.of_runs (cfg_ok 25) Try.func89 rfl rfl rfl (by simp only [List.length_cons,List.length_nil];decide) ?_
  have hres:Try.f89.results.toList = [.tmp 2,.tmp 3]:=rfl
  have hrts:Try.f89.resultTypes.toList = [40,2]:=rfl
  simp only [argRegs,argAV1,eL,eI,eLL,eB,Nat.zero_add,Nat.reduceAdd]
  intro M
  refine RunK.of ?_
  repeat' (first|with_reducible (first|refine Q1 ?_|refine Q2 ?_|refine Q3 ?_|refine Q4 ?_|refine Q5 ?_|refine Q6 ?_|refine Q7 ?_|refine Q8 ?_|refine Q9 ?_|refine Qa ?_|refine Qb ?_|refine Qc ?_|refine Qd ?_|refine Qe ?_|refine Qf ?_)|((with_reducible refine Qo ?_ ?_);focus rfl)|((with_reducible first|refine QT 15 (l:=?_) ?_ ?_|refine QF 15 (l:=?_) ?_ ?_);rotate_left 1;focus (simp only [Zu,Nat.reduceSub,Nat.reduceBEq];with_reducible rfl))|((with_reducible first|refine QS (cfg_ok 25) (Tab.none.at' 49 hl) (s':=?_) ?_ ?_|refine QC (b:=?_) ?_ ?_);rotate_left 1;focus ((with_reducible refine QW ?_);simp only [Zg,seval,if_true,if_false,reduceCtorEq,Nat.reduceEqDiff];with_reducible rfl)))
  (refine Ends.mk (by simp) (rs:=?_) (ks:=?_) hres hrts ?_ ?_ ?_;rotate_left 2;(focus (simp only [Ze,Zg,seval,if_true,if_false,reduceCtorEq,Nat.reduceEqDiff];with_reducible rfl));(focus simp);focus (first|with_reducible rfl|(simp only [Zv];done)))
 have h8:=lev8_len h
 have hlev:=lev8_lev h
 have hsp:=a_splitTree 8 (Nat.le_refl _) t hlev h8
 have hb:=trunks_b hlev h8
 have hct:=a_countedB (trunks t) (by omega) (by omega)
 have hgood:=split_good _ (Nat.le_refl _) hlev
 have hone:=split_trunk t hlev
 have htk:=fun i hi => trunk_take (t:=t) i hi
 have hsub:=fun i => trunk_sub (t:=t) i
 have htr:trunks t = (split t).flatMap (·.2):=rfl
 rw [h] at hl
 rw [if_pos h]
 have hsl:(split t).length ≤ 256:=by
  have h1:=split_len _ (Nat.le_refl _) hlev
  have h2:2 ^ t.length ≤ 2 ^ 8:=Nat.pow_le_pow_right (by decide) h8
  omega
 obtain ⟨V,hV⟩:∃ V,V = cntOf (trunks t):=⟨_,rfl⟩
 obtain ⟨T,hT⟩:∃ T,T = trunks t:=⟨_,rfl⟩
 obtain ⟨S,hS⟩:∃ S,S = split t:=⟨_,rfl⟩
 rw [← hV,← hT] at hct
 rw [← hV]
 rw [← hT] at hb hsub htr
 rw [← hS] at hsp hgood hone htk hsub htr hsl
 have hSm:(S.map eS0).length = S.length:=List.length_map _
 simp only [eL,eLL] at hl hsp hct
 refine AFn.of_runs (cfg_ok 25) Try.func89 rfl rfl rfl (by simp only [List.length_cons,List.length_nil];decide) ?_
 have hres:Try.f89.results.toList = [.tmp 2,.tmp 3]:=rfl
 have hrts:Try.f89.resultTypes.toList = [40,2]:=rfl
 simp only [argRegs,argAV1,eL,eI,eLL,eB,Nat.zero_add,Nat.reduceAdd]
 intro M
 refine RunK.of ?_
 repeat' (first|with_reducible (first|refine Q1 ?_|refine Q2 ?_|refine Q3 ?_|refine Q4 ?_|refine Q5 ?_|refine Q6 ?_|refine Q7 ?_|refine Q8 ?_|refine Q9 ?_|refine Qa ?_|refine Qb ?_|refine Qc ?_|refine Qd ?_|refine Qe ?_|refine Qf ?_)|((with_reducible refine Qo ?_ ?_);focus rfl)|((with_reducible first|refine QT 15 (l:=?_) ?_ ?_|refine QF 15 (l:=?_) ?_ ?_);rotate_left 1;focus (simp only [Zu,Nat.reduceSub,Nat.reduceBEq];with_reducible rfl))|((with_reducible first|refine QS (cfg_ok 25) ((Tab.none.at' 49 hl).at' 151 hsp) (s':=?_) ?_ ?_|refine QC (b:=?_) ?_ ?_);rotate_left 1;focus ((with_reducible refine QW ?_);simp only [Zg,seval,if_true,if_false,reduceCtorEq,Nat.reduceEqDiff,hSm];with_reducible rfl)))
 refine RunK.frz 12 ?_
 refine RunK.fits (s0:=⟨[(4,.c (.own 4 0)),(12,.c (.val (.sl 3 (S.map eS0)))),(13,.c (.val (.int S.length))),(14,.c (.val (.int 0)))],[(4,.row 1 [] true)]⟩) ?_ ?_
 ·(repeat' (first|with_reducible refine Qn|((with_reducible refine Qr ?_ ?_);focus (first|with_reducible rfl|(simp only [Zz,Nat.reduceBEq,St.frz,frzR,frzH,look,AV.frz,AC.frz,Obj.frz,drop];done)|rfl))|((with_reducible refine Qj (o':=?_) ?_ ?_ ?_);rotate_left 1;focus rfl)|((with_reducible refine Qw ?_ ?_);(focus (first|with_reducible rfl|(simp only [Zv,St.frz,frzR,frzH,look,AV.frz,AC.frz,Obj.frz,drop];done)));focus (first|exact id|exact (fun h => nomatch h)|exact (fun _ => rfl)))))
  all_goals first|exact ⟨rfl,rfl⟩|exact ⟨rfl,rfl,id⟩|exact ⟨rfl,rfl,fun h => nomatch h⟩
 refine RunK.loop (β:=Nat) (γ:=Unit) (fun i => ⟨[(4,.c (.own 4 ((S.take i).flatMap (·.2)).length)),(12,.c (.val (.sl 3 (S.map eS0)))),(13,.c (.val (.int S.length))),(14,.c (.val (.int i)))],[(4,.row 1 (((S.take i).flatMap (·.2)).map eL) false)]⟩) (fun i => i ≤ S.length) (fun i => S.length - i)
  (fun _ => ⟨[(4,.c (.own 4 T.length))],[(4,.row 1 (T.map eL) false)]⟩) (fun _ => True) 0 (Nat.zero_le _) ?_ ?_ ?_
 ·(repeat' (first|with_reducible refine Qn|((with_reducible refine Qr ?_ ?_);focus (first|with_reducible rfl|(simp only [Zz,Nat.reduceBEq,List.take_zero,List.flatMap_nil,List.map_nil,List.length_nil,Int.natCast_zero];done)|rfl))|((with_reducible refine Qj (o':=?_) ?_ ?_ ?_);rotate_left 1;focus rfl)|((with_reducible refine Qw ?_ ?_);(focus (first|with_reducible rfl|(simp only [Zv,List.take_zero,List.flatMap_nil,List.map_nil,List.length_nil,Int.natCast_zero];done)));focus (first|exact id|exact (fun h => nomatch h)|exact (fun _ => rfl)))))
  all_goals first|exact ⟨rfl,rfl⟩|exact ⟨rfl,rfl,id⟩|exact ⟨rfl,rfl,fun h => nomatch h⟩
 ·intro i hi
  have hi:i ≤ S.length:=hi
  have hw:=w64_succ (n:=i) (by omega)
  by_cases hiS:i < S.length
  ·have i1:((i:Int) < (S.length:Int)) = True:=eq_true (by omega)
   have i2:((0:Int) ≤ (i:Int)) = True:=eq_true (by omega)
   have ht1:=htk i hiS
   have hb1:=hsub i
   have ho:=hone S[i] (List.getElem_mem _)
   obtain ⟨s,hs⟩:∃ s,s = S[i]:=⟨_,rfl⟩
   have hg:(S.map eS0)[i]? = some [.sl 1 (s.1.map eL),.sl 1 (s.2.map eL),.int 0]:=by rw [map_get hiS,hs];rfl
   rw [← hs] at ht1 ho
   obtain ⟨X,hX⟩:∃ X,X = (S.take i).flatMap (·.2):=⟨_,rfl⟩
   rw [← hX] at ht1 hb1 ⊢
   have hXm:(X.map eL).length = X.length:=List.length_map _
   have hsm:(s.2.map eL).length = s.2.length:=List.length_map _
   have q1:=big_le (n:=X.length + s.2.length) (by omega)
   have q2:=big_mul (n:=X.length + s.2.length) (c:=24) (by omega) (by omega)
   repeat' (first|with_reducible (first|refine Q1 ?_|refine Q2 ?_|refine Q3 ?_|refine Q4 ?_|refine Q5 ?_|refine Q6 ?_|refine Q7 ?_|refine Q8 ?_|refine Q9 ?_|refine Qa ?_|refine Qb ?_|refine Qc ?_|refine Qd ?_|refine Qe ?_|refine Qf ?_)|((with_reducible refine Qo ?_ ?_);focus rfl)|((with_reducible first|refine QT 15 (l:=?_) ?_ ?_|refine QF 15 (l:=?_) ?_ ?_);rotate_left 1;focus (simp only [Zu,Nat.reduceSub,Nat.reduceBEq];with_reducible rfl))|((with_reducible first|refine QS (cfg_ok 25) Tab.none (s':=?_) ?_ ?_|refine QC (b:=?_) ?_ ?_);rotate_left 1;focus ((with_reducible refine QW ?_);simp only [Zg,seval,if_true,if_false,reduceCtorEq,Nat.reduceEqDiff,i1,i2,hg,hXm,hsm,hSm,q1,q2,hw,Int.toNat_natCast];with_reducible rfl)))
   refine roundK.on (i + 1) ⟨hiS,by omega⟩ ?_
   rw [ht1,List.map_append,List.length_append]
   (repeat' (first|with_reducible refine Qn|((with_reducible refine Qr ?_ ?_);focus (first|with_reducible rfl|(simp only [Zz,Nat.reduceBEq];done)|rfl))|((with_reducible refine Qj (o':=?_) ?_ ?_ ?_);rotate_left 1;focus rfl)|((with_reducible refine Qw ?_ ?_);(focus (first|with_reducible rfl|(simp only [Zv];done)));focus (first|exact id|exact (fun h => nomatch h)|exact (fun _ => rfl)))))
  ·have i1:((i:Int) < (S.length:Int)) = False:=eq_false (by omega)
   obtain rfl:i = S.length:=by omega
   rw [List.take_length,← htr]
   repeat' (first|with_reducible (first|refine Q1 ?_|refine Q2 ?_|refine Q3 ?_|refine Q4 ?_|refine Q5 ?_|refine Q6 ?_|refine Q7 ?_|refine Q8 ?_|refine Q9 ?_|refine Qa ?_|refine Qb ?_|refine Qc ?_|refine Qd ?_|refine Qe ?_|refine Qf ?_)|((with_reducible refine Qo ?_ ?_);focus rfl)|((with_reducible first|refine QT 15 (l:=?_) ?_ ?_|refine QF 15 (l:=?_) ?_ ?_);rotate_left 1;focus (simp only [Zu,Nat.reduceSub,Nat.reduceBEq];with_reducible rfl))|((with_reducible first|refine QS (cfg_ok 25) Tab.none (s':=?_) ?_ ?_|refine QC (b:=?_) ?_ ?_);rotate_left 1;focus ((with_reducible refine QW ?_);simp only [Zg,seval,if_true,if_false,reduceCtorEq,Nat.reduceEqDiff,i1];with_reducible rfl)))
   refine roundK.out () trivial ?_
   (repeat' (first|with_reducible refine Qn|((with_reducible refine Qr ?_ ?_);focus (first|with_reducible rfl|(simp only [Zz,Nat.reduceBEq];done)|rfl))|((with_reducible refine Qj (o':=?_) ?_ ?_ ?_);rotate_left 1;focus rfl)|((with_reducible refine Qw ?_ ?_);(focus (first|with_reducible rfl|(simp only [Zv];done)));focus (first|exact id|exact (fun h => nomatch h)|exact (fun _ => rfl)))))
 ·rintro _ _
  repeat' (first|with_reducible (first|refine Q1 ?_|refine Q2 ?_|refine Q3 ?_|refine Q4 ?_|refine Q5 ?_|refine Q6 ?_|refine Q7 ?_|refine Q8 ?_|refine Q9 ?_|refine Qa ?_|refine Qb ?_|refine Qc ?_|refine Qd ?_|refine Qe ?_|refine Qf ?_)|((with_reducible refine Qo ?_ ?_);focus rfl)|((with_reducible first|refine QT 15 (l:=?_) ?_ ?_|refine QF 15 (l:=?_) ?_ ?_);rotate_left 1;focus (simp only [Zu,Nat.reduceSub,Nat.reduceBEq];with_reducible rfl))|((with_reducible first|refine QS (cfg_ok 25) (Tab.none.at' 114 hct) (s':=?_) ?_ ?_|refine QC (b:=?_) ?_ ?_);rotate_left 1;focus ((with_reducible refine QW ?_);simp only [Zg,seval,if_true,if_false,reduceCtorEq,Nat.reduceEqDiff,List.length_map];with_reducible rfl)))
  (refine Ends.mk (by simp) (rs:=?_) (ks:=?_) hres hrts ?_ ?_ ?_;rotate_left 2;(focus (simp only [Ze,Zg,seval,if_true,if_false,reduceCtorEq,Nat.reduceEqDiff];with_reducible rfl));(focus simp);focus (first|with_reducible rfl|(simp only [Zv];done)))
theorem k_impl_RootSubtrees (v:Value) (t:List Int) (w:World) (h:Rd (RS RI) w [v] t):Calls Try.prog 89 #[v] w (RetOC (RS RCounted) w (rsOf t).1 (rsOf t).2) :=
 AFn.oi encCt (a_impl_RootSubtrees t) (args1 (arg_L h))
set_option maxRecDepth 20000 in
set_option maxHeartbeats 8000000 in
theorem a_spec_RootSubtrees (t:List Int) (hsz:t.length ≤ 1048576):AFn Try.prog 88 [eL t] (· = [.own 2 ((rsOf t).1.map eCt) (!lev8 t),.val (.int (rsOf t).2)]):=by
 have hl:=a_spec_l03Is t hsz
 unfold rsOf
 by_cases h:lev8 t = true
 rotate_left
 ·rw [if_neg h]
  have hf:lev8 t = false:=by simpa using h
  rw [hf] at hl ⊢
  simp only [eL] at hl
  refine AFn.of_runs (cfg_ok 40) Try.func88 rfl rfl rfl (by simp only [List.length_cons,List.length_nil];decide) ?_
  have hres:Try.f88.results.toList = [.tmp 2,.tmp 3]:=rfl
  have hrts:Try.f88.resultTypes.toList = [40,2]:=rfl
  simp only [argRegs,argAV1,eL,eI,eLL,eB,Nat.zero_add,Nat.reduceAdd]
  intro M
  refine RunK.of ?_
  repeat' (first|with_reducible (first|refine Q1 ?_|refine Q2 ?_|refine Q3 ?_|refine Q4 ?_|refine Q5 ?_|refine Q6 ?_|refine Q7 ?_|refine Q8 ?_|refine Q9 ?_|refine Qa ?_|refine Qb ?_|refine Qc ?_|refine Qd ?_|refine Qe ?_|refine Qf ?_)|((with_reducible refine Qo ?_ ?_);focus rfl)|((with_reducible first|refine QT 7 (l:=?_) ?_ ?_|refine QF 7 (l:=?_) ?_ ?_);rotate_left 1;focus (simp only [Zu,Nat.reduceSub,Nat.reduceBEq];with_reducible rfl))|((with_reducible first|refine QS (cfg_ok 40) (Tab.none.at' 110 hl) (s':=?_) ?_ ?_|refine QC (b:=?_) ?_ ?_);rotate_left 1;focus ((with_reducible refine QW ?_);simp only [Zg,seval,if_true,if_false,reduceCtorEq,Nat.reduceEqDiff];with_reducible rfl))|((with_reducible refine QD (cfg_ok 40) (Tab.none.at' 110 hl) mixed_ok (tr:=?_) (s':=?_) ?_ ?_ ?_);rotate_left 2;(focus ((with_reducible refine QW ?_);simp only [Zg,Zd,seval,if_true,if_false,reduceCtorEq,Nat.reduceEqDiff];with_reducible rfl));focus ((with_reducible refine QK ?_);simp only [Zk];kernel_rfl)))
  (refine Ends.mk (by simp) (rs:=?_) (ks:=?_) hres hrts ?_ ?_ ?_;rotate_left 2;(focus (simp only [Ze,Zg,seval,if_true,if_false,reduceCtorEq,Nat.reduceEqDiff,Bool.not_false];with_reducible rfl));(focus simp);focus (first|with_reducible rfl|(simp only [Zv,Bool.not_false];done)))
 have h8:=lev8_len h
 have hlev:=lev8_lev h
 have hcl:=canon_len hlev
 have hca:=AFn.valT (a_l03CanonB t hlev (by omega))
 have hcu:=a_l05Cuts (canon t) (canon_lev hlev) (canon_idem hlev) (by omega)
 have hlaw:=rs_law hlev
 obtain ⟨hcl2,hcg⟩:=cuts_good (canon_lev hlev) (by omega)
 rw [h] at hl ⊢
 rw [if_pos rfl,← hlaw]
 obtain ⟨P,hP⟩:∃ P,P = cutsL (canon t):=⟨_,rfl⟩
 rw [← hP] at hcu hcl2 hcg ⊢
 have hPm:(P.map eCu).length = P.length:=List.length_map _
 have htot:(expR P).length ≤ 65536:=by
  have key:∀ (P:List Cu),(∀ c ∈ P,c.2 ≤ 256)→(expR P).length ≤ 256 * P.length:=by
   intro P
   induction P with
   | nil => intro _;exact Nat.le_refl _
   | cons c P ih =>
    intro hP
    have h1:=hP c (by simp)
    have h2:=ih (fun x hx => hP x (by simp [hx]))
    show ((if 0 < c.1.2.length then List.replicate c.2.toNat c.1.2 else []) ++ expR P).length ≤ _
    rw [List.length_append,List.length_cons,Nat.mul_succ]
    have h3:(if 0 < c.1.2.length then List.replicate c.2.toNat c.1.2 else []).length ≤ 256:=by
     split
     ·rw [List.length_replicate];omega
     ·simp
    omega
  have:=key P (fun c hc => (hcg c hc).1.2)
  omega
 have hR:∀ i,i ≤ P.length→IsN cmpT (rsF (P.take i)) (expR (P.take i))∧(expR (P.take i)).length ≤ 65536∧(rsF (P.take i)).length ≤ 256:=fun i hi => by
  have h1:=rsF_is _ (P.take i) rfl (fun c hc => (hcg c (List.mem_of_mem_take hc)).1.1)
  refine ⟨h1,?_,?_⟩
  ·have e:expR P = expR (P.take i) ++ expR (P.drop i):=by
    unfold expR
    rw [← List.flatMap_append,List.take_append_drop]
   rw [e,List.length_append] at htot
   omega
  ·have key:∀ (n:Nat) (Q:List Cu),Q.length = n→(rsF Q).length ≤ Q.length:=by
    intro n
    induction n with
    | zero => intro Q hQ;rw [List.length_eq_zero_iff.1 hQ];exact Nat.le_refl _
    | succ n ih =>
     intro Q hQ
     have hne:Q ≠ []:=by intro e;rw [e] at hQ;simp at hQ
     have h2:=ih Q.dropLast (by simp [hQ])
     rw [← List.dropLast_concat_getLast hne,rsF_snoc,List.length_append]
     have h3:=putC_len (rsF Q.dropLast) (Q.getLast hne).1.2 (Q.getLast hne).2
     rw [List.length_singleton];split <;> omega
   have:=key _ (P.take i) rfl
   rw [List.length_take] at this
   omega
 simp only [eL] at hl hca hcu
 refine AFn.of_runs (cfg_ok 40) Try.func88 rfl rfl rfl (by simp only [List.length_cons,List.length_nil];decide) ?_
 have hres:Try.f88.results.toList = [.tmp 2,.tmp 3]:=rfl
 have hrts:Try.f88.resultTypes.toList = [40,2]:=rfl
 simp only [argRegs,argAV1,eL,eI,eLL,eB,Nat.zero_add,Nat.reduceAdd]
 intro M
 refine RunK.of ?_
 repeat' (first|with_reducible (first|refine Q1 ?_|refine Q2 ?_|refine Q3 ?_|refine Q4 ?_|refine Q5 ?_|refine Q6 ?_|refine Q7 ?_|refine Q8 ?_|refine Q9 ?_|refine Qa ?_|refine Qb ?_|refine Qc ?_|refine Qd ?_|refine Qe ?_|refine Qf ?_)|((with_reducible refine Qo ?_ ?_);focus rfl)|((with_reducible first|refine QT 7 (l:=?_) ?_ ?_|refine QF 7 (l:=?_) ?_ ?_);rotate_left 1;focus (simp only [Zu,Nat.reduceSub,Nat.reduceBEq];with_reducible rfl))|((with_reducible first|refine QS (cfg_ok 40) (((Tab.none.at' 110 hl).at' 112 hca).at' 150 hcu) (s':=?_) ?_ ?_|refine QC (b:=?_) ?_ ?_);rotate_left 1;focus ((with_reducible refine QW ?_);simp only [Zg,seval,if_true,if_false,reduceCtorEq,Nat.reduceEqDiff,hPm];with_reducible rfl))|((with_reducible refine QD (cfg_ok 40) (((Tab.none.at' 110 hl).at' 112 hca).at' 150 hcu) mixed_ok (tr:=?_) (s':=?_) ?_ ?_ ?_);rotate_left 2;(focus ((with_reducible refine QW ?_);simp only [Zg,Zd,seval,if_true,if_false,reduceCtorEq,Nat.reduceEqDiff,hPm];with_reducible rfl));focus ((with_reducible refine QK ?_);simp only [Zk];kernel_rfl)))
 refine RunK.frz 4 ?_
 refine RunK.fits (s0:=⟨[(4,.c (.val (.sl 3 (P.map eCu)))),(5,.c (.own 5 0)),(6,.c (.val (.int 0)))],[(5,.row 2 [] false)]⟩) ?_ ?_
 ·(repeat' (first|with_reducible refine Qn|((with_reducible refine Qr ?_ ?_);focus (first|with_reducible rfl|(simp only [Zz,Nat.reduceBEq,St.frz,frzR,frzH,look,AV.frz,AC.frz,Obj.frz,drop];done)|rfl))|((with_reducible refine Qj (o':=?_) ?_ ?_ ?_);rotate_left 1;focus rfl)|((with_reducible refine Qw ?_ ?_);(focus (first|with_reducible rfl|(simp only [Zv,St.frz,frzR,frzH,look,AV.frz,AC.frz,Obj.frz,drop];done)));focus (first|exact id|exact (fun h => nomatch h)|exact (fun _ => rfl)))))
  all_goals first|exact ⟨rfl,rfl⟩|exact ⟨rfl,rfl,id⟩|exact ⟨rfl,rfl,fun h => nomatch h⟩
 refine RunK.loop (β:=Nat) (γ:=Unit) (fun i => ⟨[(4,.c (.val (.sl 3 (P.map eCu)))),(5,.c (.own 5 (rsF (P.take i)).length)),(6,.c (.val (.int i)))],[(5,.row 2 ((rsF (P.take i)).map eCt) false)]⟩) (fun i => i ≤ P.length) (fun i => P.length - i)
  (fun _ => ⟨[(5,.c (.own 5 (rsF P).length))],[(5,.row 2 ((rsF P).map eCt) false)]⟩) (fun _ => True) 0 (Nat.zero_le _) ?_ ?_ ?_
 ·(repeat' (first|with_reducible refine Qn|((with_reducible refine Qr ?_ ?_);focus (first|with_reducible rfl|(simp only [Zz,Nat.reduceBEq,List.take_zero,rsF,List.foldl_nil,List.map_nil,List.length_nil,Int.natCast_zero];done)|rfl))|((with_reducible refine Qj (o':=?_) ?_ ?_ ?_);rotate_left 1;focus rfl)|((with_reducible refine Qw ?_ ?_);(focus (first|with_reducible rfl|(simp only [Zv,List.take_zero,rsF,List.foldl_nil,List.map_nil,List.length_nil,Int.natCast_zero];done)));focus (first|exact id|exact (fun h => nomatch h)|exact (fun _ => rfl)))))
  all_goals first|exact ⟨rfl,rfl⟩|exact ⟨rfl,rfl,id⟩|exact ⟨rfl,rfl,fun h => nomatch h⟩
 ·intro i hi
  have hi:i ≤ P.length:=hi
  have hw:=w64_succ (n:=i) (by omega)
  by_cases hiP:i < P.length
  ·have i1:((i:Int) < (P.length:Int)) = True:=eq_true (by omega)
   have i2:((0:Int) ≤ (i:Int)) = True:=eq_true (by omega)
   obtain ⟨r1,r2,r3⟩:=hR i hi
   have hcb:=hcg P[i] (List.getElem_mem _)
   have htk:rsF (P.take (i + 1)) = if 0 < P[i].1.2.length then putC (rsF (P.take i)) P[i].1.2 P[i].2 else rsF (P.take i):=by
    rw [List.take_succ_eq_append_getElem hiP,rsF_snoc]
   obtain ⟨c,hc⟩:∃ c,c = P[i]:=⟨_,rfl⟩
   have hg:(P.map eCu)[i]? = some [.sl 1 (c.1.1.map eL),.sl 1 (c.1.2.map eI),.int c.2]:=by rw [map_get hiP,hc];rfl
   rw [← hc] at hcb htk
   have hcnt:=r1.cnt
   have hput:=a_l04Put (rsF (P.take i)) c.1.2 c.2 r1.1.1 (by omega) (by omega) (fun z hz => by
    have:=hcnt z hz
    have:=hcb.1
    unfold In64;omega)
   have hcm:(c.1.2.map eI).length = c.1.2.length:=List.length_map _
   simp only [eL,eI] at hput
   by_cases e:0 < c.1.2.length
   ·rw [if_pos e] at htk
    have i3:((c.1.2.length:Int) > 0) = True:=eq_true (by omega)
    repeat' (first|with_reducible (first|refine Q1 ?_|refine Q2 ?_|refine Q3 ?_|refine Q4 ?_|refine Q5 ?_|refine Q6 ?_|refine Q7 ?_|refine Q8 ?_|refine Q9 ?_|refine Qa ?_|refine Qb ?_|refine Qc ?_|refine Qd ?_|refine Qe ?_|refine Qf ?_)|((with_reducible refine Qo ?_ ?_);focus rfl)|((with_reducible first|refine QT 7 (l:=?_) ?_ ?_|refine QF 7 (l:=?_) ?_ ?_);rotate_left 1;focus (simp only [Zu,Nat.reduceSub,Nat.reduceBEq];with_reducible rfl))|((with_reducible first|refine QS (cfg_ok 40) (Tab.none.at' 145 hput) (s':=?_) ?_ ?_|refine QC (b:=?_) ?_ ?_);rotate_left 1;focus ((with_reducible refine QW ?_);simp only [Zg,seval,if_true,if_false,reduceCtorEq,Nat.reduceEqDiff,i1,i2,i3,hg,hPm,hcm,hw,Int.toNat_natCast];with_reducible rfl))|((with_reducible refine QD (cfg_ok 40) (Tab.none.at' 145 hput) mixed_ok (tr:=?_) (s':=?_) ?_ ?_ ?_);rotate_left 2;(focus ((with_reducible refine QW ?_);simp only [Zg,Zd,seval,if_true,if_false,reduceCtorEq,Nat.reduceEqDiff,i1,i2,i3,hg,hPm,hcm,hw,Int.toNat_natCast];with_reducible rfl));focus ((with_reducible refine QK ?_);simp only [Zk];kernel_rfl)))
    refine roundK.on (i + 1) ⟨hiP,by omega⟩ ?_
    rw [htk]
    (repeat' (first|with_reducible refine Qn|((with_reducible refine Qr ?_ ?_);focus (first|with_reducible rfl|(simp only [Zz,Nat.reduceBEq,List.length_map];done)|rfl))|((with_reducible refine Qj (o':=?_) ?_ ?_ ?_);rotate_left 1;focus rfl)|((with_reducible refine Qw ?_ ?_);(focus (first|with_reducible rfl|(simp only [Zv,List.length_map];done)));focus (first|exact id|exact (fun h => nomatch h)|exact (fun _ => rfl)))))
   ·rw [if_neg e] at htk
    have i3:((c.1.2.length:Int) > 0) = False:=eq_false (by omega)
    repeat' (first|with_reducible (first|refine Q1 ?_|refine Q2 ?_|refine Q3 ?_|refine Q4 ?_|refine Q5 ?_|refine Q6 ?_|refine Q7 ?_|refine Q8 ?_|refine Q9 ?_|refine Qa ?_|refine Qb ?_|refine Qc ?_|refine Qd ?_|refine Qe ?_|refine Qf ?_)|((with_reducible refine Qo ?_ ?_);focus rfl)|((with_reducible first|refine QT 7 (l:=?_) ?_ ?_|refine QF 7 (l:=?_) ?_ ?_);rotate_left 1;focus (simp only [Zu,Nat.reduceSub,Nat.reduceBEq];with_reducible rfl))|((with_reducible first|refine QS (cfg_ok 40) Tab.none (s':=?_) ?_ ?_|refine QC (b:=?_) ?_ ?_);rotate_left 1;focus ((with_reducible refine QW ?_);simp only [Zg,seval,if_true,if_false,reduceCtorEq,Nat.reduceEqDiff,i1,i2,i3,hg,hPm,hcm,hw,Int.toNat_natCast];with_reducible rfl))|((with_reducible refine QD (cfg_ok 40) Tab.none mixed_ok (tr:=?_) (s':=?_) ?_ ?_ ?_);rotate_left 2;(focus ((with_reducible refine QW ?_);simp only [Zg,Zd,seval,if_true,if_false,reduceCtorEq,Nat.reduceEqDiff,i1,i2,i3,hg,hPm,hcm,hw,Int.toNat_natCast];with_reducible rfl));focus ((with_reducible refine QK ?_);simp only [Zk];kernel_rfl)))
    refine roundK.on (i + 1) ⟨hiP,by omega⟩ ?_
    rw [htk]
    (repeat' (first|with_reducible refine Qn|((with_reducible refine Qr ?_ ?_);focus (first|with_reducible rfl|(simp only [Zz,Nat.reduceBEq,List.length_map];done)|rfl))|((with_reducible refine Qj (o':=?_) ?_ ?_ ?_);rotate_left 1;focus rfl)|((with_reducible refine Qw ?_ ?_);(focus (first|with_reducible rfl|(simp only [Zv,List.length_map];done)));focus (first|exact id|exact (fun h => nomatch h)|exact (fun _ => rfl)))))
  ·have i1:((i:Int) < (P.length:Int)) = False:=eq_false (by omega)
   obtain rfl:i = P.length:=by omega
   rw [List.take_length]
   repeat' (first|with_reducible (first|refine Q1 ?_|refine Q2 ?_|refine Q3 ?_|refine Q4 ?_|refine Q5 ?_|refine Q6 ?_|refine Q7 ?_|refine Q8 ?_|refine Q9 ?_|refine Qa ?_|refine Qb ?_|refine Qc ?_|refine Qd ?_|refine Qe ?_|refine Qf ?_)|((with_reducible refine Qo ?_ ?_);focus rfl)|((with_reducible first|refine QT 7 (l:=?_) ?_ ?_|refine QF 7 (l:=?_) ?_ ?_);rotate_left 1;focus (simp only [Zu,Nat.reduceSub,Nat.reduceBEq];with_reducible rfl))|((with_reducible first|refine QS (cfg_ok 40) Tab.none (s':=?_) ?_ ?_|refine QC (b:=?_) ?_ ?_);rotate_left 1;focus ((with_reducible refine QW ?_);simp only [Zg,seval,if_true,if_false,reduceCtorEq,Nat.reduceEqDiff,i1,hPm];with_reducible rfl))|((with_reducible refine QD (cfg_ok 40) Tab.none mixed_ok (tr:=?_) (s':=?_) ?_ ?_ ?_);rotate_left 2;(focus ((with_reducible refine QW ?_);simp only [Zg,Zd,seval,if_true,if_false,reduceCtorEq,Nat.reduceEqDiff,i1,hPm];with_reducible rfl));focus ((with_reducible refine QK ?_);simp only [Zk];kernel_rfl)))
   refine roundK.out () trivial ?_
   (repeat' (first|with_reducible refine Qn|((with_reducible refine Qr ?_ ?_);focus (first|with_reducible rfl|(simp only [Zz,Nat.reduceBEq];done)|rfl))|((with_reducible refine Qj (o':=?_) ?_ ?_ ?_);rotate_left 1;focus rfl)|((with_reducible refine Qw ?_ ?_);(focus (first|with_reducible rfl|(simp only [Zv];done)));focus (first|exact id|exact (fun h => nomatch h)|exact (fun _ => rfl)))))
 ·rintro _ _
  repeat' (first|with_reducible (first|refine Q1 ?_|refine Q2 ?_|refine Q3 ?_|refine Q4 ?_|refine Q5 ?_|refine Q6 ?_|refine Q7 ?_|refine Q8 ?_|refine Q9 ?_|refine Qa ?_|refine Qb ?_|refine Qc ?_|refine Qd ?_|refine Qe ?_|refine Qf ?_)|((with_reducible refine Qo ?_ ?_);focus rfl)|((with_reducible first|refine QT 7 (l:=?_) ?_ ?_|refine QF 7 (l:=?_) ?_ ?_);rotate_left 1;focus (simp only [Zu,Nat.reduceSub,Nat.reduceBEq];with_reducible rfl))|((with_reducible first|refine QS (cfg_ok 40) Tab.none (s':=?_) ?_ ?_|refine QC (b:=?_) ?_ ?_);rotate_left 1;focus ((with_reducible refine QW ?_);simp only [Zg,seval,if_true,if_false,reduceCtorEq,Nat.reduceEqDiff];with_reducible rfl))|((with_reducible refine QD (cfg_ok 40) Tab.none mixed_ok (tr:=?_) (s':=?_) ?_ ?_ ?_);rotate_left 2;(focus ((with_reducible refine QW ?_);simp only [Zg,Zd,seval,if_true,if_false,reduceCtorEq,Nat.reduceEqDiff];with_reducible rfl));focus ((with_reducible refine QK ?_);simp only [Zk];kernel_rfl)))
  (refine Ends.mk (by simp) (rs:=?_) (ks:=?_) hres hrts ?_ ?_ ?_;rotate_left 2;(focus (simp only [Ze,Zg,seval,if_true,if_false,reduceCtorEq,Nat.reduceEqDiff,Bool.not_true];with_reducible rfl));(focus simp);focus (first|with_reducible rfl|(simp only [Zv,Bool.not_true];done)))
theorem k_spec_RootSubtrees (v:Value) (t:List Int) (w:World) (h:Rd (RS RI) w [v] t) (hsz:t.length ≤ 1048576):Calls Try.prog 88 #[v] w (RetGI (RS RCounted) w (rsOf t).1 (rsOf t).2) :=
 AFn.gi encCt (r:=.own 2 ((rsOf t).1.map eCt) (!lev8 t)) (by cases lev8 t <;> first|exact .inl rfl|exact .inr (.inl rfl)) (a_spec_RootSubtrees t hsz) (args1 (arg_L h))
end Go.Proofs.Ytofpjonggpjneaa
namespace Go.Proofs.Ytofpjonggpjneaa
open Go.RowKit
set_option maxHeartbeats 1000000 in
theorem walk_FnExactRootSubtrees (v0:Value) (x0:List Int) (w:World) (h0:Rd (RS RI) w [v0] x0):Calls Try.prog 12 #[v0] w (RetV w (.bool true)):=by
 obtain ⟨a0,c0,hv0,hl0,hm0⟩:=h0.val
 unfold maxLen at hm0
 by_cases z0:x0.length ≤ 1048576
 rotate_left
 ·subst hv0
  go_enter Try.func12,Try.ntmps12
  go_wp2_with fail
  go_ret
  exact ⟨rfl,Below.refl _ _⟩
 subst hv0
 go_enter Try.func12,Try.ntmps12
 go_wp2_with fail
 refine (to_I _ x0 _ h0 z0).mono ?_
 rintro e w1 ⟨u1,rfl,o1,B1⟩
 have s1:=B1.size
 have BB:=B1.mono (B':=w.heap.size) (by omega)
 go_wp2_with fail
 refine (k_spec_RootSubtrees _ x0 _ o1.rd z0).mono ?_
 rintro e w2 ⟨u2,rfl,o2,B2⟩
 have s2:=B2.size
 replace o1:=o1.below B2 (by omega)
 replace BB:=BB.trans (B2.mono (B':=w.heap.size) (by omega))
 go_wp2_with fail
 refine (to_I _ x0 _ (h0.below BB (Nat.le_refl _)) z0).mono ?_
 rintro e w3 ⟨u3,rfl,o3,B3⟩
 have s3:=B3.size
 replace o1:=o1.below B3 (by omega)
 replace o2:=o2.below B3 (by omega)
 replace BB:=BB.trans (B3.mono (B':=w.heap.size) (by omega))
 go_wp2_with fail
 refine (k_impl_RootSubtrees _ x0 _ o3.rd).mono ?_
 rintro e w4 ⟨u4,rfl,o4,B4⟩
 have s4:=B4.size
 replace o1:=o1.below B4 (by omega)
 replace o2:=o2.below B4 (by omega)
 replace o3:=o3.below B4 (by omega)
 replace BB:=BB.trans (B4.mono (B':=w.heap.size) (by omega))
 go_wp2_with fail
 refine (eqv_C _ _ (rsOf x0).1 _ o4.rd o2.rd).mono ?_
 rintro e w5 ⟨rfl,B5⟩
 have s5:=B5.size
 replace o1:=o1.below B5 (by omega)
 replace o2:=o2.below B5 (by omega)
 replace o3:=o3.below B5 (by omega)
 replace o4:=o4.below B5 (by omega)
 replace BB:=BB.trans (B5.mono (B':=w.heap.size) (by omega))
 go_wp2_with fail
 refine (to_I _ x0 _ (h0.below BB (Nat.le_refl _)) z0).mono ?_
 rintro e w6 ⟨u6,rfl,o6,B6⟩
 have s6:=B6.size
 replace o1:=o1.below B6 (by omega)
 replace o2:=o2.below B6 (by omega)
 replace o3:=o3.below B6 (by omega)
 replace o4:=o4.below B6 (by omega)
 replace BB:=BB.trans (B6.mono (B':=w.heap.size) (by omega))
 go_wp2_with fail
 refine (eqv_I _ _ x0 _ o3.rd o6.rd).mono ?_
 rintro e w7 ⟨rfl,B7⟩
 have s7:=B7.size
 replace o1:=o1.below B7 (by omega)
 replace o2:=o2.below B7 (by omega)
 replace o3:=o3.below B7 (by omega)
 replace o4:=o4.below B7 (by omega)
 replace o6:=o6.below B7 (by omega)
 replace BB:=BB.trans (B7.mono (B':=w.heap.size) (by omega))
 go_wp2_with fail
 have p8:=cntb_I x0 z0
 refine (mark_I _ x0 _ _ 1 _ o3 (by omega) (by omega)).mono ?_
 rintro e w8 ⟨rfl,o3n,B8⟩
 have s8:=B8.size
 replace o1:=o1.apart B8 (by omega)
 replace o2:=o2.apart B8 (by omega)
 replace o4:=o4.apart B8 (by omega)
 replace o6:=o6.apart B8 (by omega)
 replace o3:=o3n
 clear o3n
 replace BB:=BB.trans (B8.below (B:=w.heap.size) (by omega) (by omega))
 go_wp2_with fail
 refine (eqv_C _ _ (rsOf x0).1 _ o4.rd o2.rd).mono ?_
 rintro e w9 ⟨rfl,B9⟩
 have s9:=B9.size
 replace o1:=o1.below B9 (by omega)
 replace o2:=o2.below B9 (by omega)
 replace o3:=o3.below B9 (by omega)
 replace o4:=o4.below B9 (by omega)
 replace o6:=o6.below B9 (by omega)
 replace BB:=BB.trans (B9.mono (B':=w.heap.size) (by omega))
 go_wp2_with fail
 have p10:=rsOf_cnt x0
 refine (mark_C _ (rsOf x0).1 _ _ 1 _ o4 (by omega) (by omega)).mono ?_
 rintro e w10 ⟨rfl,o4n,B10⟩
 have s10:=B10.size
 replace o1:=o1.apart B10 (by omega)
 replace o2:=o2.apart B10 (by omega)
 replace o3:=o3.apart B10 (by omega)
 replace o6:=o6.apart B10 (by omega)
 replace o4:=o4n
 clear o4n
 replace BB:=BB.trans (B10.below (B:=w.heap.size) (by omega) (by omega))
 go_wp2_with fail
 refine (held_C _ (rsOf x0).1 1 _ o4.rd (by omega) (by omega)).mono ?_
 rintro e w11 ⟨rfl,rfl⟩
 go_wp2_with fail
 refine (to_I _ x0 _ (h0.below BB (Nat.le_refl _)) z0).mono ?_
 rintro e w12 ⟨u12,rfl,o12,B12⟩
 have s12:=B12.size
 replace o1:=o1.below B12 (by omega)
 replace o2:=o2.below B12 (by omega)
 replace o3:=o3.below B12 (by omega)
 replace o4:=o4.below B12 (by omega)
 replace o6:=o6.below B12 (by omega)
 replace BB:=BB.trans (B12.mono (B':=w.heap.size) (by omega))
 go_wp2_with fail
 refine (k_impl_RootSubtrees _ x0 _ o12.rd).mono ?_
 rintro e w13 ⟨u13,rfl,o13,B13⟩
 have s13:=B13.size
 replace o1:=o1.below B13 (by omega)
 replace o2:=o2.below B13 (by omega)
 replace o3:=o3.below B13 (by omega)
 replace o4:=o4.below B13 (by omega)
 replace o6:=o6.below B13 (by omega)
 replace o12:=o12.below B13 (by omega)
 replace BB:=BB.trans (B13.mono (B':=w.heap.size) (by omega))
 go_wp2_with fail
 refine (eqv_C _ _ (rsOf x0).1 _ o13.rd o2.rd).mono ?_
 rintro e w14 ⟨rfl,B14⟩
 have s14:=B14.size
 replace o1:=o1.below B14 (by omega)
 replace o2:=o2.below B14 (by omega)
 replace o3:=o3.below B14 (by omega)
 replace o4:=o4.below B14 (by omega)
 replace o6:=o6.below B14 (by omega)
 replace o12:=o12.below B14 (by omega)
 replace o13:=o13.below B14 (by omega)
 replace BB:=BB.trans (B14.mono (B':=w.heap.size) (by omega))
 go_wp2_with fail
 refine (held_C _ (rsOf x0).1 1 _ o4.rd (by omega) (by omega)).mono ?_
 rintro e w15 ⟨rfl,rfl⟩
 go_wp2_with fail
 go_ret
 exact ⟨rfl,BB⟩
end Go.Proofs.Ytofpjonggpjneaa
