/- Lemmas (13). -/
import Derived.Test.YtfhmonacgmakbaaZA0
import Derived.Test.YtfhmonacgmakbaaZA5
import Derived.Test.YtfhmonacgmakbaaZA6
import Derived.Test.YtfhmonacgmakbaaZA11
import Derived.Test.YtfhmonacgmakbaaZA12
set_option linter.unusedSimpArgs false
set_option linter.unusedVariables false
namespace Go.Proofs.Ytfhmonacgmakbaa
open Go.RowKit
theorem a_valueOfB (a ps:List Int) (hab:∀ i,0 ≤ a.getD i 0∧a.getD i 0 < 10007) (hp:∀ p ∈ ps,0 ≤ p∧p < a.length) (hl:ps.length ≤ 1000000):AFn Try.prog 38 [eL a,eL ps] (· = [.val (.int (valM a ps))]):=by
 refine AFn.of_runs (cfg_ok 23) Try.func38 rfl rfl rfl (by simp only [List.length_cons,List.length_nil];decide) ?_
 have hres:Try.f38.results.toList = [.tmp 4]:=rfl
 have hrts:Try.f38.resultTypes.toList = [2]:=rfl
 simp only [argRegs,argAV1,eL,eI,eLL,eB,Nat.zero_add,Nat.reduceAdd]
 intro M
 refine RunK.of ?_
 repeat' (first|with_reducible (first|refine Q1 ?_|refine Q2 ?_|refine Q3 ?_|refine Q4 ?_|refine Q5 ?_|refine Q6 ?_|refine Q7 ?_|refine Q8 ?_|refine Q9 ?_|refine Qa ?_|refine Qb ?_|refine Qc ?_|refine Qd ?_|refine Qe ?_|refine Qf ?_)|((with_reducible refine Qo ?_ ?_);focus rfl)|((with_reducible first|refine QT 11 (l:=?_) ?_ ?_|refine QF 11 (l:=?_) ?_ ?_);rotate_left 1;focus (simp only [Zu,Nat.reduceSub,Nat.reduceBEq];with_reducible rfl))|((with_reducible first|refine QS (cfg_ok 23) Tab.none (s':=?_) ?_ ?_|refine QC (b:=?_) ?_ ?_);rotate_left 1;focus ((with_reducible refine QW ?_);simp only [Zg,seval,if_true,if_false,reduceCtorEq,Nat.reduceEqDiff,List.length_map];with_reducible rfl)))
 refine RunK.loop (β:=Nat) (γ:=Unit) (fun k => ⟨[(0,.c (.val (.sl 1 (a.map eI)))),(5,.c (.val (.int (valM a (ps.take k))))),(8,.c (.val (.sl 1 (ps.map eI)))),(9,.c (.val (.int ps.length))),(10,.c (.val (.int k)))],[]⟩) (fun k => k ≤ ps.length) (fun k => ps.length - k)
  (fun _ => ⟨[(5,.c (.val (.int (valM a ps))))],[]⟩) (fun _ => True) 0 (Nat.zero_le _) ?_ ?_ ?_
 ·(repeat' (first|with_reducible refine Qn|((with_reducible refine Qr ?_ ?_);focus (first|with_reducible rfl|(simp only [Zz,Nat.reduceBEq,List.take_zero,show valM a [] = 1 from rfl,Int.natCast_zero];done)|rfl))|((with_reducible refine Qj (o':=?_) ?_ ?_ ?_);rotate_left 1;focus rfl)|((with_reducible refine Qw ?_ ?_);(focus (first|with_reducible rfl|(simp only [Zv,List.take_zero,show valM a [] = 1 from rfl,Int.natCast_zero];done)));focus (first|exact id|exact (fun h => nomatch h)|exact (fun _ => rfl)))))
 ·intro k hk
  have hk:k ≤ ps.length:=hk
  have hw:=w64_succ (n:=k) (by omega)
  by_cases h:k < ps.length
  ·have i1:((k:Int) < (ps.length:Int)) = True:=eq_true (by omega)
   have i2:((0:Int) ≤ (k:Int)) = True:=eq_true (by omega)
   obtain ⟨p,hpe⟩:∃ p,p = ps[k]:=⟨_,rfl⟩
   obtain ⟨p1,p2⟩:=hp ps[k] (List.getElem_mem _)
   rw [← hpe] at p1 p2
   obtain ⟨m,rfl⟩:∃ m:Nat,p = m:=⟨p.toNat,by omega⟩
   have hm:m < a.length:=by omega
   have hle1:(ps.map eI).length = ps.length:=List.length_map _
   have hle2:(a.map eI).length = a.length:=List.length_map _
   have hg1:(ps.map eI)[k]? = some [.int (m:Int)]:=by rw [map_get h,← hpe];rfl
   have hg2:(a.map eI)[m]? = some [.int (a.getD m 0)]:=by rw [map_get hm,getD_at hm];rfl
   have hst:valM a (ps.take (k + 1)) = mP (valM a (ps.take k) * a.getD m 0):=by rw [List.take_succ_eq_append_getElem h,valM_snoc,← hpe];rfl
   have i3:((m:Int) < (a.length:Int)) = True:=eq_true (by omega)
   have i4:((0:Int) ≤ (m:Int)) = True:=eq_true (by omega)
   have hmb:=mul_bdM (valM_bd a (ps.take k)) (hab m)
   have hw2:w64 (valM a (ps.take k) * a.getD m 0) = valM a (ps.take k) * a.getD m 0:=w64_eq (by omega)
   have hnum:=a_num (valM a (ps.take k) * a.getD m 0)
   simp only [eI] at hnum
   repeat' (first|with_reducible (first|refine Q1 ?_|refine Q2 ?_|refine Q3 ?_|refine Q4 ?_|refine Q5 ?_|refine Q6 ?_|refine Q7 ?_|refine Q8 ?_|refine Q9 ?_|refine Qa ?_|refine Qb ?_|refine Qc ?_|refine Qd ?_|refine Qe ?_|refine Qf ?_)|((with_reducible refine Qo ?_ ?_);focus rfl)|((with_reducible first|refine QT 11 (l:=?_) ?_ ?_|refine QF 11 (l:=?_) ?_ ?_);rotate_left 1;focus (simp only [Zu,Nat.reduceSub,Nat.reduceBEq];with_reducible rfl))|((with_reducible first|refine QS (cfg_ok 23) (Tab.none.at' 33 hnum) (s':=?_) ?_ ?_|refine QC (b:=?_) ?_ ?_);rotate_left 1;focus ((with_reducible refine QW ?_);simp only [Zg,seval,if_true,if_false,reduceCtorEq,Nat.reduceEqDiff,i1,i2,i3,i4,hle1,hle2,hg1,hg2,hw,hw2,Int.toNat_natCast];with_reducible rfl)))
   refine roundK.on (k + 1) ⟨h,by omega⟩ ?_
   rw [hst]
   (repeat' (first|with_reducible refine Qn|((with_reducible refine Qr ?_ ?_);focus (first|with_reducible rfl|(simp only [Zz,Nat.reduceBEq];done)|rfl))|((with_reducible refine Qj (o':=?_) ?_ ?_ ?_);rotate_left 1;focus rfl)|((with_reducible refine Qw ?_ ?_);(focus (first|with_reducible rfl|(simp only [Zv];done)));focus (first|exact id|exact (fun h => nomatch h)|exact (fun _ => rfl)))))
  ·have i1:((k:Int) < (ps.length:Int)) = False:=eq_false (by omega)
   repeat' (first|with_reducible (first|refine Q1 ?_|refine Q2 ?_|refine Q3 ?_|refine Q4 ?_|refine Q5 ?_|refine Q6 ?_|refine Q7 ?_|refine Q8 ?_|refine Q9 ?_|refine Qa ?_|refine Qb ?_|refine Qc ?_|refine Qd ?_|refine Qe ?_|refine Qf ?_)|((with_reducible refine Qo ?_ ?_);focus rfl)|((with_reducible first|refine QT 11 (l:=?_) ?_ ?_|refine QF 11 (l:=?_) ?_ ?_);rotate_left 1;focus (simp only [Zu,Nat.reduceSub,Nat.reduceBEq];with_reducible rfl))|((with_reducible first|refine QS (cfg_ok 23) Tab.none (s':=?_) ?_ ?_|refine QC (b:=?_) ?_ ?_);rotate_left 1;focus ((with_reducible refine QW ?_);simp only [Zg,seval,if_true,if_false,reduceCtorEq,Nat.reduceEqDiff,i1];with_reducible rfl)))
   refine roundK.out () trivial ?_
   rw [List.take_of_length_le (by omega)]
   (repeat' (first|with_reducible refine Qn|((with_reducible refine Qr ?_ ?_);focus (first|with_reducible rfl|(simp only [Zz,Nat.reduceBEq];done)|rfl))|((with_reducible refine Qj (o':=?_) ?_ ?_ ?_);rotate_left 1;focus rfl)|((with_reducible refine Qw ?_ ?_);(focus (first|with_reducible rfl|(simp only [Zv];done)));focus (first|exact id|exact (fun h => nomatch h)|exact (fun _ => rfl)))))
 ·rintro _ _
  repeat' (first|with_reducible (first|refine Q1 ?_|refine Q2 ?_|refine Q3 ?_|refine Q4 ?_|refine Q5 ?_|refine Q6 ?_|refine Q7 ?_|refine Q8 ?_|refine Q9 ?_|refine Qa ?_|refine Qb ?_|refine Qc ?_|refine Qd ?_|refine Qe ?_|refine Qf ?_)|((with_reducible refine Qo ?_ ?_);focus rfl)|((with_reducible first|refine QT 11 (l:=?_) ?_ ?_|refine QF 11 (l:=?_) ?_ ?_);rotate_left 1;focus (simp only [Zu,Nat.reduceSub,Nat.reduceBEq];with_reducible rfl))|((with_reducible first|refine QS (cfg_ok 23) Tab.none (s':=?_) ?_ ?_|refine QC (b:=?_) ?_ ?_);rotate_left 1;focus ((with_reducible refine QW ?_);simp only [Zg,seval,if_true,if_false,reduceCtorEq,Nat.reduceEqDiff];with_reducible rfl)))
  (refine Ends.mk (by simp) (rs:=?_) (ks:=?_) hres hrts ?_ ?_ ?_;rotate_left 2;(focus (simp only [Ze,Zg,seval,if_true,if_false,reduceCtorEq,Nat.reduceEqDiff];with_reducible rfl));(focus simp);focus (first|with_reducible rfl|(simp only [Zv];done)))
theorem cuts_low:(T6.zipIdx.all fun x => (cutsM x.1).all fun m => decide (m.2.2 = 0) || (m.2.1.all fun p => decide (p ≤ x.2))) = true:=by decide +kernel
theorem cuts_before {i:Nat} (h:i < T6.length):∀ m ∈ cutsM T6[i],m.2.2 ≠ 0→∀ p ∈ m.2.1,p ≤ i:=by
 intro m hm hz p hp
 have h1:=List.all_eq_true.1 cuts_low (T6[i],i) (by rw [List.mem_iff_getElem];exact ⟨i,by rw [List.length_zipIdx];exact h,by rw [List.getElem_zipIdx,Nat.zero_add]⟩)
 have h2:=List.all_eq_true.1 h1 m hm
 simp only [Bool.or_eq_true,decide_eq_true_eq,List.all_eq_true] at h2
 exact (h2.resolve_left hz) p hp
theorem cutI_bd (a L:List Int) (m:MC):0 ≤ cutI a L m∧cutI a L m < 10007:=by
 unfold cutI
 split
 ·omega
 ·exact mP_bd _
theorem sumI_bd (a L:List Int):∀ (C:List MC),0 ≤ (C.map (cutI a L)).sum∧(C.map (cutI a L)).sum ≤ 10007 * C.length
 | [] => by simp
 | m :: C => by
  have h1:=cutI_bd a L m
  have h2:=sumI_bd a L C
  rw [List.map_cons,List.sum_cons,List.length_cons];omega
theorem sumI_snoc (a L:List Int) (C:List MC) (m:MC):((C ++ [m]).map (cutI a L)).sum = (C.map (cutI a L)).sum + cutI a L m:=by
 rw [List.map_append,List.sum_append];simp
theorem invI_len (a:List Int):∀ (C:List (List MC)),(invI a C).length = C.length + 1:=by
 have key:∀ (C:List (List MC)) (L:List Int),(C.foldl (fun L cs => L ++ [rowI a L cs]) L).length = L.length + C.length:=by
  intro C
  induction C with
  | nil => intro L;rfl
  | cons cs C ih => intro L;show (C.foldl (fun L cs => L ++ [rowI a L cs]) (L ++ [rowI a L cs])).length = _;rw [ih,List.length_append,List.length_cons,List.length_cons,List.length_nil];omega
 intro C
 show (C.foldl (fun L cs => L ++ [rowI a L cs]) [1]).length = _
 rw [key];show 1 + C.length = _;omega
theorem invI_snoc (a:List Int) (C:List (List MC)) (cs:List MC):invI a (C ++ [cs]) = invI a C ++ [rowI a (invI a C) cs]:=by
 unfold invI
 rw [List.foldl_append];rfl
theorem invI_bd (a:List Int) (C:List (List MC)):∀ i,0 ≤ (invI a C).getD i 0∧(invI a C).getD i 0 < 10007:=by
 intro i
 by_cases hi:i < (invI a C).length
 ·rw [getD_at hi,← invI_small a C _ (List.getElem_mem hi)];exact mP_bd _
 ·rw [List.getD_eq_getElem?_getD,List.getElem?_eq_none (by omega)];decide
theorem take_cuts {i:Nat} (h:i < T6.length):(T6.take (i + 1)).map cutsM = (T6.take i).map cutsM ++ [cutsM T6[i]]:=by
 rw [List.take_succ_eq_append_getElem h,List.map_append];rfl
set_option maxRecDepth 20000 in
set_option maxHeartbeats 16000000 in
theorem a_inverseMap (X:List (List D)) (a:List Int) (ha:isMap a = true):AFn Try.prog 25 [[.sl 1 X,.sl 1 ((T6.map cutsM).map eMs)],eL a] (· = [.own 1 ((invI a (T6.map cutsM)).map eI) true]):=by
 obtain ⟨hal,hab⟩:=isMap_bd ha
 obtain ⟨Y,hY⟩:∃ Y,Y = (T6.map cutsM).map eMs:=⟨_,rfl⟩
 have hYl:Y.length = 37:=by rw [hY,List.length_map,List.length_map,T6_len]
 have ham:(a.map eI).length = 38:=by rw [List.length_map,hal]
 rw [← hY]
 refine AFn.of_runs (cfg_ok 54) Try.func25 rfl rfl rfl (by simp only [List.length_cons,List.length_nil];decide) ?_
 have hres:Try.f25.results.toList = [.tmp 4]:=rfl
 have hrts:Try.f25.resultTypes.toList = [22]:=rfl
 simp only [argRegs,argAV1,eL,eI,eLL,eB,Nat.zero_add,Nat.reduceAdd]
 intro M
 refine RunK.of ?_
 repeat' (first|with_reducible (first|refine Q1 ?_|refine Q2 ?_|refine Q3 ?_|refine Q4 ?_|refine Q5 ?_|refine Q6 ?_|refine Q7 ?_|refine Q8 ?_|refine Q9 ?_|refine Qa ?_|refine Qb ?_|refine Qc ?_|refine Qd ?_|refine Qe ?_|refine Qf ?_)|((with_reducible refine Qo ?_ ?_);focus rfl)|((with_reducible first|refine QT 22 (l:=?_) ?_ ?_|refine QF 22 (l:=?_) ?_ ?_);rotate_left 1;focus (simp only [Zu,Nat.reduceSub,Nat.reduceBEq];with_reducible rfl))|((with_reducible first|refine QS (cfg_ok 54) Tab.none (s':=?_) ?_ ?_|refine QC (b:=?_) ?_ ?_);rotate_left 1;focus ((with_reducible refine QW ?_);simp only [Zg,seval,if_true,if_false,reduceCtorEq,Nat.reduceEqDiff,hYl];with_reducible rfl))|((with_reducible refine QD (cfg_ok 54) Tab.none mixed_ok (tr:=?_) (s':=?_) ?_ ?_ ?_);rotate_left 2;(focus ((with_reducible refine QW ?_);simp only [Zg,Zd,seval,if_true,if_false,reduceCtorEq,Nat.reduceEqDiff,hYl];with_reducible rfl));focus ((with_reducible refine QK ?_);simp only [Zk];kernel_rfl)))
 refine RunK.loop (β:=Nat) (γ:=Unit) (fun i => ⟨[(1,.c (.val (.sl 1 (a.map eI)))),(5,.c (.own 5 (i + 1))),(13,.c (.val (.sl 1 Y))),(14,.c (.val (.int 37))),(15,.c (.val (.int i)))],[(5,.row 1 ((invI a ((T6.take i).map cutsM)).map eI) true)]⟩) (fun i => i ≤ 37) (fun i => 37 - i)
  (fun _ => ⟨[(5,.c (.own 5 38))],[(5,.row 1 ((invI a (T6.map cutsM)).map eI) true)]⟩) (fun _ => True) 0 (Nat.zero_le _) ?_ ?_ ?_
 ·(repeat' (first|with_reducible refine Qn|((with_reducible refine Qr ?_ ?_);focus (first|with_reducible rfl|(simp only [Zz,Nat.reduceBEq,List.take_zero,List.map_nil,Int.natCast_zero,List.map_cons,eI,show invI a [] = [1] from rfl];done)|rfl))|((with_reducible refine Qj (o':=?_) ?_ ?_ ?_);rotate_left 1;focus rfl)|((with_reducible refine Qw ?_ ?_);(focus (first|with_reducible rfl|(simp only [Zv,List.take_zero,List.map_nil,Int.natCast_zero,List.map_cons,eI,show invI a [] = [1] from rfl];done)));focus (first|exact id|exact (fun h => nomatch h)|exact (fun _ => rfl)))))
 ·intro i hi
  have hi:i ≤ 37:=hi
  have hw:=w64_succ (n:=i) (by omega)
  by_cases hi37:i < 37
  ·have i1:((i:Int) < 37) = True:=eq_true (by omega)
   have i2:((0:Int) ≤ (i:Int)) = True:=eq_true (by omega)
   have hiT:i < T6.length:=by rw [T6_len];exact hi37
   have hbef:=cuts_before hiT
   have hat:=invI_snoc a ((T6.take i).map cutsM) (cutsM T6[i])
   rw [← take_cuts hiT] at hat
   have hRl:=invI_len a ((T6.take i).map cutsM)
   rw [List.length_map,List.length_take,Nat.min_eq_left (by omega)] at hRl
   have hRb:=invI_bd a ((T6.take i).map cutsM)
   obtain ⟨t,ht⟩:∃ t,t = T6[i]:=⟨_,rfl⟩
   have htm:t ∈ T6:=by rw [ht];exact List.getElem_mem _
   have hg:Y[i]? = some [.sl 3 ((cutsM t).map eM)]:=by rw [hY,List.map_map,map_get hiT,← ht];rfl
   obtain ⟨R,hR⟩:∃ R,R = invI a ((T6.take i).map cutsM):=⟨_,rfl⟩
   rw [← ht] at hbef hat
   rw [← hR] at hat hRl hRb ⊢
   have hRm:(R.map eI).length = i + 1:=by rw [List.length_map,hRl]
   obtain ⟨hLn,hLok⟩:=cutsM_ok htm
   obtain ⟨L,hL⟩:∃ L,L = cutsM t:=⟨_,rfl⟩
   rw [← hL] at hg hat hLn hLok hbef
   have hLm:(L.map eM).length = L.length:=List.length_map _
   repeat' (first|with_reducible (first|refine Q1 ?_|refine Q2 ?_|refine Q3 ?_|refine Q4 ?_|refine Q5 ?_|refine Q6 ?_|refine Q7 ?_|refine Q8 ?_|refine Q9 ?_|refine Qa ?_|refine Qb ?_|refine Qc ?_|refine Qd ?_|refine Qe ?_|refine Qf ?_)|((with_reducible refine Qo ?_ ?_);focus rfl)|((with_reducible first|refine QT 22 (l:=?_) ?_ ?_|refine QF 22 (l:=?_) ?_ ?_);rotate_left 1;focus (simp only [Zu,Nat.reduceSub,Nat.reduceBEq];with_reducible rfl))|((with_reducible first|refine QS (cfg_ok 54) Tab.none (s':=?_) ?_ ?_|refine QC (b:=?_) ?_ ?_);rotate_left 1;focus ((with_reducible refine QW ?_);simp only [Zg,seval,if_true,if_false,reduceCtorEq,Nat.reduceEqDiff,i1,i2,hg,hYl,hLm,Int.toNat_natCast];with_reducible rfl))|((with_reducible refine QD (cfg_ok 54) Tab.none mixed_ok (tr:=?_) (s':=?_) ?_ ?_ ?_);rotate_left 2;(focus ((with_reducible refine QW ?_);simp only [Zg,Zd,seval,if_true,if_false,reduceCtorEq,Nat.reduceEqDiff,i1,i2,hg,hYl,hLm,Int.toNat_natCast];with_reducible rfl));focus ((with_reducible refine QK ?_);simp only [Zk];kernel_rfl)))
   refine RunK.loop (β:=Nat) (γ:=Unit) (fun j => ⟨[(1,.c (.val (.sl 1 (a.map eI)))),(5,.c (.own 5 (i + 1))),(8,.c (.val (.int ((L.take j).map (cutI a R)).sum))),(13,.c (.val (.sl 1 Y))),(14,.c (.val (.int 37))),(15,.c (.val (.int i))),(19,.c (.val (.sl 3 (L.map eM)))),(20,.c (.val (.int L.length))),(21,.c (.val (.int j)))],[(5,.row 1 (R.map eI) true)]⟩) (fun j => j ≤ L.length) (fun j => L.length - j)
    (fun _ => ⟨[(1,.c (.val (.sl 1 (a.map eI)))),(5,.c (.own 5 (i + 1))),(8,.c (.val (.int (L.map (cutI a R)).sum))),(13,.c (.val (.sl 1 Y))),(14,.c (.val (.int 37))),(15,.c (.val (.int i)))],[(5,.row 1 (R.map eI) true)]⟩) (fun _ => True) 0 (Nat.zero_le _) ?_ ?_ ?_
   ·(repeat' (first|with_reducible refine Qn|((with_reducible refine Qr ?_ ?_);focus (first|with_reducible rfl|(simp only [Zz,Nat.reduceBEq,List.take_zero,List.map_nil,Int.natCast_zero,List.sum_nil];done)|rfl))|((with_reducible refine Qj (o':=?_) ?_ ?_ ?_);rotate_left 1;focus rfl)|((with_reducible refine Qw ?_ ?_);(focus (first|with_reducible rfl|(simp only [Zv,List.take_zero,List.map_nil,Int.natCast_zero,List.sum_nil];done)));focus (first|exact id|exact (fun h => nomatch h)|exact (fun _ => rfl)))))
   ·intro j hj
    have hj:j ≤ L.length:=hj
    have hwj:=w64_succ (n:=j) (by omega)
    by_cases hjL:j < L.length
    ·have j1:((j:Int) < (L.length:Int)) = True:=eq_true (by omega)
     have j2:((0:Int) ≤ (j:Int)) = True:=eq_true (by omega)
     obtain ⟨m,hm⟩:∃ m,m = L[j]:=⟨_,rfl⟩
     have hmg:(L.map eM)[j]? = some [.int m.1,.sl 1 (m.2.1.map eI),.int m.2.2]:=by rw [map_get hjL,hm];rfl
     obtain ⟨m1,m2,m3,m4,m5⟩:=hLok L[j] (List.getElem_mem _)
     have hbm:=hbef L[j] (List.getElem_mem _)
     rw [← hm] at m1 m2 m3 m4 m5 hbm
     have hst:((L.take (j + 1)).map (cutI a R)).sum = ((L.take j).map (cutI a R)).sum + cutI a R m:=by
      rw [List.take_succ_eq_append_getElem hjL,sumI_snoc,← hm]
     have hsb:=sumI_bd a R (L.take j)
     have htl:(L.take j).length ≤ 256:=by rw [List.length_take];omega
     have hcb:=cutI_bd a R m
     obtain ⟨n,ps,z⟩:=m
     simp only at hmg m1 m2 m3 m4 m5 hbm
     by_cases hz:z = 0
     ·subst hz
      have hcv:cutI a R (n,ps,0) = 0:=if_pos rfl
      rw [hcv,Int.add_zero] at hst
      have z1:((0:Int) > 0) = False:=eq_false (by omega)
      repeat' (first|with_reducible (first|refine Q1 ?_|refine Q2 ?_|refine Q3 ?_|refine Q4 ?_|refine Q5 ?_|refine Q6 ?_|refine Q7 ?_|refine Q8 ?_|refine Q9 ?_|refine Qa ?_|refine Qb ?_|refine Qc ?_|refine Qd ?_|refine Qe ?_|refine Qf ?_)|((with_reducible refine Qo ?_ ?_);focus rfl)|((with_reducible first|refine QT 22 (l:=?_) ?_ ?_|refine QF 22 (l:=?_) ?_ ?_);rotate_left 1;focus (simp only [Zu,Nat.reduceSub,Nat.reduceBEq];with_reducible rfl))|((with_reducible first|refine QS (cfg_ok 54) Tab.none (s':=?_) ?_ ?_|refine QC (b:=?_) ?_ ?_);rotate_left 1;focus ((with_reducible refine QW ?_);simp only [Zg,seval,if_true,if_false,reduceCtorEq,Nat.reduceEqDiff,j1,j2,hmg,hLm,z1,hwj,Int.toNat_natCast];with_reducible rfl))|((with_reducible refine QD (cfg_ok 54) Tab.none mixed_ok (tr:=?_) (s':=?_) ?_ ?_ ?_);rotate_left 2;(focus ((with_reducible refine QW ?_);simp only [Zg,Zd,seval,if_true,if_false,reduceCtorEq,Nat.reduceEqDiff,j1,j2,hmg,hLm,z1,hwj,Int.toNat_natCast];with_reducible rfl));focus ((with_reducible refine QK ?_);simp only [Zk];kernel_rfl)))
      refine roundK.on (j + 1) ⟨hjL,by omega⟩ ?_
      rw [hst]
      (repeat' (first|with_reducible refine Qn|((with_reducible refine Qr ?_ ?_);focus (first|with_reducible rfl|(simp only [Zz,Nat.reduceBEq];done)|rfl))|((with_reducible refine Qj (o':=?_) ?_ ?_ ?_);rotate_left 1;focus rfl)|((with_reducible refine Qw ?_ ?_);(focus (first|with_reducible rfl|(simp only [Zv];done)));focus (first|exact id|exact (fun h => nomatch h)|exact (fun _ => rfl)))))
     ·have hcv:cutI a R (n,ps,z) = mP (n * mP (valM R ps * a.getD z.toNat 0)):=if_neg hz
      obtain ⟨q,rfl⟩:∃ q:Nat,z = q:=⟨z.toNat,by omega⟩
      rw [Int.toNat_natCast] at hcv
      have hq:q < a.length:=by omega
      have z1:((q:Int) > 0) = True:=eq_true (by omega)
      have k1:((q:Int) < 38) = True:=eq_true (by omega)
      have k2:((0:Int) ≤ (q:Int)) = True:=eq_true (by omega)
      have hbg:(a.map eI)[q]? = some [.int (a.getD q 0)]:=by rw [map_get hq,getD_at hq];rfl
      have hv:=a_valueOfB R ps hRb (fun p hp => by have h1:=m2 p hp;have h2:=hbm hz p hp;omega) (by omega)
      simp only [eL] at hv
      have hvb:=valM_bd R ps
      have hm1:=mul_bdM hvb (hab q)
      have hw1:w64 (valM R ps * a.getD q 0) = valM R ps * a.getD q 0:=w64_eq (by omega)
      have hm2:=mul_bdM (a:=n) (by omega) (mP_bd (valM R ps * a.getD q 0))
      have hw2:w64 (n * mP (valM R ps * a.getD q 0)) = n * mP (valM R ps * a.getD q 0):=w64_eq (by omega)
      have hw3:w64 (((L.take j).map (cutI a R)).sum + mP (n * mP (valM R ps * a.getD q 0))) = ((L.take j).map (cutI a R)).sum + mP (n * mP (valM R ps * a.getD q 0)):=w64_eq (by rw [← hcv];omega)
      rw [hcv] at hst
      repeat' (first|with_reducible (first|refine Q1 ?_|refine Q2 ?_|refine Q3 ?_|refine Q4 ?_|refine Q5 ?_|refine Q6 ?_|refine Q7 ?_|refine Q8 ?_|refine Q9 ?_|refine Qa ?_|refine Qb ?_|refine Qc ?_|refine Qd ?_|refine Qe ?_|refine Qf ?_)|((with_reducible refine Qo ?_ ?_);focus rfl)|((with_reducible first|refine QT 22 (l:=?_) ?_ ?_|refine QF 22 (l:=?_) ?_ ?_);rotate_left 1;focus (simp only [Zu,Nat.reduceSub,Nat.reduceBEq];with_reducible rfl))|((with_reducible first|refine QS (cfg_ok 54) ((TNm.at' 38 hv)) (s':=?_) ?_ ?_|refine QC (b:=?_) ?_ ?_);rotate_left 1;focus ((with_reducible refine QW ?_);simp only [Zg,seval,if_true,if_false,reduceCtorEq,Nat.reduceEqDiff,TNm,j1,j2,hmg,hLm,ham,hbg,k1,k2,z1,hw1,hw2,hw3,hwj,Int.toNat_natCast];with_reducible rfl))|((with_reducible refine QD (cfg_ok 54) ((TNm.at' 38 hv)) mixed_ok (tr:=?_) (s':=?_) ?_ ?_ ?_);rotate_left 2;(focus ((with_reducible refine QW ?_);simp only [Zg,Zd,seval,if_true,if_false,reduceCtorEq,Nat.reduceEqDiff,TNm,j1,j2,hmg,hLm,ham,hbg,k1,k2,z1,hw1,hw2,hw3,hwj,Int.toNat_natCast];with_reducible rfl));focus ((with_reducible refine QK ?_);simp only [Zk];kernel_rfl)))
      refine roundK.on (j + 1) ⟨hjL,by omega⟩ ?_
      rw [hst]
      (repeat' (first|with_reducible refine Qn|((with_reducible refine Qr ?_ ?_);focus (first|with_reducible rfl|(simp only [Zz,Nat.reduceBEq];done)|rfl))|((with_reducible refine Qj (o':=?_) ?_ ?_ ?_);rotate_left 1;focus rfl)|((with_reducible refine Qw ?_ ?_);(focus (first|with_reducible rfl|(simp only [Zv];done)));focus (first|exact id|exact (fun h => nomatch h)|exact (fun _ => rfl)))))
    ·have j1:((j:Int) < (L.length:Int)) = False:=eq_false (by omega)
     obtain rfl:j = L.length:=by omega
     repeat' (first|with_reducible (first|refine Q1 ?_|refine Q2 ?_|refine Q3 ?_|refine Q4 ?_|refine Q5 ?_|refine Q6 ?_|refine Q7 ?_|refine Q8 ?_|refine Q9 ?_|refine Qa ?_|refine Qb ?_|refine Qc ?_|refine Qd ?_|refine Qe ?_|refine Qf ?_)|((with_reducible refine Qo ?_ ?_);focus rfl)|((with_reducible first|refine QT 22 (l:=?_) ?_ ?_|refine QF 22 (l:=?_) ?_ ?_);rotate_left 1;focus (simp only [Zu,Nat.reduceSub,Nat.reduceBEq];with_reducible rfl))|((with_reducible first|refine QS (cfg_ok 54) Tab.none (s':=?_) ?_ ?_|refine QC (b:=?_) ?_ ?_);rotate_left 1;focus ((with_reducible refine QW ?_);simp only [Zg,seval,if_true,if_false,reduceCtorEq,Nat.reduceEqDiff,j1];with_reducible rfl))|((with_reducible refine QD (cfg_ok 54) Tab.none mixed_ok (tr:=?_) (s':=?_) ?_ ?_ ?_);rotate_left 2;(focus ((with_reducible refine QW ?_);simp only [Zg,Zd,seval,if_true,if_false,reduceCtorEq,Nat.reduceEqDiff,j1];with_reducible rfl));focus ((with_reducible refine QK ?_);simp only [Zk];kernel_rfl)))
     refine roundK.out () trivial ?_
     rw [List.take_length]
     (repeat' (first|with_reducible refine Qn|((with_reducible refine Qr ?_ ?_);focus (first|with_reducible rfl|(simp only [Zz,Nat.reduceBEq];done)|rfl))|((with_reducible refine Qj (o':=?_) ?_ ?_ ?_);rotate_left 1;focus rfl)|((with_reducible refine Qw ?_ ?_);(focus (first|with_reducible rfl|(simp only [Zv];done)));focus (first|exact id|exact (fun h => nomatch h)|exact (fun _ => rfl)))))
   ·rintro _ _
    have q1:=big_le (n:=i + 1 + 1) (by omega)
    have q2:=big_mul (n:=i + 1 + 1) (c:=8) (by omega) (by omega)
    have q3:(i ≤ 140737488355326) = True:=eq_true (by omega)
    have hsb:=sumI_bd a R L
    have hwn:w64 (0 - (L.map (cutI a R)).sum) = -(L.map (cutI a R)).sum:=by rw [w64_eq (by omega)];omega
    repeat' (first|with_reducible (first|refine Q1 ?_|refine Q2 ?_|refine Q3 ?_|refine Q4 ?_|refine Q5 ?_|refine Q6 ?_|refine Q7 ?_|refine Q8 ?_|refine Q9 ?_|refine Qa ?_|refine Qb ?_|refine Qc ?_|refine Qd ?_|refine Qe ?_|refine Qf ?_)|((with_reducible refine Qo ?_ ?_);focus rfl)|((with_reducible first|refine QT 22 (l:=?_) ?_ ?_|refine QF 22 (l:=?_) ?_ ?_);rotate_left 1;focus (simp only [Zu,Nat.reduceSub,Nat.reduceBEq];with_reducible rfl))|((with_reducible first|refine QS (cfg_ok 54) TNm (s':=?_) ?_ ?_|refine QC (b:=?_) ?_ ?_);rotate_left 1;focus ((with_reducible refine QW ?_);simp only [Zg,seval,if_true,if_false,reduceCtorEq,Nat.reduceEqDiff,TNm,TNm,hRm,q1,q2,q3,hw,hwn];with_reducible rfl))|((with_reducible refine QD (cfg_ok 54) TNm mixed_ok (tr:=?_) (s':=?_) ?_ ?_ ?_);rotate_left 2;(focus ((with_reducible refine QW ?_);simp only [Zg,Zd,seval,if_true,if_false,reduceCtorEq,Nat.reduceEqDiff,TNm,TNm,hRm,q1,q2,q3,hw,hwn];with_reducible rfl));focus ((with_reducible refine QK ?_);simp only [Zk];kernel_rfl)))
    refine roundK.on (i + 1) ⟨by omega,by omega⟩ ?_
    rw [hat,List.map_append]
    (repeat' (first|with_reducible refine Qn|((with_reducible refine Qr ?_ ?_);focus (first|with_reducible rfl|(simp only [Zz,Nat.reduceBEq,List.map_cons,List.map_nil,eI,rowI];done)|rfl))|((with_reducible refine Qj (o':=?_) ?_ ?_ ?_);rotate_left 1;focus rfl)|((with_reducible refine Qw ?_ ?_);(focus (first|with_reducible rfl|(simp only [Zv,List.map_cons,List.map_nil,eI,rowI];done)));focus (first|exact id|exact (fun h => nomatch h)|exact (fun _ => rfl)))))
  ·have i1:((i:Int) < 37) = False:=eq_false (by omega)
   obtain rfl:i = 37:=by omega
   repeat' (first|with_reducible (first|refine Q1 ?_|refine Q2 ?_|refine Q3 ?_|refine Q4 ?_|refine Q5 ?_|refine Q6 ?_|refine Q7 ?_|refine Q8 ?_|refine Q9 ?_|refine Qa ?_|refine Qb ?_|refine Qc ?_|refine Qd ?_|refine Qe ?_|refine Qf ?_)|((with_reducible refine Qo ?_ ?_);focus rfl)|((with_reducible first|refine QT 22 (l:=?_) ?_ ?_|refine QF 22 (l:=?_) ?_ ?_);rotate_left 1;focus (simp only [Zu,Nat.reduceSub,Nat.reduceBEq];with_reducible rfl))|((with_reducible first|refine QS (cfg_ok 54) Tab.none (s':=?_) ?_ ?_|refine QC (b:=?_) ?_ ?_);rotate_left 1;focus ((with_reducible refine QW ?_);simp only [Zg,seval,if_true,if_false,reduceCtorEq,Nat.reduceEqDiff,i1];with_reducible rfl))|((with_reducible refine QD (cfg_ok 54) Tab.none mixed_ok (tr:=?_) (s':=?_) ?_ ?_ ?_);rotate_left 2;(focus ((with_reducible refine QW ?_);simp only [Zg,Zd,seval,if_true,if_false,reduceCtorEq,Nat.reduceEqDiff,i1];with_reducible rfl));focus ((with_reducible refine QK ?_);simp only [Zk];kernel_rfl)))
   refine roundK.out () trivial ?_
   rw [List.take_of_length_le (by rw [T6_len];omega)]
   (repeat' (first|with_reducible refine Qn|((with_reducible refine Qr ?_ ?_);focus (first|with_reducible rfl|(simp only [Zz,Nat.reduceBEq];done)|rfl))|((with_reducible refine Qj (o':=?_) ?_ ?_ ?_);rotate_left 1;focus rfl)|((with_reducible refine Qw ?_ ?_);(focus (first|with_reducible rfl|(simp only [Zv];done)));focus (first|exact id|exact (fun h => nomatch h)|exact (fun _ => rfl)))))
 ·rintro _ _
  repeat' (first|with_reducible (first|refine Q1 ?_|refine Q2 ?_|refine Q3 ?_|refine Q4 ?_|refine Q5 ?_|refine Q6 ?_|refine Q7 ?_|refine Q8 ?_|refine Q9 ?_|refine Qa ?_|refine Qb ?_|refine Qc ?_|refine Qd ?_|refine Qe ?_|refine Qf ?_)|((with_reducible refine Qo ?_ ?_);focus rfl)|((with_reducible first|refine QT 22 (l:=?_) ?_ ?_|refine QF 22 (l:=?_) ?_ ?_);rotate_left 1;focus (simp only [Zu,Nat.reduceSub,Nat.reduceBEq];with_reducible rfl))|((with_reducible first|refine QS (cfg_ok 54) Tab.none (s':=?_) ?_ ?_|refine QC (b:=?_) ?_ ?_);rotate_left 1;focus ((with_reducible refine QW ?_);simp only [Zg,seval,if_true,if_false,reduceCtorEq,Nat.reduceEqDiff];with_reducible rfl))|((with_reducible refine QD (cfg_ok 54) Tab.none mixed_ok (tr:=?_) (s':=?_) ?_ ?_ ?_);rotate_left 2;(focus ((with_reducible refine QW ?_);simp only [Zg,Zd,seval,if_true,if_false,reduceCtorEq,Nat.reduceEqDiff];with_reducible rfl));focus ((with_reducible refine QK ?_);simp only [Zk];kernel_rfl)))
  (refine Ends.mk (by simp) (rs:=?_) (ks:=?_) hres hrts ?_ ?_ ?_;rotate_left 2;(focus (simp only [Ze,Zg,seval,if_true,if_false,reduceCtorEq,Nat.reduceEqDiff];with_reducible rfl));(focus simp);focus (first|with_reducible rfl|(simp only [Zv];done)))
end Go.Proofs.Ytfhmonacgmakbaa
namespace Go.Proofs.Ytfhmonacgmakbaa
open Go.RowKit
theorem isMap_of {b:List Int} (h:b.length = 38) (h2:∀ x ∈ b,0 ≤ x∧x < 10007):isMap b = true:=by
 unfold isMap
 rw [Bool.and_eq_true]
 refine ⟨decide_eq_true h,List.all_eq_true.2 fun x hx => ?_⟩
 have:=h2 x hx
 unfold isNum inR
 simp
 omega
theorem mem_bd {L:List Int} (h:∀ x ∈ L,mP x = x):∀ x ∈ L,0 ≤ x∧x < 10007:=fun x hx => by
 have h1:=h x hx
 have:=mP_bd x
 omega
theorem a_UnitMap:AFn Try.prog 24 [] (· = [.own 1 (unitMap.map eI) true]) :=
 AFn.of_o encI (enters_of Try.func24 rfl rfl) (fun w A vs h => by subst h;exact k_impl_UnitMap w)
end Go.Proofs.Ytfhmonacgmakbaa
namespace Go.Proofs.Ytfhmonacgmakbaa
open Go.RowKit
def invM (a:List Int):List Int:=invI a (T6.map cutsM)
theorem invM_map (a:List Int):isMap (invM a) = true:=by
 refine isMap_of ?_ (mem_bd (invI_small a _))
 unfold invM
 rw [invI_len,List.length_map,T6_len]
end Go.Proofs.Ytfhmonacgmakbaa
namespace Go.Proofs.Ytfhmonacgmakbaa
open Go.RowKit
theorem cvM_map {a b:List Int} (hb:isMap b = true):isMap (cvM a b) = true:=by
 obtain ⟨hbl,hbb⟩:=isMap_bd hb
 refine isMap_of ?_ fun x hx => ?_
 ·unfold cvM;rw [List.length_cons,List.length_map,T6_len]
 ·unfold cvM at hx
  rcases List.mem_cons.1 hx with rfl|hx
  ·exact hbb 0
  ·obtain ⟨t,_,rfl⟩:=List.mem_map.1 hx
   exact mP_bd _
theorem unit_map:isMap unitMap = true:=by decide
def pwM (b:List Int):Nat→List Int
 | 0 => unitMap
 | n + 1 => cvM (pwM b n) b
theorem pwM_map {b:List Int} (hb:isMap b = true):∀ n,isMap (pwM b n) = true
 | 0 => unit_map
 | n + 1 => cvM_map hb
theorem pwM_len {b:List Int} (hb:isMap b = true) (n:Nat):((pwM b n).map eI).length = 38:=by rw [List.length_map,(isMap_bd (pwM_map hb n)).1]
def pwB (a:List Int) (k:Int):List Int:=if k < 0 then invM a else a
def pwK (a:List Int) (k:Int):List Int:=pwM (pwB a k) k.natAbs
def pwOf (a:List Int) (k:Int):List Int × Int:=if isMap a = true then (if inR k (-100) 100 = true then (if a.getD 0 0 = 1 then (pwK a k,0) else ([],5)) else ([],2)) else ([],1)
theorem pwB_map {a:List Int} (ha:isMap a = true) (k:Int):isMap (pwB a k) = true:=by
 unfold pwB;split
 ·exact invM_map a
 ·exact ha
theorem inR_bd {k a b:Int} (h:inR k a b = true):a ≤ k∧k ≤ b:=by
 unfold inR at h
 simpa using h
end Go.Proofs.Ytfhmonacgmakbaa
namespace Go.Proofs.Ytfhmonacgmakbaa
open Go.RowKit
set_option maxRecDepth 20000 in
set_option maxHeartbeats 16000000 in
theorem a_impl_PowerOfMap (a:List Int) (k:Int):AFn Try.prog 14 [eL a,eI k] (· = [.own 1 ((pwOf a k).1.map eI) true,.val (.int (pwOf a k).2)]):=by
 have hm:=a_impl_IsMap a
 have hin:=a_impl_inRange k (-100) 100
 simp only [eL,eI] at hm hin
 unfold pwOf
 by_cases h1:isMap a = true
 rotate_left
 ·have h1':isMap a = false:=by simpa using h1
  rw [h1'] at hm
  rw [if_neg h1]
  refine AFn.of_runs (cfg_ok 39) Try.func14 rfl rfl rfl (by simp only [List.length_cons,List.length_nil];decide) ?_
  have hres:Try.f14.results.toList = [.tmp 4,.tmp 5]:=rfl
  have hrts:Try.f14.resultTypes.toList = [22,2]:=rfl
  simp only [argRegs,argAV1,eL,eI,eLL,eB,Nat.zero_add,Nat.reduceAdd]
  intro M
  refine RunK.of ?_
  repeat' (first|with_reducible (first|refine Q1 ?_|refine Q2 ?_|refine Q3 ?_|refine Q4 ?_|refine Q5 ?_|refine Q6 ?_|refine Q7 ?_|refine Q8 ?_|refine Q9 ?_|refine Qa ?_|refine Qb ?_|refine Qc ?_|refine Qd ?_|refine Qe ?_|refine Qf ?_)|((with_reducible refine Qo ?_ ?_);focus rfl)|((with_reducible first|refine QT 32 (l:=?_) ?_ ?_|refine QF 32 (l:=?_) ?_ ?_);rotate_left 1;focus (simp only [Zu,Nat.reduceSub,Nat.reduceBEq];with_reducible rfl))|((with_reducible first|refine QS (cfg_ok 39) (Tab.none.at' 22 hm) (s':=?_) ?_ ?_|refine QC (b:=?_) ?_ ?_);rotate_left 1;focus ((with_reducible refine QW ?_);simp only [Zg,seval,if_true,if_false,reduceCtorEq,Nat.reduceEqDiff];with_reducible rfl)))
  (refine Ends.mk (by simp) (rs:=?_) (ks:=?_) hres hrts ?_ ?_ ?_;rotate_left 2;(focus (simp only [Ze,Zg,seval,if_true,if_false,reduceCtorEq,Nat.reduceEqDiff];with_reducible rfl));(focus simp);focus (first|with_reducible rfl|(simp only [Zv];done)))
 rw [h1] at hm
 rw [if_pos h1]
 obtain ⟨g1,g2⟩:=isMap_get0 h1
 by_cases h2:inR k (-100) 100 = true
 rotate_left
 ·have h2':inR k (-100) 100 = false:=by simpa using h2
  rw [h2'] at hin
  rw [if_neg h2]
  refine AFn.of_runs (cfg_ok 39) Try.func14 rfl rfl rfl (by simp only [List.length_cons,List.length_nil];decide) ?_
  have hres:Try.f14.results.toList = [.tmp 4,.tmp 5]:=rfl
  have hrts:Try.f14.resultTypes.toList = [22,2]:=rfl
  simp only [argRegs,argAV1,eL,eI,eLL,eB,Nat.zero_add,Nat.reduceAdd]
  intro M
  refine RunK.of ?_
  repeat' (first|with_reducible (first|refine Q1 ?_|refine Q2 ?_|refine Q3 ?_|refine Q4 ?_|refine Q5 ?_|refine Q6 ?_|refine Q7 ?_|refine Q8 ?_|refine Q9 ?_|refine Qa ?_|refine Qb ?_|refine Qc ?_|refine Qd ?_|refine Qe ?_|refine Qf ?_)|((with_reducible refine Qo ?_ ?_);focus rfl)|((with_reducible first|refine QT 32 (l:=?_) ?_ ?_|refine QF 32 (l:=?_) ?_ ?_);rotate_left 1;focus (simp only [Zu,Nat.reduceSub,Nat.reduceBEq];with_reducible rfl))|((with_reducible first|refine QS (cfg_ok 39) ((Tab.none.at' 22 hm).at' 23 hin) (s':=?_) ?_ ?_|refine QC (b:=?_) ?_ ?_);rotate_left 1;focus ((with_reducible refine QW ?_);simp only [Zg,seval,if_true,if_false,reduceCtorEq,Nat.reduceEqDiff];with_reducible rfl)))
  (refine Ends.mk (by simp) (rs:=?_) (ks:=?_) hres hrts ?_ ?_ ?_;rotate_left 2;(focus (simp only [Ze,Zg,seval,if_true,if_false,reduceCtorEq,Nat.reduceEqDiff];with_reducible rfl));(focus simp);focus (first|with_reducible rfl|(simp only [Zv];done)))
 rw [h2] at hin
 rw [if_pos h2]
 by_cases h3:a.getD 0 0 = 1
 rotate_left
 ·have i1:(a.getD 0 0 != 1) = true:=by simpa using h3
  rw [if_neg h3]
  refine AFn.of_runs (cfg_ok 39) Try.func14 rfl rfl rfl (by simp only [List.length_cons,List.length_nil];decide) ?_
  have hres:Try.f14.results.toList = [.tmp 4,.tmp 5]:=rfl
  have hrts:Try.f14.resultTypes.toList = [22,2]:=rfl
  simp only [argRegs,argAV1,eL,eI,eLL,eB,Nat.zero_add,Nat.reduceAdd]
  intro M
  refine RunK.of ?_
  repeat' (first|with_reducible (first|refine Q1 ?_|refine Q2 ?_|refine Q3 ?_|refine Q4 ?_|refine Q5 ?_|refine Q6 ?_|refine Q7 ?_|refine Q8 ?_|refine Q9 ?_|refine Qa ?_|refine Qb ?_|refine Qc ?_|refine Qd ?_|refine Qe ?_|refine Qf ?_)|((with_reducible refine Qo ?_ ?_);focus rfl)|((with_reducible first|refine QT 32 (l:=?_) ?_ ?_|refine QF 32 (l:=?_) ?_ ?_);rotate_left 1;focus (simp only [Zu,Nat.reduceSub,Nat.reduceBEq];with_reducible rfl))|((with_reducible first|refine QS (cfg_ok 39) ((Tab.none.at' 22 hm).at' 23 hin) (s':=?_) ?_ ?_|refine QC (b:=?_) ?_ ?_);rotate_left 1;focus ((with_reducible refine QW ?_);simp only [Zg,seval,if_true,if_false,reduceCtorEq,Nat.reduceEqDiff,g1,g2,i1,Int.toNat_zero];with_reducible rfl)))
  (refine Ends.mk (by simp) (rs:=?_) (ks:=?_) hres hrts ?_ ?_ ?_;rotate_left 2;(focus (simp only [Ze,Zg,seval,if_true,if_false,reduceCtorEq,Nat.reduceEqDiff];with_reducible rfl));(focus simp);focus (first|with_reducible rfl|(simp only [Zv];done)))
 have ia:(a.getD 0 0 != 1) = false:=by simpa using h3
 rw [if_pos h3]
 have hkb:=inR_bd h2
 have hu:=a_UnitMap
 have hul:(unitMap.map eI).length = 38:=rfl
 have hbm:=pwB_map h1 k
 have hcv:=fun (i:Nat) => a_convolve (T6.map eL) (pwM (pwB a k) i) (pwB a k) (pwM_map hbm i) hbm
 have hpl:=pwM_len hbm
 have hinv:=a_inverseMap (T6.map eL) a h1
 have e0:invI a (T6.map cutsM) = invM a:=rfl
 rw [e0] at hinv
 simp only [eL] at hinv hcv
 obtain ⟨T,hT⟩:∃ T:List (List D),T = T6.map eL:=⟨_,rfl⟩
 obtain ⟨X,hX⟩:∃ X,X = (T6.map cutsM).map eMs:=⟨_,rfl⟩
 have hfr:frmD = [.sl 1 T,.sl 1 X]:=by rw [hT,hX];rfl
 have hnf:=s_newForms
 rw [hfr] at hnf
 rw [← hT,← hX] at hinv
 rw [← hT,← hX] at hcv
 obtain ⟨n,hn⟩:∃ n,n = k.natAbs:=⟨_,rfl⟩
 have hpk:pwK a k = pwM (pwB a k) n:=by rw [hn];rfl
 rw [hpk]
 by_cases hneg:k < 0
 ·have e:pwB a k = invM a:=if_pos hneg
  have i0:(k < 0) = True:=eq_true hneg
  have hwn:w64 (0 - k) = (n:Int):=by rw [w64_eq (by omega)];omega
  have hil:((invM a).map eI).length = 38:=by rw [List.length_map,(isMap_bd (invM_map a)).1]
  rw [e] at hbm hcv hpl ⊢
  refine AFn.of_runs (cfg_ok 39) Try.func14 rfl rfl rfl (by simp only [List.length_cons,List.length_nil];decide) ?_
  have hres:Try.f14.results.toList = [.tmp 4,.tmp 5]:=rfl
  have hrts:Try.f14.resultTypes.toList = [22,2]:=rfl
  simp only [argRegs,argAV1,eL,eI,eLL,eB,Nat.zero_add,Nat.reduceAdd]
  intro M
  refine RunK.of ?_
  ((repeat' (first|with_reducible (first|refine Q1 ?_|refine Q2 ?_|refine Q3 ?_|refine Q4 ?_|refine Q5 ?_|refine Q6 ?_|refine Q7 ?_|refine Q8 ?_|refine Q9 ?_|refine Qa ?_|refine Qb ?_|refine Qc ?_|refine Qd ?_|refine Qe ?_|refine Qf ?_)|((with_reducible refine Qo ?_ ?_);focus rfl)|((with_reducible first|refine QT 32 (l:=?_) ?_ ?_|refine QF 32 (l:=?_) ?_ ?_);rotate_left 1;focus (simp only [Zu,Nat.reduceSub,Nat.reduceBEq];with_reducible rfl))|((with_reducible refine QC (b:=?_) ?_ ?_);rotate_left 1;focus ((with_reducible refine QW ?_);simp only [Zg,seval,if_true,if_false,reduceCtorEq,Nat.reduceEqDiff];with_reducible rfl))));((with_reducible refine QS (cfg_ok 39) Tab.none (s':=?_) ?_ ?_);rotate_left 1;focus ((with_reducible refine QW ?_);simp only [Zg,seval,if_true,if_false,reduceCtorEq,Nat.reduceEqDiff];with_reducible rfl));(repeat' (first|with_reducible (first|refine Q1 ?_|refine Q2 ?_|refine Q3 ?_|refine Q4 ?_|refine Q5 ?_|refine Q6 ?_|refine Q7 ?_|refine Q8 ?_|refine Q9 ?_|refine Qa ?_|refine Qb ?_|refine Qc ?_|refine Qd ?_|refine Qe ?_|refine Qf ?_)|((with_reducible refine Qo ?_ ?_);focus rfl)|((with_reducible first|refine QT 32 (l:=?_) ?_ ?_|refine QF 32 (l:=?_) ?_ ?_);rotate_left 1;focus (simp only [Zu,Nat.reduceSub,Nat.reduceBEq];with_reducible rfl))|((with_reducible refine QC (b:=?_) ?_ ?_);rotate_left 1;focus ((with_reducible refine QW ?_);simp only [Zg,seval,if_true,if_false,reduceCtorEq,Nat.reduceEqDiff];with_reducible rfl)))))
  ((repeat' (first|with_reducible (first|refine Q1 ?_|refine Q2 ?_|refine Q3 ?_|refine Q4 ?_|refine Q5 ?_|refine Q6 ?_|refine Q7 ?_|refine Q8 ?_|refine Q9 ?_|refine Qa ?_|refine Qb ?_|refine Qc ?_|refine Qd ?_|refine Qe ?_|refine Qf ?_)|((with_reducible refine Qo ?_ ?_);focus rfl)|((with_reducible first|refine QT 32 (l:=?_) ?_ ?_|refine QF 32 (l:=?_) ?_ ?_);rotate_left 1;focus (simp only [Zu,Nat.reduceSub,Nat.reduceBEq];with_reducible rfl))|((with_reducible refine QC (b:=?_) ?_ ?_);rotate_left 1;focus ((with_reducible refine QW ?_);simp only [Zg,seval,if_true,if_false,reduceCtorEq,Nat.reduceEqDiff];with_reducible rfl))));((with_reducible refine QS (cfg_ok 39) (Tab.none.at' 22 hm) (s':=?_) ?_ ?_);rotate_left 1;focus ((with_reducible refine QW ?_);simp only [Zg,seval,if_true,if_false,reduceCtorEq,Nat.reduceEqDiff];with_reducible rfl));(repeat' (first|with_reducible (first|refine Q1 ?_|refine Q2 ?_|refine Q3 ?_|refine Q4 ?_|refine Q5 ?_|refine Q6 ?_|refine Q7 ?_|refine Q8 ?_|refine Q9 ?_|refine Qa ?_|refine Qb ?_|refine Qc ?_|refine Qd ?_|refine Qe ?_|refine Qf ?_)|((with_reducible refine Qo ?_ ?_);focus rfl)|((with_reducible first|refine QT 32 (l:=?_) ?_ ?_|refine QF 32 (l:=?_) ?_ ?_);rotate_left 1;focus (simp only [Zu,Nat.reduceSub,Nat.reduceBEq];with_reducible rfl))|((with_reducible refine QC (b:=?_) ?_ ?_);rotate_left 1;focus ((with_reducible refine QW ?_);simp only [Zg,seval,if_true,if_false,reduceCtorEq,Nat.reduceEqDiff];with_reducible rfl)))))
  ((repeat' (first|with_reducible (first|refine Q1 ?_|refine Q2 ?_|refine Q3 ?_|refine Q4 ?_|refine Q5 ?_|refine Q6 ?_|refine Q7 ?_|refine Q8 ?_|refine Q9 ?_|refine Qa ?_|refine Qb ?_|refine Qc ?_|refine Qd ?_|refine Qe ?_|refine Qf ?_)|((with_reducible refine Qo ?_ ?_);focus rfl)|((with_reducible first|refine QT 32 (l:=?_) ?_ ?_|refine QF 32 (l:=?_) ?_ ?_);rotate_left 1;focus (simp only [Zu,Nat.reduceSub,Nat.reduceBEq];with_reducible rfl))|((with_reducible refine QC (b:=?_) ?_ ?_);rotate_left 1;focus ((with_reducible refine QW ?_);simp only [Zg,seval,if_true,if_false,reduceCtorEq,Nat.reduceEqDiff];with_reducible rfl))));((with_reducible refine QS (cfg_ok 39) (Tab.none.at' 23 hin) (s':=?_) ?_ ?_);rotate_left 1;focus ((with_reducible refine QW ?_);simp only [Zg,seval,if_true,if_false,reduceCtorEq,Nat.reduceEqDiff];with_reducible rfl));(repeat' (first|with_reducible (first|refine Q1 ?_|refine Q2 ?_|refine Q3 ?_|refine Q4 ?_|refine Q5 ?_|refine Q6 ?_|refine Q7 ?_|refine Q8 ?_|refine Q9 ?_|refine Qa ?_|refine Qb ?_|refine Qc ?_|refine Qd ?_|refine Qe ?_|refine Qf ?_)|((with_reducible refine Qo ?_ ?_);focus rfl)|((with_reducible first|refine QT 32 (l:=?_) ?_ ?_|refine QF 32 (l:=?_) ?_ ?_);rotate_left 1;focus (simp only [Zu,Nat.reduceSub,Nat.reduceBEq];with_reducible rfl))|((with_reducible refine QC (b:=?_) ?_ ?_);rotate_left 1;focus ((with_reducible refine QW ?_);simp only [Zg,seval,if_true,if_false,reduceCtorEq,Nat.reduceEqDiff];with_reducible rfl)))))
  ((repeat' (first|with_reducible (first|refine Q1 ?_|refine Q2 ?_|refine Q3 ?_|refine Q4 ?_|refine Q5 ?_|refine Q6 ?_|refine Q7 ?_|refine Q8 ?_|refine Q9 ?_|refine Qa ?_|refine Qb ?_|refine Qc ?_|refine Qd ?_|refine Qe ?_|refine Qf ?_)|((with_reducible refine Qo ?_ ?_);focus rfl)|((with_reducible first|refine QT 32 (l:=?_) ?_ ?_|refine QF 32 (l:=?_) ?_ ?_);rotate_left 1;focus (simp only [Zu,Nat.reduceSub,Nat.reduceBEq];with_reducible rfl))|((with_reducible refine QC (b:=?_) ?_ ?_);rotate_left 1;focus ((with_reducible refine QW ?_);simp only [Zg,seval,if_true,if_false,reduceCtorEq,Nat.reduceEqDiff,g1,g2,ia,Int.toNat_zero];with_reducible rfl))));((with_reducible refine QS (cfg_ok 39) Tab.none (s':=?_) ?_ ?_);rotate_left 1;focus ((with_reducible refine QW ?_);simp only [Zg,seval,if_true,if_false,reduceCtorEq,Nat.reduceEqDiff,g1,g2,ia,Int.toNat_zero];with_reducible rfl));(repeat' (first|with_reducible (first|refine Q1 ?_|refine Q2 ?_|refine Q3 ?_|refine Q4 ?_|refine Q5 ?_|refine Q6 ?_|refine Q7 ?_|refine Q8 ?_|refine Q9 ?_|refine Qa ?_|refine Qb ?_|refine Qc ?_|refine Qd ?_|refine Qe ?_|refine Qf ?_)|((with_reducible refine Qo ?_ ?_);focus rfl)|((with_reducible first|refine QT 32 (l:=?_) ?_ ?_|refine QF 32 (l:=?_) ?_ ?_);rotate_left 1;focus (simp only [Zu,Nat.reduceSub,Nat.reduceBEq];with_reducible rfl))|((with_reducible refine QC (b:=?_) ?_ ?_);rotate_left 1;focus ((with_reducible refine QW ?_);simp only [Zg,seval,if_true,if_false,reduceCtorEq,Nat.reduceEqDiff,g1,g2,ia,Int.toNat_zero];with_reducible rfl)))))
  ((repeat' (first|with_reducible (first|refine Q1 ?_|refine Q2 ?_|refine Q3 ?_|refine Q4 ?_|refine Q5 ?_|refine Q6 ?_|refine Q7 ?_|refine Q8 ?_|refine Q9 ?_|refine Qa ?_|refine Qb ?_|refine Qc ?_|refine Qd ?_|refine Qe ?_|refine Qf ?_)|((with_reducible refine Qo ?_ ?_);focus rfl)|((with_reducible first|refine QT 32 (l:=?_) ?_ ?_|refine QF 32 (l:=?_) ?_ ?_);rotate_left 1;focus (simp only [Zu,Nat.reduceSub,Nat.reduceBEq];with_reducible rfl))|((with_reducible refine QC (b:=?_) ?_ ?_);rotate_left 1;focus ((with_reducible refine QW ?_);simp only [Zg,seval,if_true,if_false,reduceCtorEq,Nat.reduceEqDiff];with_reducible rfl))));(with_reducible refine RunK.regCut (cfg_ok 39) Tab.none 0 (s1:=?_) ?_ ?_);rotate_left 1;(focus ((with_reducible refine QW ?_);simp only [Zg,seval,if_true,if_false,reduceCtorEq,Nat.reduceEqDiff];with_reducible rfl));simp only [List.toList_toArray,List.drop_succ_cons,List.drop_zero])
  refine ROps.callS (cfg_ok 39) rfl (d:=21) rfl (by decide) rfl rfl rfl rfl hnf ?_
  (refine ROps.opsT (cfg_ok 39) (T:=Tab.none.at' 24 hu) (s':=?_) ?_ ?_;rotate_left 1;focus (simp only [Zg,seval,if_true,if_false,reduceCtorEq,Nat.reduceEqDiff,hul,List.map_cons,List.map_nil];with_reducible rfl))
  repeat' (first|with_reducible (first|refine Q1 ?_|refine Q2 ?_|refine Q3 ?_|refine Q4 ?_|refine Q5 ?_|refine Q6 ?_|refine Q7 ?_|refine Q8 ?_|refine Q9 ?_|refine Qa ?_|refine Qb ?_|refine Qc ?_|refine Qd ?_|refine Qe ?_|refine Qf ?_)|((with_reducible refine Qo ?_ ?_);focus rfl)|((with_reducible first|refine QT 32 (l:=?_) ?_ ?_|refine QF 32 (l:=?_) ?_ ?_);rotate_left 1;focus (simp only [Zu,Nat.reduceSub,Nat.reduceBEq];with_reducible rfl))|((with_reducible first|refine QS (cfg_ok 39) (Tab.none.at' 25 hinv) (s':=?_) ?_ ?_|refine QC (b:=?_) ?_ ?_);rotate_left 1;focus ((with_reducible refine QW ?_);simp only [Zg,seval,if_true,if_false,reduceCtorEq,Nat.reduceEqDiff,i0,hwn,hul,hil];with_reducible rfl)))
  refine RunK.frz 0 ?_
  refine RunK.fits (s0:=⟨[(0,.c (.val (.sl 1 ((invM a).map eI)))),(6,.optr 6 0 0),(7,.c (.own 7 38)),(30,.c (.val (.int n))),(31,.c (.val (.int 0)))],[(6,.row 2 [[.sl 1 T,.sl 1 X]] false),(7,.row 1 (unitMap.map eI) true)]⟩) ?_ ?_
  ·(repeat' (first|with_reducible refine Qn|((with_reducible refine Qr ?_ ?_);focus (first|with_reducible rfl|(simp only [Zz,Nat.reduceBEq,St.frz,frzR,frzH,look,AV.frz,AC.frz,Obj.frz,drop];done)|rfl))|((with_reducible refine Qj (o':=?_) ?_ ?_ ?_);rotate_left 1;focus rfl)|((with_reducible refine Qw ?_ ?_);(focus (first|with_reducible rfl|(simp only [Zv,St.frz,frzR,frzH,look,AV.frz,AC.frz,Obj.frz,drop];done)));focus (first|exact id|exact (fun h => nomatch h)|exact (fun _ => rfl)))))
   all_goals first|exact ⟨rfl,rfl⟩|exact ⟨rfl,rfl,id⟩
  refine RunK.loop (β:=Nat) (γ:=Unit) (fun i => ⟨[(0,.c (.val (.sl 1 ((invM a).map eI)))),(6,.optr 6 0 0),(7,.c (.own 7 38)),(30,.c (.val (.int n))),(31,.c (.val (.int i)))],[(6,.row 2 [[.sl 1 T,.sl 1 X]] false),(7,.row 1 ((pwM (invM a) i).map eI) true)]⟩) (fun i => i ≤ n) (fun i => n - i)
   (fun _ => ⟨[(7,.c (.own 7 38))],[(7,.row 1 ((pwM (invM a) n).map eI) true)]⟩) (fun _ => True) 0 (Nat.zero_le _) ?_ ?_ ?_
  ·(repeat' (first|with_reducible refine Qn|((with_reducible refine Qr ?_ ?_);focus (first|with_reducible rfl|(simp only [Zz,Nat.reduceBEq,Int.natCast_zero,show pwM (invM a) 0 = unitMap from rfl];done)|rfl))|((with_reducible refine Qj (o':=?_) ?_ ?_ ?_);rotate_left 1;focus rfl)|((with_reducible refine Qw ?_ ?_);(focus (first|with_reducible rfl|(simp only [Zv,Int.natCast_zero,show pwM (invM a) 0 = unitMap from rfl];done)));focus (first|exact id|exact (fun h => nomatch h)|exact (fun _ => rfl)))))
  ·intro i hi
   have hi:i ≤ n:=hi
   have hw:=w64_succ (n:=i) (by omega)
   by_cases hin:i < n
   ·have i1:((i:Int) < (n:Int)) = True:=eq_true (by omega)
    have hci:AFn Try.prog 26 [[.sl 1 T,.sl 1 X],[.sl 1 ((pwM (invM a) i).map eI)],[.sl 1 ((invM a).map eI)]] (· = [.own 1 ((pwM (invM a) (i + 1)).map eI) true]):=hcv i
    have hpi:=hpl i
    have hpj:=hpl (i + 1)
    repeat' (first|with_reducible (first|refine Q1 ?_|refine Q2 ?_|refine Q3 ?_|refine Q4 ?_|refine Q5 ?_|refine Q6 ?_|refine Q7 ?_|refine Q8 ?_|refine Q9 ?_|refine Qa ?_|refine Qb ?_|refine Qc ?_|refine Qd ?_|refine Qe ?_|refine Qf ?_)|((with_reducible refine Qo ?_ ?_);focus rfl)|((with_reducible first|refine QT 32 (l:=?_) ?_ ?_|refine QF 32 (l:=?_) ?_ ?_);rotate_left 1;focus (simp only [Zu,Nat.reduceSub,Nat.reduceBEq];with_reducible rfl))|((with_reducible first|refine QS (cfg_ok 39) (Tab.none.at' 26 hci) (s':=?_) ?_ ?_|refine QC (b:=?_) ?_ ?_);rotate_left 1;focus ((with_reducible refine QW ?_);simp only [Zg,seval,if_true,if_false,reduceCtorEq,Nat.reduceEqDiff,i1,hw,hpi,hpj];with_reducible rfl)))
    refine roundK.on (i + 1) ⟨hin,by omega⟩ ?_
    (repeat' (first|with_reducible refine Qn|((with_reducible refine Qr ?_ ?_);focus (first|with_reducible rfl|(simp only [Zz,Nat.reduceBEq];done)|rfl))|((with_reducible refine Qj (o':=?_) ?_ ?_ ?_);rotate_left 1;focus rfl)|((with_reducible refine Qw ?_ ?_);(focus (first|with_reducible rfl|(simp only [Zv];done)));focus (first|exact id|exact (fun h => nomatch h)|exact (fun _ => rfl)))))
   ·obtain rfl:i = n:=by omega
    have i1:((i:Int) < (i:Int)) = False:=eq_false (by omega)
    repeat' (first|with_reducible (first|refine Q1 ?_|refine Q2 ?_|refine Q3 ?_|refine Q4 ?_|refine Q5 ?_|refine Q6 ?_|refine Q7 ?_|refine Q8 ?_|refine Q9 ?_|refine Qa ?_|refine Qb ?_|refine Qc ?_|refine Qd ?_|refine Qe ?_|refine Qf ?_)|((with_reducible refine Qo ?_ ?_);focus rfl)|((with_reducible first|refine QT 32 (l:=?_) ?_ ?_|refine QF 32 (l:=?_) ?_ ?_);rotate_left 1;focus (simp only [Zu,Nat.reduceSub,Nat.reduceBEq];with_reducible rfl))|((with_reducible first|refine QS (cfg_ok 39) Tab.none (s':=?_) ?_ ?_|refine QC (b:=?_) ?_ ?_);rotate_left 1;focus ((with_reducible refine QW ?_);simp only [Zg,seval,if_true,if_false,reduceCtorEq,Nat.reduceEqDiff,i1];with_reducible rfl)))
    refine roundK.out () trivial ?_
    (repeat' (first|with_reducible refine Qn|((with_reducible refine Qr ?_ ?_);focus (first|with_reducible rfl|(simp only [Zz,Nat.reduceBEq];done)|rfl))|((with_reducible refine Qj (o':=?_) ?_ ?_ ?_);rotate_left 1;focus rfl)|((with_reducible refine Qw ?_ ?_);(focus (first|with_reducible rfl|(simp only [Zv];done)));focus (first|exact id|exact (fun h => nomatch h)|exact (fun _ => rfl)))))
  ·rintro _ _
   repeat' (first|with_reducible (first|refine Q1 ?_|refine Q2 ?_|refine Q3 ?_|refine Q4 ?_|refine Q5 ?_|refine Q6 ?_|refine Q7 ?_|refine Q8 ?_|refine Q9 ?_|refine Qa ?_|refine Qb ?_|refine Qc ?_|refine Qd ?_|refine Qe ?_|refine Qf ?_)|((with_reducible refine Qo ?_ ?_);focus rfl)|((with_reducible first|refine QT 32 (l:=?_) ?_ ?_|refine QF 32 (l:=?_) ?_ ?_);rotate_left 1;focus (simp only [Zu,Nat.reduceSub,Nat.reduceBEq];with_reducible rfl))|((with_reducible first|refine QS (cfg_ok 39) Tab.none (s':=?_) ?_ ?_|refine QC (b:=?_) ?_ ?_);rotate_left 1;focus ((with_reducible refine QW ?_);simp only [Zg,seval,if_true,if_false,reduceCtorEq,Nat.reduceEqDiff];with_reducible rfl)))
   (refine Ends.mk (by simp) (rs:=?_) (ks:=?_) hres hrts ?_ ?_ ?_;rotate_left 2;(focus (simp only [Ze,Zg,seval,if_true,if_false,reduceCtorEq,Nat.reduceEqDiff];with_reducible rfl));(focus simp);focus (first|with_reducible rfl|(simp only [Zv];done)))
 ·have e:pwB a k = a:=if_neg hneg
  have i0:(k < 0) = False:=eq_false hneg
  have hkn:k = (n:Int):=by omega
  rw [e] at hbm hcv hpl ⊢
  subst hkn
  refine AFn.of_runs (cfg_ok 39) Try.func14 rfl rfl rfl (by simp only [List.length_cons,List.length_nil];decide) ?_
  have hres:Try.f14.results.toList = [.tmp 4,.tmp 5]:=rfl
  have hrts:Try.f14.resultTypes.toList = [22,2]:=rfl
  simp only [argRegs,argAV1,eL,eI,eLL,eB,Nat.zero_add,Nat.reduceAdd]
  intro M
  refine RunK.of ?_
  ((repeat' (first|with_reducible (first|refine Q1 ?_|refine Q2 ?_|refine Q3 ?_|refine Q4 ?_|refine Q5 ?_|refine Q6 ?_|refine Q7 ?_|refine Q8 ?_|refine Q9 ?_|refine Qa ?_|refine Qb ?_|refine Qc ?_|refine Qd ?_|refine Qe ?_|refine Qf ?_)|((with_reducible refine Qo ?_ ?_);focus rfl)|((with_reducible first|refine QT 32 (l:=?_) ?_ ?_|refine QF 32 (l:=?_) ?_ ?_);rotate_left 1;focus (simp only [Zu,Nat.reduceSub,Nat.reduceBEq];with_reducible rfl))|((with_reducible refine QC (b:=?_) ?_ ?_);rotate_left 1;focus ((with_reducible refine QW ?_);simp only [Zg,seval,if_true,if_false,reduceCtorEq,Nat.reduceEqDiff];with_reducible rfl))));((with_reducible refine QS (cfg_ok 39) Tab.none (s':=?_) ?_ ?_);rotate_left 1;focus ((with_reducible refine QW ?_);simp only [Zg,seval,if_true,if_false,reduceCtorEq,Nat.reduceEqDiff];with_reducible rfl));(repeat' (first|with_reducible (first|refine Q1 ?_|refine Q2 ?_|refine Q3 ?_|refine Q4 ?_|refine Q5 ?_|refine Q6 ?_|refine Q7 ?_|refine Q8 ?_|refine Q9 ?_|refine Qa ?_|refine Qb ?_|refine Qc ?_|refine Qd ?_|refine Qe ?_|refine Qf ?_)|((with_reducible refine Qo ?_ ?_);focus rfl)|((with_reducible first|refine QT 32 (l:=?_) ?_ ?_|refine QF 32 (l:=?_) ?_ ?_);rotate_left 1;focus (simp only [Zu,Nat.reduceSub,Nat.reduceBEq];with_reducible rfl))|((with_reducible refine QC (b:=?_) ?_ ?_);rotate_left 1;focus ((with_reducible refine QW ?_);simp only [Zg,seval,if_true,if_false,reduceCtorEq,Nat.reduceEqDiff];with_reducible rfl)))))
  ((repeat' (first|with_reducible (first|refine Q1 ?_|refine Q2 ?_|refine Q3 ?_|refine Q4 ?_|refine Q5 ?_|refine Q6 ?_|refine Q7 ?_|refine Q8 ?_|refine Q9 ?_|refine Qa ?_|refine Qb ?_|refine Qc ?_|refine Qd ?_|refine Qe ?_|refine Qf ?_)|((with_reducible refine Qo ?_ ?_);focus rfl)|((with_reducible first|refine QT 32 (l:=?_) ?_ ?_|refine QF 32 (l:=?_) ?_ ?_);rotate_left 1;focus (simp only [Zu,Nat.reduceSub,Nat.reduceBEq];with_reducible rfl))|((with_reducible refine QC (b:=?_) ?_ ?_);rotate_left 1;focus ((with_reducible refine QW ?_);simp only [Zg,seval,if_true,if_false,reduceCtorEq,Nat.reduceEqDiff];with_reducible rfl))));((with_reducible refine QS (cfg_ok 39) (Tab.none.at' 22 hm) (s':=?_) ?_ ?_);rotate_left 1;focus ((with_reducible refine QW ?_);simp only [Zg,seval,if_true,if_false,reduceCtorEq,Nat.reduceEqDiff];with_reducible rfl));(repeat' (first|with_reducible (first|refine Q1 ?_|refine Q2 ?_|refine Q3 ?_|refine Q4 ?_|refine Q5 ?_|refine Q6 ?_|refine Q7 ?_|refine Q8 ?_|refine Q9 ?_|refine Qa ?_|refine Qb ?_|refine Qc ?_|refine Qd ?_|refine Qe ?_|refine Qf ?_)|((with_reducible refine Qo ?_ ?_);focus rfl)|((with_reducible first|refine QT 32 (l:=?_) ?_ ?_|refine QF 32 (l:=?_) ?_ ?_);rotate_left 1;focus (simp only [Zu,Nat.reduceSub,Nat.reduceBEq];with_reducible rfl))|((with_reducible refine QC (b:=?_) ?_ ?_);rotate_left 1;focus ((with_reducible refine QW ?_);simp only [Zg,seval,if_true,if_false,reduceCtorEq,Nat.reduceEqDiff];with_reducible rfl)))))
  ((repeat' (first|with_reducible (first|refine Q1 ?_|refine Q2 ?_|refine Q3 ?_|refine Q4 ?_|refine Q5 ?_|refine Q6 ?_|refine Q7 ?_|refine Q8 ?_|refine Q9 ?_|refine Qa ?_|refine Qb ?_|refine Qc ?_|refine Qd ?_|refine Qe ?_|refine Qf ?_)|((with_reducible refine Qo ?_ ?_);focus rfl)|((with_reducible first|refine QT 32 (l:=?_) ?_ ?_|refine QF 32 (l:=?_) ?_ ?_);rotate_left 1;focus (simp only [Zu,Nat.reduceSub,Nat.reduceBEq];with_reducible rfl))|((with_reducible refine QC (b:=?_) ?_ ?_);rotate_left 1;focus ((with_reducible refine QW ?_);simp only [Zg,seval,if_true,if_false,reduceCtorEq,Nat.reduceEqDiff];with_reducible rfl))));((with_reducible refine QS (cfg_ok 39) (Tab.none.at' 23 hin) (s':=?_) ?_ ?_);rotate_left 1;focus ((with_reducible refine QW ?_);simp only [Zg,seval,if_true,if_false,reduceCtorEq,Nat.reduceEqDiff];with_reducible rfl));(repeat' (first|with_reducible (first|refine Q1 ?_|refine Q2 ?_|refine Q3 ?_|refine Q4 ?_|refine Q5 ?_|refine Q6 ?_|refine Q7 ?_|refine Q8 ?_|refine Q9 ?_|refine Qa ?_|refine Qb ?_|refine Qc ?_|refine Qd ?_|refine Qe ?_|refine Qf ?_)|((with_reducible refine Qo ?_ ?_);focus rfl)|((with_reducible first|refine QT 32 (l:=?_) ?_ ?_|refine QF 32 (l:=?_) ?_ ?_);rotate_left 1;focus (simp only [Zu,Nat.reduceSub,Nat.reduceBEq];with_reducible rfl))|((with_reducible refine QC (b:=?_) ?_ ?_);rotate_left 1;focus ((with_reducible refine QW ?_);simp only [Zg,seval,if_true,if_false,reduceCtorEq,Nat.reduceEqDiff];with_reducible rfl)))))
  ((repeat' (first|with_reducible (first|refine Q1 ?_|refine Q2 ?_|refine Q3 ?_|refine Q4 ?_|refine Q5 ?_|refine Q6 ?_|refine Q7 ?_|refine Q8 ?_|refine Q9 ?_|refine Qa ?_|refine Qb ?_|refine Qc ?_|refine Qd ?_|refine Qe ?_|refine Qf ?_)|((with_reducible refine Qo ?_ ?_);focus rfl)|((with_reducible first|refine QT 32 (l:=?_) ?_ ?_|refine QF 32 (l:=?_) ?_ ?_);rotate_left 1;focus (simp only [Zu,Nat.reduceSub,Nat.reduceBEq];with_reducible rfl))|((with_reducible refine QC (b:=?_) ?_ ?_);rotate_left 1;focus ((with_reducible refine QW ?_);simp only [Zg,seval,if_true,if_false,reduceCtorEq,Nat.reduceEqDiff,g1,g2,ia,Int.toNat_zero];with_reducible rfl))));((with_reducible refine QS (cfg_ok 39) Tab.none (s':=?_) ?_ ?_);rotate_left 1;focus ((with_reducible refine QW ?_);simp only [Zg,seval,if_true,if_false,reduceCtorEq,Nat.reduceEqDiff,g1,g2,ia,Int.toNat_zero];with_reducible rfl));(repeat' (first|with_reducible (first|refine Q1 ?_|refine Q2 ?_|refine Q3 ?_|refine Q4 ?_|refine Q5 ?_|refine Q6 ?_|refine Q7 ?_|refine Q8 ?_|refine Q9 ?_|refine Qa ?_|refine Qb ?_|refine Qc ?_|refine Qd ?_|refine Qe ?_|refine Qf ?_)|((with_reducible refine Qo ?_ ?_);focus rfl)|((with_reducible first|refine QT 32 (l:=?_) ?_ ?_|refine QF 32 (l:=?_) ?_ ?_);rotate_left 1;focus (simp only [Zu,Nat.reduceSub,Nat.reduceBEq];with_reducible rfl))|((with_reducible refine QC (b:=?_) ?_ ?_);rotate_left 1;focus ((with_reducible refine QW ?_);simp only [Zg,seval,if_true,if_false,reduceCtorEq,Nat.reduceEqDiff,g1,g2,ia,Int.toNat_zero];with_reducible rfl)))))
  ((repeat' (first|with_reducible (first|refine Q1 ?_|refine Q2 ?_|refine Q3 ?_|refine Q4 ?_|refine Q5 ?_|refine Q6 ?_|refine Q7 ?_|refine Q8 ?_|refine Q9 ?_|refine Qa ?_|refine Qb ?_|refine Qc ?_|refine Qd ?_|refine Qe ?_|refine Qf ?_)|((with_reducible refine Qo ?_ ?_);focus rfl)|((with_reducible first|refine QT 32 (l:=?_) ?_ ?_|refine QF 32 (l:=?_) ?_ ?_);rotate_left 1;focus (simp only [Zu,Nat.reduceSub,Nat.reduceBEq];with_reducible rfl))|((with_reducible refine QC (b:=?_) ?_ ?_);rotate_left 1;focus ((with_reducible refine QW ?_);simp only [Zg,seval,if_true,if_false,reduceCtorEq,Nat.reduceEqDiff];with_reducible rfl))));(with_reducible refine RunK.regCut (cfg_ok 39) Tab.none 0 (s1:=?_) ?_ ?_);rotate_left 1;(focus ((with_reducible refine QW ?_);simp only [Zg,seval,if_true,if_false,reduceCtorEq,Nat.reduceEqDiff];with_reducible rfl));simp only [List.toList_toArray,List.drop_succ_cons,List.drop_zero])
  refine ROps.callS (cfg_ok 39) rfl (d:=21) rfl (by decide) rfl rfl rfl rfl hnf ?_
  (refine ROps.opsT (cfg_ok 39) (T:=Tab.none.at' 24 hu) (s':=?_) ?_ ?_;rotate_left 1;focus (simp only [Zg,seval,if_true,if_false,reduceCtorEq,Nat.reduceEqDiff,hul,List.map_cons,List.map_nil];with_reducible rfl))
  repeat' (first|with_reducible (first|refine Q1 ?_|refine Q2 ?_|refine Q3 ?_|refine Q4 ?_|refine Q5 ?_|refine Q6 ?_|refine Q7 ?_|refine Q8 ?_|refine Q9 ?_|refine Qa ?_|refine Qb ?_|refine Qc ?_|refine Qd ?_|refine Qe ?_|refine Qf ?_)|((with_reducible refine Qo ?_ ?_);focus rfl)|((with_reducible first|refine QT 32 (l:=?_) ?_ ?_|refine QF 32 (l:=?_) ?_ ?_);rotate_left 1;focus (simp only [Zu,Nat.reduceSub,Nat.reduceBEq];with_reducible rfl))|((with_reducible first|refine QS (cfg_ok 39) Tab.none (s':=?_) ?_ ?_|refine QC (b:=?_) ?_ ?_);rotate_left 1;focus ((with_reducible refine QW ?_);simp only [Zg,seval,if_true,if_false,reduceCtorEq,Nat.reduceEqDiff,i0,hul];with_reducible rfl)))
  refine RunK.loop (β:=Nat) (γ:=Unit) (fun i => ⟨[(0,.c (.val (.sl 1 ((a).map eI)))),(6,.optr 6 0 0),(7,.c (.own 7 38)),(30,.c (.val (.int n))),(31,.c (.val (.int i)))],[(6,.row 2 [[.sl 1 T,.sl 1 X]] false),(7,.row 1 ((pwM (a) i).map eI) true)]⟩) (fun i => i ≤ n) (fun i => n - i)
   (fun _ => ⟨[(7,.c (.own 7 38))],[(7,.row 1 ((pwM (a) n).map eI) true)]⟩) (fun _ => True) 0 (Nat.zero_le _) ?_ ?_ ?_
  ·(repeat' (first|with_reducible refine Qn|((with_reducible refine Qr ?_ ?_);focus (first|with_reducible rfl|(simp only [Zz,Nat.reduceBEq,Int.natCast_zero,show pwM (a) 0 = unitMap from rfl];done)|rfl))|((with_reducible refine Qj (o':=?_) ?_ ?_ ?_);rotate_left 1;focus rfl)|((with_reducible refine Qw ?_ ?_);(focus (first|with_reducible rfl|(simp only [Zv,Int.natCast_zero,show pwM (a) 0 = unitMap from rfl];done)));focus (first|exact id|exact (fun h => nomatch h)|exact (fun _ => rfl)))))
  ·intro i hi
   have hi:i ≤ n:=hi
   have hw:=w64_succ (n:=i) (by omega)
   by_cases hin:i < n
   ·have i1:((i:Int) < (n:Int)) = True:=eq_true (by omega)
    have hci:AFn Try.prog 26 [[.sl 1 T,.sl 1 X],[.sl 1 ((pwM (a) i).map eI)],[.sl 1 ((a).map eI)]] (· = [.own 1 ((pwM (a) (i + 1)).map eI) true]):=hcv i
    have hpi:=hpl i
    have hpj:=hpl (i + 1)
    repeat' (first|with_reducible (first|refine Q1 ?_|refine Q2 ?_|refine Q3 ?_|refine Q4 ?_|refine Q5 ?_|refine Q6 ?_|refine Q7 ?_|refine Q8 ?_|refine Q9 ?_|refine Qa ?_|refine Qb ?_|refine Qc ?_|refine Qd ?_|refine Qe ?_|refine Qf ?_)|((with_reducible refine Qo ?_ ?_);focus rfl)|((with_reducible first|refine QT 32 (l:=?_) ?_ ?_|refine QF 32 (l:=?_) ?_ ?_);rotate_left 1;focus (simp only [Zu,Nat.reduceSub,Nat.reduceBEq];with_reducible rfl))|((with_reducible first|refine QS (cfg_ok 39) (Tab.none.at' 26 hci) (s':=?_) ?_ ?_|refine QC (b:=?_) ?_ ?_);rotate_left 1;focus ((with_reducible refine QW ?_);simp only [Zg,seval,if_true,if_false,reduceCtorEq,Nat.reduceEqDiff,i1,hw,hpi,hpj];with_reducible rfl)))
    refine roundK.on (i + 1) ⟨hin,by omega⟩ ?_
    (repeat' (first|with_reducible refine Qn|((with_reducible refine Qr ?_ ?_);focus (first|with_reducible rfl|(simp only [Zz,Nat.reduceBEq];done)|rfl))|((with_reducible refine Qj (o':=?_) ?_ ?_ ?_);rotate_left 1;focus rfl)|((with_reducible refine Qw ?_ ?_);(focus (first|with_reducible rfl|(simp only [Zv];done)));focus (first|exact id|exact (fun h => nomatch h)|exact (fun _ => rfl)))))
   ·obtain rfl:i = n:=by omega
    have i1:((i:Int) < (i:Int)) = False:=eq_false (by omega)
    repeat' (first|with_reducible (first|refine Q1 ?_|refine Q2 ?_|refine Q3 ?_|refine Q4 ?_|refine Q5 ?_|refine Q6 ?_|refine Q7 ?_|refine Q8 ?_|refine Q9 ?_|refine Qa ?_|refine Qb ?_|refine Qc ?_|refine Qd ?_|refine Qe ?_|refine Qf ?_)|((with_reducible refine Qo ?_ ?_);focus rfl)|((with_reducible first|refine QT 32 (l:=?_) ?_ ?_|refine QF 32 (l:=?_) ?_ ?_);rotate_left 1;focus (simp only [Zu,Nat.reduceSub,Nat.reduceBEq];with_reducible rfl))|((with_reducible first|refine QS (cfg_ok 39) Tab.none (s':=?_) ?_ ?_|refine QC (b:=?_) ?_ ?_);rotate_left 1;focus ((with_reducible refine QW ?_);simp only [Zg,seval,if_true,if_false,reduceCtorEq,Nat.reduceEqDiff,i1];with_reducible rfl)))
    refine roundK.out () trivial ?_
    (repeat' (first|with_reducible refine Qn|((with_reducible refine Qr ?_ ?_);focus (first|with_reducible rfl|(simp only [Zz,Nat.reduceBEq];done)|rfl))|((with_reducible refine Qj (o':=?_) ?_ ?_ ?_);rotate_left 1;focus rfl)|((with_reducible refine Qw ?_ ?_);(focus (first|with_reducible rfl|(simp only [Zv];done)));focus (first|exact id|exact (fun h => nomatch h)|exact (fun _ => rfl)))))
  ·rintro _ _
   repeat' (first|with_reducible (first|refine Q1 ?_|refine Q2 ?_|refine Q3 ?_|refine Q4 ?_|refine Q5 ?_|refine Q6 ?_|refine Q7 ?_|refine Q8 ?_|refine Q9 ?_|refine Qa ?_|refine Qb ?_|refine Qc ?_|refine Qd ?_|refine Qe ?_|refine Qf ?_)|((with_reducible refine Qo ?_ ?_);focus rfl)|((with_reducible first|refine QT 32 (l:=?_) ?_ ?_|refine QF 32 (l:=?_) ?_ ?_);rotate_left 1;focus (simp only [Zu,Nat.reduceSub,Nat.reduceBEq];with_reducible rfl))|((with_reducible first|refine QS (cfg_ok 39) Tab.none (s':=?_) ?_ ?_|refine QC (b:=?_) ?_ ?_);rotate_left 1;focus ((with_reducible refine QW ?_);simp only [Zg,seval,if_true,if_false,reduceCtorEq,Nat.reduceEqDiff];with_reducible rfl)))
   (refine Ends.mk (by simp) (rs:=?_) (ks:=?_) hres hrts ?_ ?_ ?_;rotate_left 2;(focus (simp only [Ze,Zg,seval,if_true,if_false,reduceCtorEq,Nat.reduceEqDiff];with_reducible rfl));(focus simp);focus (first|with_reducible rfl|(simp only [Zv];done)))
end Go.Proofs.Ytfhmonacgmakbaa
namespace Go.Proofs.Ytfhmonacgmakbaa
open Go.RowKit
def numITo (f:Nat) (t:List Int) (k step j:Nat):List Int:=((brs t).take j).foldl (fun out b => numStep k step out (numI f b k step)) (List.replicate k 1)
theorem numITo_succ (f:Nat) (t:List Int) (k step j:Nat) (h:j < (brs t).length):numITo f t k step (j + 1) = numStep k step (numITo f t k step j) (numI f (brs t)[j] k step):=by
 unfold numITo
 rw [List.take_succ_eq_append_getElem h,List.foldl_append];rfl
theorem numITo_all (f:Nat) (t:List Int) (k step j:Nat) (h:(brs t).length ≤ j):numITo f t k step j = numI (f + 1) t k step:=by
 unfold numITo
 rw [List.take_of_length_le h];rfl
theorem numITo_len (f:Nat) (t:List Int) (k step:Nat):∀ j,j ≤ (brs t).length→(numITo f t k step j).length = k
 | 0,_ => by simp [numITo]
 | j + 1,h => by rw [numITo_succ f t k step j h,numStep_len]
theorem numITo_in (f:Nat) (t:List Int) (k step:Nat):∀ j,j ≤ (brs t).length→∀ x ∈ numITo f t k step j,In64 x
 | 0,_ => by intro x hx;simp [numITo] at hx;rw [hx.2];decide
 | j + 1,h => by
  intro x hx
  rw [numITo_succ f t k step j h] at hx
  simp [numStep] at hx
  obtain ⟨_,_,rfl⟩:=hx
  exact in64_wrap _
theorem ones_set (k j:Nat) (h:j < k):(List.replicate j (1:Int) ++ List.replicate (k - j) 0).set j 1 = List.replicate (j + 1) 1 ++ List.replicate (k - (j + 1)) 0:=by
 rw [List.set_append_right _ _ (by simp),List.length_replicate,Nat.sub_self]
 obtain ⟨m,hm⟩:∃ m,k - j = m + 1:=⟨k - j - 1,by omega⟩
 rw [hm,show k - (j + 1) = m by omega,List.replicate_succ,List.set_cons_zero,List.replicate_succ',List.append_assoc]
 rfl
set_option maxRecDepth 100000 in
set_option maxHeartbeats 2000000 in
theorem c_impl_numberings (k step:Nat) (hk:k ≤ 10) (hg:step ≤ 1):∀ (f:Nat) (t:List Int) (v:Value) (w:World),Rd (RS RI) w [v] t→LevP t→t.length ≤ f→f ≤ 1000 →
  Calls Try.prog 41 #[v,.int .i64 k,.int .i64 step] w (RetO (RS RI) w (numI f t k step)):=by
 intro f
 induction f with
 | zero => intro t v w h hl hf;have:=hl.pos;omega
 | succ f ih =>
  intro t v w h hl hf hf1
  obtain ⟨oa,c1,hv,_,_⟩:=h.val
  subst hv
  have IH:=Lib.hid ih
  clear ih
  have hnb:=brs_many (t:=t)
  go_enter Try.func41,Try.ntmps41
  go_wp2_with (at_make;refine wpList_makeI rfl _ _ 22 rfl 2 tI64 _ _ _ _ k rfl rfl rfl rfl (by omega) ?_;intro w1 hrow0 hb)
  go_wp2_with fail
  go_loopw [19] (fun i wr => ∃ j:Nat,j ≤ k∧i = .int .i64 j∧Row wr (.slice (some ⟨w.heap.size,0,none⟩) k k) 1 k ((List.replicate j (1:Int) ++ List.replicate (k - j) 0).map (Value.int .i64)) (some w.heap.size)∧Below w.heap.size w wr) (fun i _ => k - (intOf i).toNat)
  case atStart => exact ⟨0,Nat.zero_le _,rfl,by simpa using hrow0,hb⟩
  case round =>
   obtain ⟨j,hj,rfl,hrow,hbel⟩:=hrel
   by_cases hlt:j < k
   ·have hfz:=hrow.frozen j
    have hx:j < (List.replicate j (1:Int) ++ List.replicate (k - j) 0).length:=by simp;omega
    have hcell:=hrow.cells j ((List.replicate j (1:Int) ++ List.replicate (k - j) 0)[j] |> Value.int .i64) (by rw [List.getElem?_map,List.getElem?_eq_getElem hx];rfl)
    have hst:=(hrow.store j (.int .i64 1)).1
    rw [map_set_int,ones_set k j hlt] at hst
    have hbel':Below w.heap.size w (wr.setCell ⟨w.heap.size,j,none⟩ (.int .i64 1)):=hbel.setCell (Nat.le_refl _) _
    generalize ((List.replicate j (1:Int) ++ List.replicate (k - j) 0)[j] |> Value.int .i64) = old at hcell
    go_wp2_with fail
    go_roundw
    case rel => exact ⟨j + 1,by omega,by go_num,hst,hbel'⟩
    case measure => simp [intOf];omega
   ·have hje:j = k:=by omega
    have hfin:Row wr (.slice (some ⟨w.heap.size,0,none⟩) k k) 1 k ((numITo f t k step 0).map (Value.int .i64)) (some w.heap.size):=by
     have e:List.replicate j (1:Int) ++ List.replicate (k - j) 0 = numITo f t k step 0:=by rw [hje];simp [numITo]
     rw [e] at hrow;exact hrow
    clear hje hrow
    go_wp2_with fail
    obtain ⟨wa,rfl⟩:∃ wa:World,wa = wr:=⟨_,rfl⟩
    have hsr:=hbel.size
    have hgl:=hfin.lt _ rfl
    refine (c_impl_branchesOf _ t wa (h.below hbel (Nat.le_refl _)) hl (by omega)).mono ?_
    rintro e w2 ⟨vb,rfl,ob,B2⟩
    have s2:=B2.size
    obtain ⟨oa2,c2,rfl,hc2,hc3⟩:=ob.val
    have hfin2:=hfin.frame (w':=w2) (fun g hg => by cases hg;exact B2.block _ hgl)
    have hbel2:=hbel.trans (B2.mono hsr)
    go_wp2_with fail
    go_loopw [29] (fun i wq => ∃ q:Nat,q ≤ (brs t).length∧i = .int .i64 q∧Row wq (.slice (some ⟨w.heap.size,0,none⟩) k k) 1 k ((numITo f t k step q).map (Value.int .i64)) (some w.heap.size)∧Own (RS (RS RI)) wa.heap.size w2.heap.size wq [.slice oa2 (brs t).length c2] (brs t)∧Below w.heap.size w wq∧w2.heap.size ≤ wq.heap.size) (fun i _ => (brs t).length - (intOf i).toNat)
    case atStart => exact ⟨0,Nat.zero_le _,rfl,hfin2,ob,hbel2,by omega⟩
    case round =>
     obtain ⟨q,hq,rfl,hrowq,hob,hbelq,hszq⟩:=hrel
     obtain ⟨wo,rfl⟩:∃ wo:World,wo = wr:=⟨_,rfl⟩
     by_cases hlq:q < (brs t).length
     ·have hsucc:=Lib.hid (numITo_succ f t k step q hlq)
      have hlen:=Lib.hid (numITo_len f t k step q hq)
      have hlen1:=Lib.hid (numITo_len f t k step (q + 1) hlq)
      have hbl:=brs_lev hl _ (List.getElem_mem hlq)
      have hbs:=brs_short hl _ (List.getElem_mem hlq)
      obtain ⟨g,cap,h0,hv,_,_,hg1,hg2,hcell,hel⟩:=hob.elem q hlq
      simp only [Value.slice.injEq,true_and] at hv
      obtain ⟨rfl,rfl⟩:=hv
      go_wp2_with fail
      refine (IH.out _ h0 _ hel.rd hbl (by omega) (by omega)).mono ?_
      rintro e w3 ⟨vl,rfl,ol,B3⟩
      have s3:=B3.size
      obtain ⟨oa3,c3,hvl,_,_⟩:=ol.val
      rw [numI_len] at hvl
      subst hvl
      have hrow3:=hrowq.frame (w':=w3) (fun g hg => by cases hg;exact B3.block _ (by omega))
      have hob3:=hob.below B3 (by omega)
      have hbel3:=hbelq.trans (B3.mono (by omega))
      go_wp2_with fail
      go_loopw [39] (fun i wx => ∃ x:Nat,x ≤ k∧i = .int .i64 x∧Row wx (.slice (some ⟨w.heap.size,0,none⟩) k k) 1 k (((numITo f t k step (q + 1)).take x ++ (numITo f t k step q).drop x).map (Value.int .i64)) (some w.heap.size)∧Own (RS RI) wo.heap.size w3.heap.size wx [.slice oa3 k c3] (numI f (brs t)[q] k step)∧Own (RS (RS RI)) wa.heap.size w2.heap.size wx [.slice (some ⟨g,0,none⟩) (brs t).length c2] (brs t)∧Below w.heap.size w wx∧w3.heap.size ≤ wx.heap.size) (fun i _ => k - (intOf i).toNat)
      case atStart => exact ⟨0,Nat.zero_le _,rfl,by simpa using hrow3,ol,hob3,hbel3,by omega⟩
      case round =>
       obtain ⟨x,hx,rfl,hrowx,holx,hobx,hbelx,hszx⟩:=hrel
       obtain ⟨wo2,rfl⟩:∃ wo2:World,wo2 = wr:=⟨_,rfl⟩
       by_cases hlx:x < k
       ·obtain ⟨oai,ci,I⟩:=holx.rd.ints
        have hvi:=I.val
        rw [numI_len] at hvi
        simp only [Value.slice.injEq,true_and] at hvi
        obtain ⟨rfl,rfl⟩:=hvi
        have hll:=numI_len f (brs t)[q] k step
        obtain ⟨bl,ofl,rfl,hbl1,hcl⟩:=I.get (k:=x) (by rw [hll];exact hlx)
        have Hll:=Lib.hid hll
        have HCL:=Lib.hid hcl
        clear hll hcl
        go_wp2_with fail
        go_loop [13,14] (fun s y => ∃ m:Nat,y = .int .i64 (x + step + m)∧m ≤ k - (x + step)∧s = .int .i64 (sumW (((numI f (brs t)[q] k step).drop (x + step)).take m))) (fun _ y => 100 - (intOf y).toNat)
        case atStart => exact ⟨0,by simp,Nat.zero_le _,rfl⟩
        case round =>
         obtain ⟨m,rfl,hm,rfl⟩:=hrel
         by_cases hly:x + step + m < k
         ·have hle:(x:Int) + (step:Int) + (m:Int) < (k:Int):=by omega
          have hge:(0:Int) ≤ (x:Int) + (step:Int) + (m:Int):=by omega
          have hc:=HCL.out (x + step + m) (by rw [Hll.out];exact hly)
          have ht:((x:Int) + (step:Int) + (m:Int)).toNat = x + step + m:=by omega
          have hxl:x + step + m < (numI f (brs t)[q] k step).length:=by rw [Hll.out];exact hly
          have hsum:Hid (sumW (((numI f (brs t)[q] k step).drop (x + step)).take (m + 1)) = wrap64 (sumW (((numI f (brs t)[q] k step).drop (x + step)).take m) + (numI f (brs t)[q] k step)[x + step + m])):=by
           show sumW _ = _
           rw [List.take_succ_eq_append_getElem (by simp;omega),sumW_snoc]
           simp
          go_wp2_with fail
          go_round
          case rel => exact ⟨m + 1,by go_num,by omega,by rw [hsum.out]⟩
          case measure => simp [intOf];omega
         ·have hle:¬ ((x:Int) + (step:Int) + (m:Int) < (k:Int)):=by omega
          have hlenq:=hlen.out
          have hlen1q:=hlen1.out
          have hxq:x < (numITo f t k step q).length:=by rw [hlenq];exact hlx
          have hxq1:x < (numITo f t k step (q + 1)).length:=by rw [hlen1q];exact hlx
          have hxa:x < ((numITo f t k step (q + 1)).take x ++ (numITo f t k step q).drop x).length:=by simp;omega
          have hval:((numITo f t k step (q + 1)).take x ++ (numITo f t k step q).drop x)[x] = (numITo f t k step q)[x]:=by
           rw [List.getElem_append_right (by simp;omega)]
           simp
           congr 1
           simp;omega
          have hnew:(numITo f t k step (q + 1))[x] = wrap64 ((numITo f t k step q)[x] * sumW (((numI f (brs t)[q] k step).drop (x + step)).take m)):=by
           have e:=hsucc.out
           have e2:(numITo f t k step (q + 1))[x] = (numStep k step (numITo f t k step q) (numI f (brs t)[q] k step))[x]'(by rw [numStep_len];exact hlx):=by simp only [e]
           rw [e2]
           have e3:((numI f (brs t)[q] k step).drop (x + step)).take m = (numI f (brs t)[q] k step).drop (x + step):=List.take_of_length_le (by simp;rw [Hll.out];omega)
           rw [e3]
           simp [numStep,hxq]
          have hcell2:=hrowx.cells x (.int .i64 (numITo f t k step q)[x]) (by rw [List.getElem?_map,List.getElem?_eq_getElem hxa,hval];rfl)
          have hfz:=hrowx.frozen x
          have hst:=(hrowx.store x (.int .i64 (numITo f t k step (q + 1))[x])).1
          rw [map_set_int,set_take _ _ _ hxq1 hxq] at hst
          have hch:Chg w.heap.size (w.heap.size + 1) wo2 (wo2.setCell ⟨w.heap.size,x,none⟩ (.int .i64 (numITo f t k step (q + 1))[x])):=Chg.of_grown (hrowx.store x (.int .i64 (numITo f t k step (q + 1))[x])).2 (fun g hg => by cases hg;omega)
          have hol':=holx.apart hch (by omega)
          have hob':=hobx.apart hch (by omega)
          have hbel':Below w.heap.size w (wo2.setCell ⟨w.heap.size,x,none⟩ (.int .i64 (numITo f t k step (q + 1))[x])):=hbelx.setCell (Nat.le_refl _) _
          have hsz':=hch.size
          rw [hnew] at hst hol' hob' hbel' hsz'
          clear hch hval hnew hlenq hlen1q
          go_wp2_with fail
          go_roundw
          case rel => exact ⟨x + 1,by omega,by go_num,hst,hol',hob',hbel',by omega⟩
          case measure => simp [intOf];omega
       ·have hxe:x = k:=by omega
        have hfinx:Row wo2 (.slice (some ⟨w.heap.size,0,none⟩) k k) 1 k ((numITo f t k step (q + 1)).map (Value.int .i64)) (some w.heap.size):=by
         have e:(numITo f t k step (q + 1)).take x ++ (numITo f t k step q).drop x = numITo f t k step (q + 1):=by
          rw [List.take_of_length_le (by rw [hlen1.out];omega),List.drop_of_length_le (by rw [hlen.out];omega),List.append_nil]
         rw [e] at hrowx;exact hrowx
        clear hxe hrowx
        go_wp2_with fail
        go_roundw
        case rel => exact ⟨q + 1,by omega,by go_num,hfinx,hobx,hbelx,by omega⟩
        case measure => simp [intOf];omega
     ·have hfinq:Own (RS RI) w.heap.size wo.heap.size wo [.slice (some ⟨w.heap.size,0,none⟩) k k] (numI (f + 1) t k step):=by
       have e:=numITo_all f t k step q (by omega)
       rw [← e]
       have hl2:=numITo_len f t k step q hq
       have hr:Row wo (.slice (some ⟨w.heap.size,0,none⟩) k k) 1 (numITo f t k step q).length ((numITo f t k step q).map (Value.int .i64)) (some w.heap.size):=by rw [hl2];exact hrowq
       exact hr.OwnI (numITo_in f t k step q hq) (fun g hg => by cases hg;exact Nat.le_refl _)
      go_wp2_with fail
      go_ret
      exact ⟨_,rfl,hfinq,hbelq⟩
end Go.Proofs.Ytfhmonacgmakbaa
namespace Go.Proofs.Ytfhmonacgmakbaa
open Go.RowKit
theorem lev8_levN {t:List Int} (h:lev8 t = true):LevP t∧t.length ≤ 8:=by
 unfold lev8 levB at h
 simp at h
 exact ⟨h.2,h.1⟩
theorem sumW_take_succ (l:List Int) (i:Nat) (h:i < l.length):sumW (l.take (i + 1)) = wrap64 (sumW (l.take i) + l[i]):=by
 rw [List.take_succ_eq_append_getElem h,sumW_snoc]
set_option maxHeartbeats 1000000 in
theorem c_impl_countNumberings (gap:Nat) (hg:gap ≤ 1) (v:Value) (k:Int) (t:List Int) (w:World) (h:Rd (RS RI) w [v] t) (hk:In64 k) :
  Calls Try.prog 28 #[v,.int .i64 k,.int .i64 gap] w (RetV w (.tuple #[.int .i64 (countNum t k gap).1,.int .i64 (countNum t k gap).2])):=by
 cases h8:lev8 t
 ·have e:countNum t k gap = (0,1):=by unfold countNum;rw [h8];rfl
  rw [e]
  go_enter Try.func28,Try.ntmps28
  go_wp2_with (go_at_call 40;refine (c_impl_IsLevels _ t _ h).mono ?_;rintro e w' ⟨rfl,rfl⟩)
  go_ret2
  exact ⟨rfl,Below.refl _ _⟩
 ·cases hr:inR k 0 10
  ·have e:countNum t k gap = (0,2):=by unfold countNum;rw [h8,hr];rfl
   rw [e]
   go_enter Try.func28,Try.ntmps28
   go_wp2_with (first|(go_at_call 40;refine (c_impl_IsLevels _ t _ h).mono ?_;rintro e w' ⟨rfl,rfl⟩)|(go_at_call 23;refine (c_impl_inRange _ _ _ _).mono ?_;rintro e w' ⟨rfl,rfl⟩))
   go_ret2
   exact ⟨rfl,Below.refl _ _⟩
  ·obtain ⟨n,rfl,hn⟩:∃ n:Nat,k = n∧n ≤ 10:=by
    simp [inR] at hr
    exact ⟨k.toNat,by omega,by omega⟩
   have e:countNum t n gap = (sumW (numI 9 t n gap),0):=by unfold countNum;rw [h8,hr];simp
   rw [e]
   obtain ⟨hl,hl8⟩:=lev8_levN h8
   have E:=Lib.hid e
   clear e
   go_enter Try.func28,Try.ntmps28
   go_wp2_with (first|(go_at_call 40;refine (c_impl_IsLevels _ t _ h).mono ?_;rintro e w' ⟨rfl,rfl⟩)|(go_at_call 23;refine (c_impl_inRange _ _ _ _).mono ?_;rintro e w' ⟨rfl,rfl⟩))
   refine (c_impl_numberings n gap hn hg 9 t v w h hl (by omega) (by omega)).mono ?_
   rintro e w1 ⟨vl,rfl,ol,B1⟩
   obtain ⟨oai,ci,I⟩:=ol.rd.ints
   have hvi:=I.val
   rw [numI_len] at hvi
   subst hvi
   have hll:=numI_len 9 t n gap
   have hcl:=I.le
   have hcc:=I.capLe
   unfold maxLen at hcc
   go_wp2_with fail
   go_loop [8,24] (fun s i => ∃ j:Nat,j ≤ n∧i = .int .i64 j∧s = .int .i64 (sumW ((numI 9 t n gap).take j))) (fun _ i => n - (intOf i).toNat)
   case atStart => exact ⟨0,Nat.zero_le _,rfl,rfl⟩
   case round =>
    obtain ⟨j,hj,rfl,rfl⟩:=hrel
    by_cases hlt:j < n
    ·have hjl:j < (numI 9 t n gap).length:=by rw [hll];exact hlt
     obtain ⟨bl,ofl,rfl,hbl1,hc⟩:=I.get hjl
     have g:=hc j hjl
     have hs:=Lib.hid (sumW_take_succ (numI 9 t n gap) j hjl)
     clear hc hll
     go_wp2_with fail
     go_round
     case rel => exact ⟨j + 1,by omega,by go_num,by rw [hs.out]⟩
     case measure => simp [intOf];omega
    ·have hf:sumW ((numI 9 t n gap).take j) = sumW (numI 9 t n gap):=by rw [List.take_of_length_le (by rw [hll];omega)]
     have HF:=Lib.hid hf
     clear hf hll
     go_wp2_with fail
     go_ret2
     exact ⟨by rw [← HF.out];rfl,B1⟩
set_option maxHeartbeats 400000 in
theorem k_impl_CountRising (v:Value) (k:Int) (t:List Int) (w:World) (h:Rd (RS RI) w [v] t) (hk:In64 k) :
  Calls Try.prog 16 #[v,.int .i64 k] w (RetV w (.tuple #[.int .i64 (countNum t k 0).1,.int .i64 (countNum t k 0).2])):=by
 go_enter Try.func16,Try.ntmps16
 go_wp2_with fail
 refine (c_impl_countNumberings 0 (by omega) v k t w h hk).mono ?_
 rintro e w1 ⟨rfl,B1⟩
 go_wp2_with fail
 go_ret2
 exact ⟨rfl,B1⟩
set_option maxHeartbeats 400000 in
theorem k_impl_CountStrict (v:Value) (k:Int) (t:List Int) (w:World) (h:Rd (RS RI) w [v] t) (hk:In64 k) :
  Calls Try.prog 17 #[v,.int .i64 k] w (RetV w (.tuple #[.int .i64 (countNum t k 1).1,.int .i64 (countNum t k 1).2])):=by
 go_enter Try.func17,Try.ntmps17
 go_wp2_with fail
 refine (c_impl_countNumberings 1 (by omega) v k t w h hk).mono ?_
 rintro e w1 ⟨rfl,B1⟩
 go_wp2_with fail
 go_ret2
 exact ⟨rfl,B1⟩
end Go.Proofs.Ytfhmonacgmakbaa
