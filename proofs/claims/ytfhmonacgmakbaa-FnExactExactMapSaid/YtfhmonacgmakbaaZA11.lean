/- Lemmas (11). -/
import Derived.BigQuiet
import Derived.Test.YtfhmonacgmakbaaZA5
import Derived.Test.YtfhmonacgmakbaaZA6
import Derived.Test.YtfhmonacgmakbaaZA9
import Derived.Test.YtfhmonacgmakbaaZA10
set_option linter.unusedSimpArgs false
set_option linter.unusedVariables false
namespace Go.Proofs.Ytfhmonacgmakbaa
open Go.RowKit
theorem a_place (X:List (List D)) (t:List Int) (h:canT t = true) (hl:t.length ≤ 6):AFn Try.prog 36 [[.sl 1 (T6.map eL),.sl 1 X],[.sl 1 (t.map eI)]] (· = [.val (.int (plc t))]):=by
 obtain ⟨p1,p2,p3,p4⟩:=plc_at h hl
 have hix:=a_indexIn T6 t (posT t) (by rw [T6_len];omega) p1 p2 p3 p4
 rw [T6_len] at p1
 have hw:=w64_succ (n:=posT t) (by omega)
 simp only [eL,eLL] at hix
 refine AFn.of_runs (cfg_ok 10) Try.func36 rfl rfl rfl (by simp only [List.length_cons,List.length_nil];decide) ?_
 have hres:Try.f36.results.toList = [.tmp 4]:=rfl
 have hrts:Try.f36.resultTypes.toList = [3]:=rfl
 simp only [argRegs,argAV1,eL,eI,eLL,eB,Nat.zero_add,Nat.reduceAdd]
 intro M
 refine RunK.of ?_
 repeat' (first|with_reducible (first|refine Q1 ?_|refine Q2 ?_|refine Q3 ?_|refine Q4 ?_|refine Q5 ?_|refine Q6 ?_|refine Q7 ?_|refine Q8 ?_|refine Q9 ?_|refine Qa ?_|refine Qb ?_|refine Qc ?_|refine Qd ?_|refine Qe ?_|refine Qf ?_)|((with_reducible refine Qo ?_ ?_);focus rfl)|((with_reducible first|refine QT 5 (l:=?_) ?_ ?_|refine QF 5 (l:=?_) ?_ ?_);rotate_left 1;focus (simp only [Zu,Nat.reduceSub,Nat.reduceBEq];with_reducible rfl))|((with_reducible first|refine QS (cfg_ok 10) (Tab.none.at' 52 hix) (s':=?_) ?_ ?_|refine QC (b:=?_) ?_ ?_);rotate_left 1;focus ((with_reducible refine QW ?_);simp only [Zg,seval,if_true,if_false,reduceCtorEq,Nat.reduceEqDiff,hw];with_reducible rfl)))
 (refine Ends.mk (by simp) (rs:=?_) (ks:=?_) hres hrts ?_ ?_ ?_;rotate_left 2;(focus (simp only [Ze,Zg,seval,if_true,if_false,reduceCtorEq,Nat.reduceEqDiff,plc,Int.natCast_add,Int.natCast_one];with_reducible rfl));(focus simp);focus (first|with_reducible rfl|(simp only [Zv,plc,Int.natCast_add,Int.natCast_one];done)))
set_option maxRecDepth 20000 in
set_option maxHeartbeats 16000000 in
theorem s_newForms:AFnS Try.prog 21 [] frmD:=by
 have hto:AFn Try.prog 27 [[.int 6]] (· = [.val (.sl 1 (T6.map eL))]):=AFn.val1 (a_treesTo 6 (by decide))
 obtain ⟨T,hT⟩:∃ T,T = T6.map eL:=⟨_,rfl⟩
 have hTl:T.length = 37:=by rw [hT,List.length_map,T6_len]
 rw [← hT] at hto
 have hfin:frmD = [.sl 1 T,.sl 1 ((T6.map cutsM).map eMs)]:=by rw [hT];rfl
 rw [hfin]
 refine AFnS.of_runs (cfg_ok 68) Try.func21 rfl rfl rfl (by simp only [List.length_cons,List.length_nil];decide) ?_
 simp only [argRegs,argAV1,eL,eI,eLL,eB,Nat.zero_add,Nat.reduceAdd]
 intro M
 refine RunK.of ?_
 ((repeat' (first|with_reducible (first|refine Q1 ?_|refine Q2 ?_|refine Q3 ?_|refine Q4 ?_|refine Q5 ?_|refine Q6 ?_|refine Q7 ?_|refine Q8 ?_|refine Q9 ?_|refine Qa ?_|refine Qb ?_|refine Qc ?_|refine Qd ?_|refine Qe ?_|refine Qf ?_)|((with_reducible refine Qo ?_ ?_);focus rfl)|((with_reducible first|refine QT 34 (l:=?_) ?_ ?_|refine QF 34 (l:=?_) ?_ ?_);rotate_left 1;focus (simp only [Zu,Nat.reduceSub,Nat.reduceBEq];with_reducible rfl))|((with_reducible refine QC (b:=?_) ?_ ?_);rotate_left 1;focus ((with_reducible refine QW ?_);simp only [Zg,seval,if_true,if_false,reduceCtorEq,Nat.reduceEqDiff];with_reducible rfl))));((with_reducible refine QS (cfg_ok 68) Tab.none (s':=?_) ?_ ?_);rotate_left 1;focus ((with_reducible refine QW ?_);simp only [Zg,seval,if_true,if_false,reduceCtorEq,Nat.reduceEqDiff];with_reducible rfl));(repeat' (first|with_reducible (first|refine Q1 ?_|refine Q2 ?_|refine Q3 ?_|refine Q4 ?_|refine Q5 ?_|refine Q6 ?_|refine Q7 ?_|refine Q8 ?_|refine Q9 ?_|refine Qa ?_|refine Qb ?_|refine Qc ?_|refine Qd ?_|refine Qe ?_|refine Qf ?_)|((with_reducible refine Qo ?_ ?_);focus rfl)|((with_reducible first|refine QT 34 (l:=?_) ?_ ?_|refine QF 34 (l:=?_) ?_ ?_);rotate_left 1;focus (simp only [Zu,Nat.reduceSub,Nat.reduceBEq];with_reducible rfl))|((with_reducible refine QC (b:=?_) ?_ ?_);rotate_left 1;focus ((with_reducible refine QW ?_);simp only [Zg,seval,if_true,if_false,reduceCtorEq,Nat.reduceEqDiff];with_reducible rfl)))))
 ((repeat' (first|with_reducible (first|refine Q1 ?_|refine Q2 ?_|refine Q3 ?_|refine Q4 ?_|refine Q5 ?_|refine Q6 ?_|refine Q7 ?_|refine Q8 ?_|refine Q9 ?_|refine Qa ?_|refine Qb ?_|refine Qc ?_|refine Qd ?_|refine Qe ?_|refine Qf ?_)|((with_reducible refine Qo ?_ ?_);focus rfl)|((with_reducible first|refine QT 34 (l:=?_) ?_ ?_|refine QF 34 (l:=?_) ?_ ?_);rotate_left 1;focus (simp only [Zu,Nat.reduceSub,Nat.reduceBEq];with_reducible rfl))|((with_reducible refine QC (b:=?_) ?_ ?_);rotate_left 1;focus ((with_reducible refine QW ?_);simp only [Zg,seval,if_true,if_false,reduceCtorEq,Nat.reduceEqDiff];with_reducible rfl))));(with_reducible refine RunK.regCut (cfg_ok 68) (Tab.none.at' 27 hto) 3 (s1:=?_) ?_ ?_);rotate_left 1;(focus ((with_reducible refine QW ?_);simp only [Zg,seval,if_true,if_false,reduceCtorEq,Nat.reduceEqDiff];with_reducible rfl));simp only [List.toList_toArray,List.drop_succ_cons,List.drop_zero])
 refine ROps.nilOwn 11 5001 (k:=1) (pre:=[.val (.sl 1 T)]) (post:=[]) rfl (by decide) rfl ?_
 refine ROps.storeA (cfg_ok 68) (key:=1) (j:=0) rfl rfl rfl rfl rfl rfl (cs:=[.val (.sl 1 T),.own 5001 0]) rfl rfl rfl (r:=[.val (.sl 1 []),.val (.sl 1 [])]) rfl (Nat.le_of_ble_eq_true rfl) ?_
 refine ROps.nil ?_
 ((repeat' (first|with_reducible (first|refine Q1 ?_|refine Q2 ?_|refine Q3 ?_|refine Q4 ?_|refine Q5 ?_|refine Q6 ?_|refine Q7 ?_|refine Q8 ?_|refine Q9 ?_|refine Qa ?_|refine Qb ?_|refine Qc ?_|refine Qd ?_|refine Qe ?_|refine Qf ?_)|((with_reducible refine Qo ?_ ?_);focus rfl)|((with_reducible first|refine QT 34 (l:=?_) ?_ ?_|refine QF 34 (l:=?_) ?_ ?_);rotate_left 1;focus (simp only [Zu,Nat.reduceSub,Nat.reduceBEq];with_reducible rfl))|((with_reducible refine QC (b:=?_) ?_ ?_);rotate_left 1;focus ((with_reducible refine QW ?_);simp only [Zg,seval,if_true,if_false,reduceCtorEq,Nat.reduceEqDiff];with_reducible rfl))));(with_reducible refine RunK.regCut (cfg_ok 68) Tab.none 1 (s1:=?_) ?_ ?_);rotate_left 1;(focus ((with_reducible refine QW ?_);simp only [Zg,seval,if_true,if_false,reduceCtorEq,Nat.reduceEqDiff];with_reducible rfl));simp only [List.toList_toArray,List.drop_succ_cons,List.drop_zero])
 refine ROps.loadA (cfg_ok 68) (d:=13) rfl rfl rfl (by decide) rfl rfl (cs:=[.val (.sl 1 T),.own 5001 0]) rfl (av:=.c (.val (.sl 1 T))) rfl ?_
 (refine ROps.opsT (cfg_ok 68) (T:=Tab.none) (s':=?_) ?_ ?_;rotate_left 1;focus (simp only [Zg,seval,if_true,if_false,reduceCtorEq,Nat.reduceEqDiff,hTl];with_reducible rfl))
 refine RunK.loop (β:=Nat) (γ:=Unit) (fun i => ⟨[(0,.optr 0 0 0),(1,.optr 1 0 0),(13,.c (.val (.sl 1 T))),(14,.c (.val (.int 37))),(15,.c (.val (.int i)))],[(0,.row 2 [[.sl 1 [],.sl 1 []]] true),(1,.lit 2 [[.val (.sl 1 T),.own 5001 i]]),(5001,.row 1 (((T6.take i).map cutsM).map eMs) false)]⟩) (fun i => i ≤ 37) (fun i => 37 - i)
  (fun _ => ⟨[(0,.optr 0 0 0),(1,.optr 1 0 0)],[(0,.row 2 [[.sl 1 [],.sl 1 []]] true),(1,.lit 2 [[.val (.sl 1 T),.own 5001 37]]),(5001,.row 1 ((T6.map cutsM).map eMs) false)]⟩) (fun _ => True) 0 (Nat.zero_le _) ?_ ?_ ?_
 ·(repeat' (first|with_reducible refine Qn|((with_reducible refine Qr ?_ ?_);focus (first|with_reducible rfl|(simp only [Zz,Nat.reduceBEq,List.take_zero,List.map_nil,Int.natCast_zero];done)|rfl))|((with_reducible refine Qj (o':=?_) ?_ ?_ ?_);rotate_left 1;focus rfl)|((with_reducible refine Qw ?_ ?_);(focus (first|with_reducible rfl|(simp only [Zv,List.take_zero,List.map_nil,Int.natCast_zero];done)));focus (first|exact id|exact (fun h => nomatch h)|exact (fun _ => rfl)))))
  all_goals exact ⟨rfl,rfl⟩
 ·intro i hi
  have hi:i ≤ 37:=hi
  have hw:=w64_succ (n:=i) (by omega)
  by_cases hi37:i < 37
  ·have i1:((i:Int) < 37) = True:=eq_true (by omega)
   have i2:((0:Int) ≤ (i:Int)) = True:=eq_true (by omega)
   have hiT:i < T6.length:=by rw [T6_len];exact hi37
   obtain ⟨t,ht⟩:∃ t,t = T6[i]:=⟨_,rfl⟩
   have htm:t ∈ T6:=by rw [ht];exact List.getElem_mem _
   have hg:T[i]? = some [.sl 1 (t.map eI)]:=by rw [hT,map_get hiT,ht];rfl
   have htk:((T6.take (i + 1)).map cutsM).map eMs = ((T6.take i).map cutsM).map eMs ++ [[.sl 3 ((cutsM t).map eM)]]:=by
    rw [ht,List.take_succ_eq_append_getElem hiT,List.map_append,List.map_append];rfl
   obtain ⟨R,hR⟩:∃ R,R = ((T6.take i).map cutsM).map eMs:=⟨_,rfl⟩
   have hRl:R.length = i:=by rw [hR,List.length_map,List.length_map,List.length_take];omega
   rw [← hR] at htk ⊢
   obtain ⟨hct,hcl⟩:=T6_ok t htm
   obtain ⟨hlev,_⟩:=canT_lev hct
   have hcu:AFn Try.prog 35 [[.sl 1 (t.map eI)]] (· = [.val (.sl 3 ((cutsL t).map eCu))]):=AFn.valT (a_cutsOf t hlev (by omega))
   obtain ⟨hLn,hLok⟩:=cuts6 htm
   obtain ⟨L,hL⟩:∃ L,L = cutsL t:=⟨_,rfl⟩
   have hcm:cutsM t = L.map mcut:=by rw [hL];rfl
   rw [hcm] at htk
   rw [← hL] at hcu hLn hLok
   have hLm:(L.map eCu).length = L.length:=List.length_map _
   repeat' (first|with_reducible (first|refine Q1 ?_|refine Q2 ?_|refine Q3 ?_|refine Q4 ?_|refine Q5 ?_|refine Q6 ?_|refine Q7 ?_|refine Q8 ?_|refine Q9 ?_|refine Qa ?_|refine Qb ?_|refine Qc ?_|refine Qd ?_|refine Qe ?_|refine Qf ?_)|((with_reducible refine Qo ?_ ?_);focus rfl)|((with_reducible first|refine QT 34 (l:=?_) ?_ ?_|refine QF 34 (l:=?_) ?_ ?_);rotate_left 1;focus (simp only [Zu,Nat.reduceSub,Nat.reduceBEq];with_reducible rfl))|((with_reducible first|refine QS (cfg_ok 68) (Tab.none.at' 35 hcu) (s':=?_) ?_ ?_|refine QC (b:=?_) ?_ ?_);rotate_left 1;focus ((with_reducible refine QW ?_);simp only [Zg,seval,if_true,if_false,reduceCtorEq,Nat.reduceEqDiff,i1,i2,hg,hTl,Int.toNat_natCast];with_reducible rfl))|((with_reducible refine QD (cfg_ok 68) (Tab.none.at' 35 hcu) mixed_ok (tr:=?_) (s':=?_) ?_ ?_ ?_);rotate_left 2;(focus ((with_reducible refine QW ?_);simp only [Zg,Zd,seval,if_true,if_false,reduceCtorEq,Nat.reduceEqDiff,i1,i2,hg,hTl,Int.toNat_natCast];with_reducible rfl));focus ((with_reducible refine QK ?_);simp only [Zk];kernel_rfl)))
   refine RunK.loop (β:=Nat) (γ:=Unit) (fun j => ⟨[(0,.optr 0 0 0),(1,.optr 1 0 0),(4,.c (.own 4 j)),(13,.c (.val (.sl 1 T))),(14,.c (.val (.int 37))),(15,.c (.val (.int i))),(21,.c (.val (.sl 3 (L.map eCu)))),(22,.c (.val (.int L.length))),(23,.c (.val (.int j)))],[(0,.row 2 [[.sl 1 [],.sl 1 []]] true),(1,.lit 2 [[.val (.sl 1 T),.own 5001 i]]),(4,.row 3 (((L.take j).map mcut).map eM) false),(5001,.row 1 R false)]⟩) (fun j => j ≤ L.length) (fun j => L.length - j)
    (fun _ => ⟨[(0,.optr 0 0 0),(1,.optr 1 0 0),(4,.c (.own 4 L.length)),(13,.c (.val (.sl 1 T))),(14,.c (.val (.int 37))),(15,.c (.val (.int i)))],[(0,.row 2 [[.sl 1 [],.sl 1 []]] true),(1,.lit 2 [[.val (.sl 1 T),.own 5001 i]]),(4,.row 3 ((L.map mcut).map eM) false),(5001,.row 1 R false)]⟩) (fun _ => True) 0 (Nat.zero_le _) ?_ ?_ ?_
   ·(repeat' (first|with_reducible refine Qn|((with_reducible refine Qr ?_ ?_);focus (first|with_reducible rfl|(simp only [Zz,Nat.reduceBEq,List.take_zero,List.map_nil,Int.natCast_zero];done)|rfl))|((with_reducible refine Qj (o':=?_) ?_ ?_ ?_);rotate_left 1;focus rfl)|((with_reducible refine Qw ?_ ?_);(focus (first|with_reducible rfl|(simp only [Zv,List.take_zero,List.map_nil,Int.natCast_zero];done)));focus (first|exact id|exact (fun h => nomatch h)|exact (fun _ => rfl)))))
    all_goals exact ⟨rfl,rfl⟩
   ·intro j hj
    have hj:j ≤ L.length:=hj
    have hwj:=w64_succ (n:=j) (by omega)
    by_cases hjL:j < L.length
    ·have j1:((j:Int) < (L.length:Int)) = True:=eq_true (by omega)
     have j2:((0:Int) ≤ (j:Int)) = True:=eq_true (by omega)
     obtain ⟨x,hx⟩:∃ x,x = L[j]:=⟨_,rfl⟩
     have hxg:(L.map eCu)[j]? = some [.sl 1 (x.1.1.map eL),.sl 1 (x.1.2.map eI),.int x.2]:=by rw [map_get hjL,hx];rfl
     obtain ⟨hx1,hx2,hx3,hx4⟩:=hLok L[j] (List.getElem_mem _)
     rw [← hx] at hx1 hx2 hx3 hx4
     have hxk:((L.take (j + 1)).map mcut).map eM = ((L.take j).map mcut).map eM ++ [eM (mcut x)]:=by
      rw [hx,List.take_succ_eq_append_getElem hjL,List.map_append,List.map_append];rfl
     have hrl:(((L.take j).map mcut).map eM).length = j:=by rw [List.length_map,List.length_map,List.length_take];omega
     obtain ⟨⟨cr,tr⟩,n⟩:=x
     simp only at hxg hx1 hx2 hx3 hx4
     have q1:=big_le (n:=j + 1) (by omega)
     have q2:=big_mul (n:=j + 1) (c:=40) (by omega) (by omega)
     ((repeat' (first|with_reducible (first|refine Q1 ?_|refine Q2 ?_|refine Q3 ?_|refine Q4 ?_|refine Q5 ?_|refine Q6 ?_|refine Q7 ?_|refine Q8 ?_|refine Q9 ?_|refine Qa ?_|refine Qb ?_|refine Qc ?_|refine Qd ?_|refine Qe ?_|refine Qf ?_)|((with_reducible refine Qo ?_ ?_);focus rfl)|((with_reducible first|refine QT 34 (l:=?_) ?_ ?_|refine QF 34 (l:=?_) ?_ ?_);rotate_left 1;focus (simp only [Zu,Nat.reduceSub,Nat.reduceBEq];with_reducible rfl))|((with_reducible refine QC (b:=?_) ?_ ?_);rotate_left 1;focus ((with_reducible refine QW ?_);simp only [Zg,seval,if_true,if_false,reduceCtorEq,Nat.reduceEqDiff,j1];with_reducible rfl))));((with_reducible refine QS (cfg_ok 68) Tab.none (s':=?_) ?_ ?_);rotate_left 1;focus ((with_reducible refine QW ?_);simp only [Zg,seval,if_true,if_false,reduceCtorEq,Nat.reduceEqDiff,j1];with_reducible rfl));(repeat' (first|with_reducible (first|refine Q1 ?_|refine Q2 ?_|refine Q3 ?_|refine Q4 ?_|refine Q5 ?_|refine Q6 ?_|refine Q7 ?_|refine Q8 ?_|refine Q9 ?_|refine Qa ?_|refine Qb ?_|refine Qc ?_|refine Qd ?_|refine Qe ?_|refine Qf ?_)|((with_reducible refine Qo ?_ ?_);focus rfl)|((with_reducible first|refine QT 34 (l:=?_) ?_ ?_|refine QF 34 (l:=?_) ?_ ?_);rotate_left 1;focus (simp only [Zu,Nat.reduceSub,Nat.reduceBEq];with_reducible rfl))|((with_reducible refine QC (b:=?_) ?_ ?_);rotate_left 1;focus ((with_reducible refine QW ?_);simp only [Zg,seval,if_true,if_false,reduceCtorEq,Nat.reduceEqDiff,j1];with_reducible rfl)))))
     ((repeat' (first|with_reducible (first|refine Q1 ?_|refine Q2 ?_|refine Q3 ?_|refine Q4 ?_|refine Q5 ?_|refine Q6 ?_|refine Q7 ?_|refine Q8 ?_|refine Q9 ?_|refine Qa ?_|refine Qb ?_|refine Qc ?_|refine Qd ?_|refine Qe ?_|refine Qf ?_)|((with_reducible refine Qo ?_ ?_);focus rfl)|((with_reducible first|refine QT 34 (l:=?_) ?_ ?_|refine QF 34 (l:=?_) ?_ ?_);rotate_left 1;focus (simp only [Zu,Nat.reduceSub,Nat.reduceBEq];with_reducible rfl))|((with_reducible refine QC (b:=?_) ?_ ?_);rotate_left 1;focus ((with_reducible refine QW ?_);simp only [Zg,seval,if_true,if_false,reduceCtorEq,Nat.reduceEqDiff,j1,j2,hxg,hLm,Int.toNat_natCast];with_reducible rfl))));((with_reducible refine QS (cfg_ok 68) Tab.none (s':=?_) ?_ ?_);rotate_left 1;focus ((with_reducible refine QW ?_);simp only [Zg,seval,if_true,if_false,reduceCtorEq,Nat.reduceEqDiff,j1,j2,hxg,hLm,Int.toNat_natCast];with_reducible rfl));(repeat' (first|with_reducible (first|refine Q1 ?_|refine Q2 ?_|refine Q3 ?_|refine Q4 ?_|refine Q5 ?_|refine Q6 ?_|refine Q7 ?_|refine Q8 ?_|refine Q9 ?_|refine Qa ?_|refine Qb ?_|refine Qc ?_|refine Qd ?_|refine Qe ?_|refine Qf ?_)|((with_reducible refine Qo ?_ ?_);focus rfl)|((with_reducible first|refine QT 34 (l:=?_) ?_ ?_|refine QF 34 (l:=?_) ?_ ?_);rotate_left 1;focus (simp only [Zu,Nat.reduceSub,Nat.reduceBEq];with_reducible rfl))|((with_reducible refine QC (b:=?_) ?_ ?_);rotate_left 1;focus ((with_reducible refine QW ?_);simp only [Zg,seval,if_true,if_false,reduceCtorEq,Nat.reduceEqDiff,j1,j2,hxg,hLm,Int.toNat_natCast];with_reducible rfl)))))
     ((repeat' (first|with_reducible (first|refine Q1 ?_|refine Q2 ?_|refine Q3 ?_|refine Q4 ?_|refine Q5 ?_|refine Q6 ?_|refine Q7 ?_|refine Q8 ?_|refine Q9 ?_|refine Qa ?_|refine Qb ?_|refine Qc ?_|refine Qd ?_|refine Qe ?_|refine Qf ?_)|((with_reducible refine Qo ?_ ?_);focus rfl)|((with_reducible first|refine QT 34 (l:=?_) ?_ ?_|refine QF 34 (l:=?_) ?_ ?_);rotate_left 1;focus (simp only [Zu,Nat.reduceSub,Nat.reduceBEq];with_reducible rfl))|((with_reducible refine QC (b:=?_) ?_ ?_);rotate_left 1;focus ((with_reducible refine QW ?_);simp only [Zg,seval,if_true,if_false,reduceCtorEq,Nat.reduceEqDiff];with_reducible rfl))));(with_reducible refine RunK.regCut (cfg_ok 68) Tab.none 4 (s1:=?_) ?_ ?_);rotate_left 1;(focus ((with_reducible refine QW ?_);simp only [Zg,seval,if_true,if_false,reduceCtorEq,Nat.reduceEqDiff];with_reducible rfl));simp only [List.toList_toArray,List.drop_succ_cons,List.drop_zero])
     refine ROps.nilOwn 29 5007 (k:=1) (pre:=[.val (.int n)]) (post:=[.val (.int 0)]) rfl (by decide) rfl ?_
     refine ROps.storeA (cfg_ok 68) (key:=7) (j:=0) rfl rfl rfl rfl rfl rfl (cs:=[.val (.int n),.own 5007 0,.val (.int 0)]) rfl rfl rfl (r:=[.val (.int 0),.val (.sl 1 []),.val (.int 0)]) rfl (Nat.le_of_ble_eq_true rfl) ?_
     refine ROps.nil ?_
     have hcm':(cr.map eL).length = cr.length:=List.length_map _
     repeat' (first|with_reducible (first|refine Q1 ?_|refine Q2 ?_|refine Q3 ?_|refine Q4 ?_|refine Q5 ?_|refine Q6 ?_|refine Q7 ?_|refine Q8 ?_|refine Q9 ?_|refine Qa ?_|refine Qb ?_|refine Qc ?_|refine Qd ?_|refine Qe ?_|refine Qf ?_)|((with_reducible refine Qo ?_ ?_);focus rfl)|((with_reducible first|refine QT 34 (l:=?_) ?_ ?_|refine QF 34 (l:=?_) ?_ ?_);rotate_left 1;focus (simp only [Zu,Nat.reduceSub,Nat.reduceBEq];with_reducible rfl))|((with_reducible first|refine QS (cfg_ok 68) Tab.none (s':=?_) ?_ ?_|refine QC (b:=?_) ?_ ?_);rotate_left 1;focus ((with_reducible refine QW ?_);simp only [Zg,seval,if_true,if_false,reduceCtorEq,Nat.reduceEqDiff,hcm'];with_reducible rfl))|((with_reducible refine QD (cfg_ok 68) Tab.none mixed_ok (tr:=?_) (s':=?_) ?_ ?_ ?_);rotate_left 2;(focus ((with_reducible refine QW ?_);simp only [Zg,Zd,seval,if_true,if_false,reduceCtorEq,Nat.reduceEqDiff,hcm'];with_reducible rfl));focus ((with_reducible refine QK ?_);simp only [Zk];kernel_rfl)))
     refine RunK.loop (β:=Nat) (γ:=Unit) (fun q => ⟨[(0,.optr 0 0 0),(1,.optr 1 0 0),(4,.c (.own 4 j)),(6,.optr 6 0 0),(7,.optr 7 0 0),(13,.c (.val (.sl 1 T))),(14,.c (.val (.int 37))),(15,.c (.val (.int i))),(21,.c (.val (.sl 3 (L.map eCu)))),(22,.c (.val (.int L.length))),(23,.c (.val (.int j))),(31,.c (.val (.sl 1 (cr.map eL)))),(32,.c (.val (.int cr.length))),(33,.c (.val (.int q)))],[(0,.row 2 [[.sl 1 [],.sl 1 []]] true),(1,.lit 2 [[.val (.sl 1 T),.own 5001 i]]),(4,.row 3 (((L.take j).map mcut).map eM) false),(6,.row 3 [[.sl 1 (cr.map eL),.sl 1 (tr.map eI),.int n]] false),(7,.lit 3 [[.val (.int n),.own 5007 q,.val (.int 0)]]),(5001,.row 1 R false),(5007,.row 1 (((cr.take q).map plc).map eI) false)]⟩) (fun q => q ≤ cr.length) (fun q => cr.length - q)
      (fun _ => ⟨[(0,.optr 0 0 0),(1,.optr 1 0 0),(4,.c (.own 4 j)),(6,.optr 6 0 0),(7,.optr 7 0 0),(13,.c (.val (.sl 1 T))),(14,.c (.val (.int 37))),(15,.c (.val (.int i))),(21,.c (.val (.sl 3 (L.map eCu)))),(22,.c (.val (.int L.length))),(23,.c (.val (.int j)))],[(0,.row 2 [[.sl 1 [],.sl 1 []]] true),(1,.lit 2 [[.val (.sl 1 T),.own 5001 i]]),(4,.row 3 (((L.take j).map mcut).map eM) false),(6,.row 3 [[.sl 1 (cr.map eL),.sl 1 (tr.map eI),.int n]] false),(7,.lit 3 [[.val (.int n),.own 5007 cr.length,.val (.int 0)]]),(5001,.row 1 R false),(5007,.row 1 ((cr.map plc).map eI) false)]⟩) (fun _ => True) 0 (Nat.zero_le _) ?_ ?_ ?_
     ·(repeat' (first|with_reducible refine Qn|((with_reducible refine Qr ?_ ?_);focus (first|with_reducible rfl|(simp only [Zz,Nat.reduceBEq,List.take_zero,List.map_nil,Int.natCast_zero];done)|rfl))|((with_reducible refine Qj (o':=?_) ?_ ?_ ?_);rotate_left 1;focus rfl)|((with_reducible refine Qw ?_ ?_);(focus (first|with_reducible rfl|(simp only [Zv,List.take_zero,List.map_nil,Int.natCast_zero];done)));focus (first|exact id|exact (fun h => nomatch h)|exact (fun _ => rfl)))))
      all_goals exact ⟨rfl,rfl⟩
     ·intro q hq
      have hq:q ≤ cr.length:=hq
      have hwq:=w64_succ (n:=q) (by omega)
      by_cases hqc:q < cr.length
      ·have k1:((q:Int) < (cr.length:Int)) = True:=eq_true (by omega)
       have k2:((0:Int) ≤ (q:Int)) = True:=eq_true (by omega)
       obtain ⟨c,hc⟩:∃ c,c = cr[q]:=⟨_,rfl⟩
       have hcg:(cr.map eL)[q]? = some [.sl 1 (c.map eI)]:=by rw [map_get hqc,hc];rfl
       have hck:((cr.take (q + 1)).map plc).map eI = ((cr.take q).map plc).map eI ++ [[.int (plc c)]]:=by
        rw [hc,List.take_succ_eq_append_getElem hqc,List.map_append,List.map_append];rfl
       obtain ⟨C,hC⟩:∃ C,C = ((cr.take q).map plc).map eI:=⟨_,rfl⟩
       have hCl:C.length = q:=by rw [hC,List.length_map,List.length_map,List.length_take];omega
       obtain ⟨c1,c2⟩:=hx2 cr[q] (List.getElem_mem _)
       rw [← hc] at c1 c2
       have hpl:=a_place R c c1 c2
       rw [← hT] at hpl
       rw [← hC] at hck ⊢
       have r1:=big_le (n:=q + 1) (by omega)
       have r2:=big_mul (n:=q + 1) (c:=8) (by omega) (by omega)
       have r3:(q ≤ 140737488355327) = True:=eq_true (by omega)
       ((repeat' (first|with_reducible (first|refine Q1 ?_|refine Q2 ?_|refine Q3 ?_|refine Q4 ?_|refine Q5 ?_|refine Q6 ?_|refine Q7 ?_|refine Q8 ?_|refine Q9 ?_|refine Qa ?_|refine Qb ?_|refine Qc ?_|refine Qd ?_|refine Qe ?_|refine Qf ?_)|((with_reducible refine Qo ?_ ?_);focus rfl)|((with_reducible first|refine QT 34 (l:=?_) ?_ ?_|refine QF 34 (l:=?_) ?_ ?_);rotate_left 1;focus (simp only [Zu,Nat.reduceSub,Nat.reduceBEq];with_reducible rfl))|((with_reducible refine QC (b:=?_) ?_ ?_);rotate_left 1;focus ((with_reducible refine QW ?_);simp only [Zg,seval,if_true,if_false,reduceCtorEq,Nat.reduceEqDiff,k1];with_reducible rfl))));((with_reducible refine QS (cfg_ok 68) Tab.none (s':=?_) ?_ ?_);rotate_left 1;focus ((with_reducible refine QW ?_);simp only [Zg,seval,if_true,if_false,reduceCtorEq,Nat.reduceEqDiff,k1];with_reducible rfl));(repeat' (first|with_reducible (first|refine Q1 ?_|refine Q2 ?_|refine Q3 ?_|refine Q4 ?_|refine Q5 ?_|refine Q6 ?_|refine Q7 ?_|refine Q8 ?_|refine Q9 ?_|refine Qa ?_|refine Qb ?_|refine Qc ?_|refine Qd ?_|refine Qe ?_|refine Qf ?_)|((with_reducible refine Qo ?_ ?_);focus rfl)|((with_reducible first|refine QT 34 (l:=?_) ?_ ?_|refine QF 34 (l:=?_) ?_ ?_);rotate_left 1;focus (simp only [Zu,Nat.reduceSub,Nat.reduceBEq];with_reducible rfl))|((with_reducible refine QC (b:=?_) ?_ ?_);rotate_left 1;focus ((with_reducible refine QW ?_);simp only [Zg,seval,if_true,if_false,reduceCtorEq,Nat.reduceEqDiff,k1];with_reducible rfl)))))
       ((repeat' (first|with_reducible (first|refine Q1 ?_|refine Q2 ?_|refine Q3 ?_|refine Q4 ?_|refine Q5 ?_|refine Q6 ?_|refine Q7 ?_|refine Q8 ?_|refine Q9 ?_|refine Qa ?_|refine Qb ?_|refine Qc ?_|refine Qd ?_|refine Qe ?_|refine Qf ?_)|((with_reducible refine Qo ?_ ?_);focus rfl)|((with_reducible first|refine QT 34 (l:=?_) ?_ ?_|refine QF 34 (l:=?_) ?_ ?_);rotate_left 1;focus (simp only [Zu,Nat.reduceSub,Nat.reduceBEq];with_reducible rfl))|((with_reducible refine QC (b:=?_) ?_ ?_);rotate_left 1;focus ((with_reducible refine QW ?_);simp only [Zg,seval,if_true,if_false,reduceCtorEq,Nat.reduceEqDiff,k1,k2,hcg,hcm',Int.toNat_natCast];with_reducible rfl))));((with_reducible refine QS (cfg_ok 68) Tab.none (s':=?_) ?_ ?_);rotate_left 1;focus ((with_reducible refine QW ?_);simp only [Zg,seval,if_true,if_false,reduceCtorEq,Nat.reduceEqDiff,k1,k2,hcg,hcm',Int.toNat_natCast];with_reducible rfl));(repeat' (first|with_reducible (first|refine Q1 ?_|refine Q2 ?_|refine Q3 ?_|refine Q4 ?_|refine Q5 ?_|refine Q6 ?_|refine Q7 ?_|refine Q8 ?_|refine Q9 ?_|refine Qa ?_|refine Qb ?_|refine Qc ?_|refine Qd ?_|refine Qe ?_|refine Qf ?_)|((with_reducible refine Qo ?_ ?_);focus rfl)|((with_reducible first|refine QT 34 (l:=?_) ?_ ?_|refine QF 34 (l:=?_) ?_ ?_);rotate_left 1;focus (simp only [Zu,Nat.reduceSub,Nat.reduceBEq];with_reducible rfl))|((with_reducible refine QC (b:=?_) ?_ ?_);rotate_left 1;focus ((with_reducible refine QW ?_);simp only [Zg,seval,if_true,if_false,reduceCtorEq,Nat.reduceEqDiff,k1,k2,hcg,hcm',Int.toNat_natCast];with_reducible rfl)))))
       ((repeat' (first|with_reducible (first|refine Q1 ?_|refine Q2 ?_|refine Q3 ?_|refine Q4 ?_|refine Q5 ?_|refine Q6 ?_|refine Q7 ?_|refine Q8 ?_|refine Q9 ?_|refine Qa ?_|refine Qb ?_|refine Qc ?_|refine Qd ?_|refine Qe ?_|refine Qf ?_)|((with_reducible refine Qo ?_ ?_);focus rfl)|((with_reducible first|refine QT 34 (l:=?_) ?_ ?_|refine QF 34 (l:=?_) ?_ ?_);rotate_left 1;focus (simp only [Zu,Nat.reduceSub,Nat.reduceBEq];with_reducible rfl))|((with_reducible refine QC (b:=?_) ?_ ?_);rotate_left 1;focus ((with_reducible refine QW ?_);simp only [Zg,seval,if_true,if_false,reduceCtorEq,Nat.reduceEqDiff];with_reducible rfl))));(with_reducible refine RunK.wFl (cfg_ok 68) (Tab.none.at' 36 hpl) mixed_ok [42] [38,39] (tr:=?_) (s1:=?_) (rest:=?_) ?_ ?_ ?_);rotate_left 3;(focus ((with_reducible refine QW ?_);simp only [Zg,Zd,seval,if_true,if_false,reduceCtorEq,Nat.reduceEqDiff,drunL,devalL,devalA,acellsA,aloadA,rowA,drunF,devalF,devalB,dregF_mk,List.contains_cons,List.contains_nil];with_reducible rfl));focus ((with_reducible refine QK ?_);simp only [Zk];kernel_rfl))
       refine ROps.killL 7 5007 (k:=3) (r:=[.val (.int n),.own 5007 q,.val (.int 0)]) rfl ?_
       ((with_reducible refine ROps.cut (cfg_ok 68) Tab.none 1 (s1:=?_) ?_ ?_);rotate_left 1;(focus ((with_reducible refine QW ?_);simp only [Zg,seval,if_true,if_false,reduceCtorEq,Nat.reduceEqDiff,hCl,r1,r2,r3,List.map_cons,List.map_nil,AC.kill];with_reducible rfl));simp only [List.drop_succ_cons,List.drop_zero])
       refine ROps.renR 43 5007 (by decide) rfl rfl rfl ?_
       ((with_reducible refine ROps.cut (cfg_ok 68) Tab.none 1 (s1:=?_) ?_ ?_);rotate_left 1;(focus ((with_reducible refine QW ?_);simp only [Zg,seval,if_true,if_false,reduceCtorEq,Nat.reduceEqDiff];with_reducible rfl));simp only [List.drop_succ_cons,List.drop_zero])
       refine ROps.storeA (cfg_ok 68) (key:=7) (j:=1) rfl rfl rfl rfl rfl rfl (cs:=[.own 5007 (q + 1)]) rfl rfl rfl (r:=[.val (.int n),.junk,.val (.int 0)]) rfl (Nat.le_of_ble_eq_true rfl) ?_
       refine ROps.nil ?_
       repeat' (first|with_reducible (first|refine Q1 ?_|refine Q2 ?_|refine Q3 ?_|refine Q4 ?_|refine Q5 ?_|refine Q6 ?_|refine Q7 ?_|refine Q8 ?_|refine Q9 ?_|refine Qa ?_|refine Qb ?_|refine Qc ?_|refine Qd ?_|refine Qe ?_|refine Qf ?_)|((with_reducible refine Qo ?_ ?_);focus rfl)|((with_reducible first|refine QT 34 (l:=?_) ?_ ?_|refine QF 34 (l:=?_) ?_ ?_);rotate_left 1;focus (simp only [Zu,Nat.reduceSub,Nat.reduceBEq];with_reducible rfl))|((with_reducible first|refine QS (cfg_ok 68) Tab.none (s':=?_) ?_ ?_|refine QC (b:=?_) ?_ ?_);rotate_left 1;focus ((with_reducible refine QW ?_);simp only [Zg,seval,if_true,if_false,reduceCtorEq,Nat.reduceEqDiff,hwq];with_reducible rfl))|((with_reducible refine QD (cfg_ok 68) Tab.none mixed_ok (tr:=?_) (s':=?_) ?_ ?_ ?_);rotate_left 2;(focus ((with_reducible refine QW ?_);simp only [Zg,Zd,seval,if_true,if_false,reduceCtorEq,Nat.reduceEqDiff,hwq];with_reducible rfl));focus ((with_reducible refine QK ?_);simp only [Zk];kernel_rfl)))
       refine roundK.on (q + 1) ⟨hqc,by omega⟩ ?_
       rw [hck]
       (repeat' (first|with_reducible refine Qn|((with_reducible refine Qr ?_ ?_);focus (first|with_reducible rfl|(simp only [Zz,Nat.reduceBEq];done)|rfl))|((with_reducible refine Qj (o':=?_) ?_ ?_ ?_);rotate_left 1;focus rfl)|((with_reducible refine Qw ?_ ?_);(focus (first|with_reducible rfl|(simp only [Zv];done)));focus (first|exact id|exact (fun h => nomatch h)|exact (fun _ => rfl)))))
       all_goals exact ⟨rfl,rfl⟩
      ·have k1:((q:Int) < (cr.length:Int)) = False:=eq_false (by omega)
       obtain rfl:q = cr.length:=by omega
       repeat' (first|with_reducible (first|refine Q1 ?_|refine Q2 ?_|refine Q3 ?_|refine Q4 ?_|refine Q5 ?_|refine Q6 ?_|refine Q7 ?_|refine Q8 ?_|refine Q9 ?_|refine Qa ?_|refine Qb ?_|refine Qc ?_|refine Qd ?_|refine Qe ?_|refine Qf ?_)|((with_reducible refine Qo ?_ ?_);focus rfl)|((with_reducible first|refine QT 34 (l:=?_) ?_ ?_|refine QF 34 (l:=?_) ?_ ?_);rotate_left 1;focus (simp only [Zu,Nat.reduceSub,Nat.reduceBEq];with_reducible rfl))|((with_reducible first|refine QS (cfg_ok 68) Tab.none (s':=?_) ?_ ?_|refine QC (b:=?_) ?_ ?_);rotate_left 1;focus ((with_reducible refine QW ?_);simp only [Zg,seval,if_true,if_false,reduceCtorEq,Nat.reduceEqDiff,k1];with_reducible rfl))|((with_reducible refine QD (cfg_ok 68) Tab.none mixed_ok (tr:=?_) (s':=?_) ?_ ?_ ?_);rotate_left 2;(focus ((with_reducible refine QW ?_);simp only [Zg,Zd,seval,if_true,if_false,reduceCtorEq,Nat.reduceEqDiff,k1];with_reducible rfl));focus ((with_reducible refine QK ?_);simp only [Zk];kernel_rfl)))
       refine roundK.out () trivial ?_
       rw [List.take_length]
       (repeat' (first|with_reducible refine Qn|((with_reducible refine Qr ?_ ?_);focus (first|with_reducible rfl|(simp only [Zz,Nat.reduceBEq];done)|rfl))|((with_reducible refine Qj (o':=?_) ?_ ?_ ?_);rotate_left 1;focus rfl)|((with_reducible refine Qw ?_ ?_);(focus (first|with_reducible rfl|(simp only [Zv];done)));focus (first|exact id|exact (fun h => nomatch h)|exact (fun _ => rfl)))))
       all_goals exact ⟨rfl,rfl⟩
     ·rintro _ _
      refine RunK.frz 5007 ?_
      refine RunK.fits (s0:=⟨[(0,.optr 0 0 0),(1,.optr 1 0 0),(4,.c (.own 4 j)),(6,.optr 6 0 0),(7,.optr 7 0 0),(13,.c (.val (.sl 1 T))),(14,.c (.val (.int 37))),(15,.c (.val (.int i))),(21,.c (.val (.sl 3 (L.map eCu)))),(22,.c (.val (.int L.length))),(23,.c (.val (.int j)))],[(0,.row 2 [[.sl 1 [],.sl 1 []]] true),(1,.lit 2 [[.val (.sl 1 T),.own 5001 i]]),(4,.row 3 (((L.take j).map mcut).map eM) false),(6,.row 3 [[.sl 1 (cr.map eL),.sl 1 (tr.map eI),.int n]] false),(7,.lit 3 [[.val (.int n),.val (.sl 1 ((cr.map plc).map eI)),.val (.int 0)]]),(5001,.row 1 R false)]⟩) ?_ ?_
      ·(repeat' (first|with_reducible refine Qn|((with_reducible refine Qr ?_ ?_);focus (first|with_reducible rfl|(simp only [Zz,Nat.reduceBEq,St.frz,frzR,frzH,look,AV.frz,AC.frz,Obj.frz,drop];done)|rfl))|((with_reducible refine Qj (o':=?_) ?_ ?_ ?_);rotate_left 1;focus rfl)|((with_reducible refine Qw ?_ ?_);(focus (first|with_reducible rfl|(simp only [Zv,St.frz,frzR,frzH,look,AV.frz,AC.frz,Obj.frz,drop];done)));focus (first|exact id|exact (fun h => nomatch h)|exact (fun _ => rfl)))))
       all_goals first|exact ⟨rfl,rfl⟩|exact ⟨rfl,rfl,id⟩
      refine RunK.litRow 7 [.int n,.sl 1 ((cr.map plc).map eI),.int 0] rfl ?_
      by_cases htr:tr = []
      ·subst htr
       have t1:((([]:List Int).length:Int) > 0) = False:=eq_false (by simp)
       have hmc:eM (mcut ((cr,[]),n)) = [.int n,.sl 1 ((cr.map plc).map eI),.int 0]:=rfl
       rw [hmc] at hxk
       repeat' (first|with_reducible (first|refine Q1 ?_|refine Q2 ?_|refine Q3 ?_|refine Q4 ?_|refine Q5 ?_|refine Q6 ?_|refine Q7 ?_|refine Q8 ?_|refine Q9 ?_|refine Qa ?_|refine Qb ?_|refine Qc ?_|refine Qd ?_|refine Qe ?_|refine Qf ?_)|((with_reducible refine Qo ?_ ?_);focus rfl)|((with_reducible first|refine QT 34 (l:=?_) ?_ ?_|refine QF 34 (l:=?_) ?_ ?_);rotate_left 1;focus (simp only [Zu,Nat.reduceSub,Nat.reduceBEq];with_reducible rfl))|((with_reducible first|refine QS (cfg_ok 68) Tab.none (s':=?_) ?_ ?_|refine QC (b:=?_) ?_ ?_);rotate_left 1;focus ((with_reducible refine QW ?_);simp only [Zg,seval,if_true,if_false,reduceCtorEq,Nat.reduceEqDiff,t1,hrl,hwj,q1,q2,List.length_map];with_reducible rfl))|((with_reducible refine QD (cfg_ok 68) Tab.none mixed_ok (tr:=?_) (s':=?_) ?_ ?_ ?_);rotate_left 2;(focus ((with_reducible refine QW ?_);simp only [Zg,Zd,seval,if_true,if_false,reduceCtorEq,Nat.reduceEqDiff,t1,hrl,hwj,q1,q2,List.length_map];with_reducible rfl));focus ((with_reducible refine QK ?_);simp only [Zk];kernel_rfl)))
       refine roundK.on (j + 1) ⟨hjL,by omega⟩ ?_
       rw [hxk]
       (repeat' (first|with_reducible refine Qn|((with_reducible refine Qr ?_ ?_);focus (first|with_reducible rfl|(simp only [Zz,Nat.reduceBEq];done)|rfl))|((with_reducible refine Qj (o':=?_) ?_ ?_ ?_);rotate_left 1;focus rfl)|((with_reducible refine Qw ?_ ?_);(focus (first|with_reducible rfl|(simp only [Zv];done)));focus (first|exact id|exact (fun h => nomatch h)|exact (fun _ => rfl)))))
       all_goals exact ⟨rfl,rfl⟩
      ·obtain ⟨d1,d2⟩:=hx4.resolve_left htr
       have htl:0 < tr.length:=List.length_pos_iff.2 htr
       have t1:((tr.length:Int) > 0) = True:=eq_true (by omega)
       have hmc:eM (mcut ((cr,tr),n)) = [.int n,.sl 1 ((cr.map plc).map eI),.int (plc tr)]:=by
        unfold mcut eM
        simp only [if_neg htr]
       rw [hmc] at hxk
       have hpl:=a_place R tr d1 d2
       rw [← hT] at hpl
       ((repeat' (first|with_reducible (first|refine Q1 ?_|refine Q2 ?_|refine Q3 ?_|refine Q4 ?_|refine Q5 ?_|refine Q6 ?_|refine Q7 ?_|refine Q8 ?_|refine Q9 ?_|refine Qa ?_|refine Qb ?_|refine Qc ?_|refine Qd ?_|refine Qe ?_|refine Qf ?_)|((with_reducible refine Qo ?_ ?_);focus rfl)|((with_reducible first|refine QT 34 (l:=?_) ?_ ?_|refine QF 34 (l:=?_) ?_ ?_);rotate_left 1;focus (simp only [Zu,Nat.reduceSub,Nat.reduceBEq];with_reducible rfl))|((with_reducible refine QC (b:=?_) ?_ ?_);rotate_left 1;focus ((with_reducible refine QW ?_);simp only [Zg,seval,if_true,if_false,reduceCtorEq,Nat.reduceEqDiff,t1,List.length_map];with_reducible rfl))));((with_reducible refine QS (cfg_ok 68) Tab.none (s':=?_) ?_ ?_);rotate_left 1;focus ((with_reducible refine QW ?_);simp only [Zg,seval,if_true,if_false,reduceCtorEq,Nat.reduceEqDiff,t1,List.length_map];with_reducible rfl));(repeat' (first|with_reducible (first|refine Q1 ?_|refine Q2 ?_|refine Q3 ?_|refine Q4 ?_|refine Q5 ?_|refine Q6 ?_|refine Q7 ?_|refine Q8 ?_|refine Q9 ?_|refine Qa ?_|refine Qb ?_|refine Qc ?_|refine Qd ?_|refine Qe ?_|refine Qf ?_)|((with_reducible refine Qo ?_ ?_);focus rfl)|((with_reducible first|refine QT 34 (l:=?_) ?_ ?_|refine QF 34 (l:=?_) ?_ ?_);rotate_left 1;focus (simp only [Zu,Nat.reduceSub,Nat.reduceBEq];with_reducible rfl))|((with_reducible refine QC (b:=?_) ?_ ?_);rotate_left 1;focus ((with_reducible refine QW ?_);simp only [Zg,seval,if_true,if_false,reduceCtorEq,Nat.reduceEqDiff,t1,List.length_map];with_reducible rfl)))))
       ((repeat' (first|with_reducible (first|refine Q1 ?_|refine Q2 ?_|refine Q3 ?_|refine Q4 ?_|refine Q5 ?_|refine Q6 ?_|refine Q7 ?_|refine Q8 ?_|refine Q9 ?_|refine Qa ?_|refine Qb ?_|refine Qc ?_|refine Qd ?_|refine Qe ?_|refine Qf ?_)|((with_reducible refine Qo ?_ ?_);focus rfl)|((with_reducible first|refine QT 34 (l:=?_) ?_ ?_|refine QF 34 (l:=?_) ?_ ?_);rotate_left 1;focus (simp only [Zu,Nat.reduceSub,Nat.reduceBEq];with_reducible rfl))|((with_reducible refine QC (b:=?_) ?_ ?_);rotate_left 1;focus ((with_reducible refine QW ?_);simp only [Zg,seval,if_true,if_false,reduceCtorEq,Nat.reduceEqDiff,t1];with_reducible rfl))));(with_reducible refine RunK.regCut (cfg_ok 68) Tab.none 0 (s1:=?_) ?_ ?_);rotate_left 1;(focus ((with_reducible refine QW ?_);simp only [Zg,seval,if_true,if_false,reduceCtorEq,Nat.reduceEqDiff,t1];with_reducible rfl));simp only [List.toList_toArray,List.drop_succ_cons,List.drop_zero])
       refine ROps.loadA (cfg_ok 68) (d:=50) rfl rfl rfl (by decide) rfl rfl (cs:=[.val (.sl 1 T),.own 5001 i]) rfl (av:=.agg [.val (.sl 1 T),.own 5001 i]) rfl ?_
       (refine ROps.opsT (cfg_ok 68) (T:=Tab.none.at' 36 hpl) (s':=?_) ?_ ?_;rotate_left 1;focus (simp only [Zg,seval,if_true,if_false,reduceCtorEq,Nat.reduceEqDiff];with_reducible rfl))
       repeat' (first|with_reducible (first|refine Q1 ?_|refine Q2 ?_|refine Q3 ?_|refine Q4 ?_|refine Q5 ?_|refine Q6 ?_|refine Q7 ?_|refine Q8 ?_|refine Q9 ?_|refine Qa ?_|refine Qb ?_|refine Qc ?_|refine Qd ?_|refine Qe ?_|refine Qf ?_)|((with_reducible refine Qo ?_ ?_);focus rfl)|((with_reducible first|refine QT 34 (l:=?_) ?_ ?_|refine QF 34 (l:=?_) ?_ ?_);rotate_left 1;focus (simp only [Zu,Nat.reduceSub,Nat.reduceBEq];with_reducible rfl))|((with_reducible first|refine QS (cfg_ok 68) Tab.none (s':=?_) ?_ ?_|refine QC (b:=?_) ?_ ?_);rotate_left 1;focus ((with_reducible refine QW ?_);simp only [Zg,seval,if_true,if_false,reduceCtorEq,Nat.reduceEqDiff,hrl,hwj,q1,q2,List.length_map];with_reducible rfl))|((with_reducible refine QD (cfg_ok 68) Tab.none mixed_ok (tr:=?_) (s':=?_) ?_ ?_ ?_);rotate_left 2;(focus ((with_reducible refine QW ?_);simp only [Zg,Zd,seval,if_true,if_false,reduceCtorEq,Nat.reduceEqDiff,hrl,hwj,q1,q2,List.length_map];with_reducible rfl));focus ((with_reducible refine QK ?_);simp only [Zk];kernel_rfl)))
       refine roundK.on (j + 1) ⟨hjL,by omega⟩ ?_
       rw [hxk]
       (repeat' (first|with_reducible refine Qn|((with_reducible refine Qr ?_ ?_);focus (first|with_reducible rfl|(simp only [Zz,Nat.reduceBEq];done)|rfl))|((with_reducible refine Qj (o':=?_) ?_ ?_ ?_);rotate_left 1;focus rfl)|((with_reducible refine Qw ?_ ?_);(focus (first|with_reducible rfl|(simp only [Zv];done)));focus (first|exact id|exact (fun h => nomatch h)|exact (fun _ => rfl)))))
       all_goals exact ⟨rfl,rfl⟩
    ·have j1:((j:Int) < (L.length:Int)) = False:=eq_false (by omega)
     obtain rfl:j = L.length:=by omega
     repeat' (first|with_reducible (first|refine Q1 ?_|refine Q2 ?_|refine Q3 ?_|refine Q4 ?_|refine Q5 ?_|refine Q6 ?_|refine Q7 ?_|refine Q8 ?_|refine Q9 ?_|refine Qa ?_|refine Qb ?_|refine Qc ?_|refine Qd ?_|refine Qe ?_|refine Qf ?_)|((with_reducible refine Qo ?_ ?_);focus rfl)|((with_reducible first|refine QT 34 (l:=?_) ?_ ?_|refine QF 34 (l:=?_) ?_ ?_);rotate_left 1;focus (simp only [Zu,Nat.reduceSub,Nat.reduceBEq];with_reducible rfl))|((with_reducible first|refine QS (cfg_ok 68) Tab.none (s':=?_) ?_ ?_|refine QC (b:=?_) ?_ ?_);rotate_left 1;focus ((with_reducible refine QW ?_);simp only [Zg,seval,if_true,if_false,reduceCtorEq,Nat.reduceEqDiff,j1];with_reducible rfl))|((with_reducible refine QD (cfg_ok 68) Tab.none mixed_ok (tr:=?_) (s':=?_) ?_ ?_ ?_);rotate_left 2;(focus ((with_reducible refine QW ?_);simp only [Zg,Zd,seval,if_true,if_false,reduceCtorEq,Nat.reduceEqDiff,j1];with_reducible rfl));focus ((with_reducible refine QK ?_);simp only [Zk];kernel_rfl)))
     refine roundK.out () trivial ?_
     rw [List.take_length]
     (repeat' (first|with_reducible refine Qn|((with_reducible refine Qr ?_ ?_);focus (first|with_reducible rfl|(simp only [Zz,Nat.reduceBEq];done)|rfl))|((with_reducible refine Qj (o':=?_) ?_ ?_ ?_);rotate_left 1;focus rfl)|((with_reducible refine Qw ?_ ?_);(focus (first|with_reducible rfl|(simp only [Zv];done)));focus (first|exact id|exact (fun h => nomatch h)|exact (fun _ => rfl)))))
     all_goals exact ⟨rfl,rfl⟩
   ·rintro _ _
    refine RunK.frz 4 ?_
    refine RunK.fits (s0:=⟨[(0,.optr 0 0 0),(1,.optr 1 0 0),(4,.c (.val (.sl 3 ((L.map mcut).map eM)))),(13,.c (.val (.sl 1 T))),(14,.c (.val (.int 37))),(15,.c (.val (.int i)))],[(0,.row 2 [[.sl 1 [],.sl 1 []]] true),(1,.lit 2 [[.val (.sl 1 T),.own 5001 i]]),(5001,.row 1 R false)]⟩) ?_ ?_
    ·(repeat' (first|with_reducible refine Qn|((with_reducible refine Qr ?_ ?_);focus (first|with_reducible rfl|(simp only [Zz,Nat.reduceBEq,St.frz,frzR,frzH,look,AV.frz,AC.frz,Obj.frz,drop];done)|rfl))|((with_reducible refine Qj (o':=?_) ?_ ?_ ?_);rotate_left 1;focus rfl)|((with_reducible refine Qw ?_ ?_);(focus (first|with_reducible rfl|(simp only [Zv,St.frz,frzR,frzH,look,AV.frz,AC.frz,Obj.frz,drop];done)));focus (first|exact id|exact (fun h => nomatch h)|exact (fun _ => rfl)))))
     all_goals first|exact ⟨rfl,rfl⟩|exact ⟨rfl,rfl,id⟩
    have q1:=big_le (n:=i + 1) (by omega)
    have q2:=big_mul (n:=i + 1) (c:=24) (by omega) (by omega)
    ((repeat' (first|with_reducible (first|refine Q1 ?_|refine Q2 ?_|refine Q3 ?_|refine Q4 ?_|refine Q5 ?_|refine Q6 ?_|refine Q7 ?_|refine Q8 ?_|refine Q9 ?_|refine Qa ?_|refine Qb ?_|refine Qc ?_|refine Qd ?_|refine Qe ?_|refine Qf ?_)|((with_reducible refine Qo ?_ ?_);focus rfl)|((with_reducible first|refine QT 34 (l:=?_) ?_ ?_|refine QF 34 (l:=?_) ?_ ?_);rotate_left 1;focus (simp only [Zu,Nat.reduceSub,Nat.reduceBEq];with_reducible rfl))|((with_reducible refine QC (b:=?_) ?_ ?_);rotate_left 1;focus ((with_reducible refine QW ?_);simp only [Zg,seval,if_true,if_false,reduceCtorEq,Nat.reduceEqDiff];with_reducible rfl))));(with_reducible refine RunK.regCut (cfg_ok 68) Tab.none 1 (s1:=?_) ?_ ?_);rotate_left 1;(focus ((with_reducible refine QW ?_);simp only [Zg,seval,if_true,if_false,reduceCtorEq,Nat.reduceEqDiff];with_reducible rfl));simp only [List.toList_toArray,List.drop_succ_cons,List.drop_zero])
    refine ROps.loadA (cfg_ok 68) (d:=61) rfl rfl rfl (by decide) rfl rfl (cs:=[.own 5001 i]) rfl (av:=.c (.own 5001 i)) rfl ?_
    ((with_reducible refine ROps.cut (cfg_ok 68) Tab.none 2 (s1:=?_) ?_ ?_);rotate_left 1;(focus ((with_reducible refine QW ?_);simp only [Zg,seval,if_true,if_false,reduceCtorEq,Nat.reduceEqDiff];with_reducible rfl));simp only [List.drop_succ_cons,List.drop_zero])
    refine ROps.killL 1 5001 (k:=2) (r:=[.val (.sl 1 T),.own 5001 i]) rfl ?_
    ((with_reducible refine ROps.cut (cfg_ok 68) Tab.none 1 (s1:=?_) ?_ ?_);rotate_left 1;(focus ((with_reducible refine QW ?_);simp only [Zg,seval,if_true,if_false,reduceCtorEq,Nat.reduceEqDiff,hRl,q1,q2,List.map_cons,List.map_nil,AC.kill];with_reducible rfl));simp only [List.drop_succ_cons,List.drop_zero])
    refine ROps.renR 64 5001 (by decide) rfl rfl rfl ?_
    ((with_reducible refine ROps.cut (cfg_ok 68) Tab.none 1 (s1:=?_) ?_ ?_);rotate_left 1;(focus ((with_reducible refine QW ?_);simp only [Zg,seval,if_true,if_false,reduceCtorEq,Nat.reduceEqDiff];with_reducible rfl));simp only [List.drop_succ_cons,List.drop_zero])
    refine ROps.storeA (cfg_ok 68) (key:=1) (j:=1) rfl rfl rfl rfl rfl rfl (cs:=[.own 5001 (i + 1)]) rfl rfl rfl (r:=[.val (.sl 1 T),.junk]) rfl (Nat.le_of_ble_eq_true rfl) ?_
    refine ROps.nil ?_
    repeat' (first|with_reducible (first|refine Q1 ?_|refine Q2 ?_|refine Q3 ?_|refine Q4 ?_|refine Q5 ?_|refine Q6 ?_|refine Q7 ?_|refine Q8 ?_|refine Q9 ?_|refine Qa ?_|refine Qb ?_|refine Qc ?_|refine Qd ?_|refine Qe ?_|refine Qf ?_)|((with_reducible refine Qo ?_ ?_);focus rfl)|((with_reducible first|refine QT 34 (l:=?_) ?_ ?_|refine QF 34 (l:=?_) ?_ ?_);rotate_left 1;focus (simp only [Zu,Nat.reduceSub,Nat.reduceBEq];with_reducible rfl))|((with_reducible first|refine QS (cfg_ok 68) Tab.none (s':=?_) ?_ ?_|refine QC (b:=?_) ?_ ?_);rotate_left 1;focus ((with_reducible refine QW ?_);simp only [Zg,seval,if_true,if_false,reduceCtorEq,Nat.reduceEqDiff,hw];with_reducible rfl))|((with_reducible refine QD (cfg_ok 68) Tab.none mixed_ok (tr:=?_) (s':=?_) ?_ ?_ ?_);rotate_left 2;(focus ((with_reducible refine QW ?_);simp only [Zg,Zd,seval,if_true,if_false,reduceCtorEq,Nat.reduceEqDiff,hw];with_reducible rfl));focus ((with_reducible refine QK ?_);simp only [Zk];kernel_rfl)))
    refine roundK.on (i + 1) ⟨by omega,by omega⟩ ?_
    rw [htk]
    (repeat' (first|with_reducible refine Qn|((with_reducible refine Qr ?_ ?_);focus (first|with_reducible rfl|(simp only [Zz,Nat.reduceBEq];done)|rfl))|((with_reducible refine Qj (o':=?_) ?_ ?_ ?_);rotate_left 1;focus rfl)|((with_reducible refine Qw ?_ ?_);(focus (first|with_reducible rfl|(simp only [Zv];done)));focus (first|exact id|exact (fun h => nomatch h)|exact (fun _ => rfl)))))
    all_goals exact ⟨rfl,rfl⟩
  ·have i1:((i:Int) < 37) = False:=eq_false (by omega)
   obtain rfl:i = 37:=by omega
   repeat' (first|with_reducible (first|refine Q1 ?_|refine Q2 ?_|refine Q3 ?_|refine Q4 ?_|refine Q5 ?_|refine Q6 ?_|refine Q7 ?_|refine Q8 ?_|refine Q9 ?_|refine Qa ?_|refine Qb ?_|refine Qc ?_|refine Qd ?_|refine Qe ?_|refine Qf ?_)|((with_reducible refine Qo ?_ ?_);focus rfl)|((with_reducible first|refine QT 34 (l:=?_) ?_ ?_|refine QF 34 (l:=?_) ?_ ?_);rotate_left 1;focus (simp only [Zu,Nat.reduceSub,Nat.reduceBEq];with_reducible rfl))|((with_reducible first|refine QS (cfg_ok 68) Tab.none (s':=?_) ?_ ?_|refine QC (b:=?_) ?_ ?_);rotate_left 1;focus ((with_reducible refine QW ?_);simp only [Zg,seval,if_true,if_false,reduceCtorEq,Nat.reduceEqDiff,i1];with_reducible rfl))|((with_reducible refine QD (cfg_ok 68) Tab.none mixed_ok (tr:=?_) (s':=?_) ?_ ?_ ?_);rotate_left 2;(focus ((with_reducible refine QW ?_);simp only [Zg,Zd,seval,if_true,if_false,reduceCtorEq,Nat.reduceEqDiff,i1];with_reducible rfl));focus ((with_reducible refine QK ?_);simp only [Zk];kernel_rfl)))
   refine roundK.out () trivial ?_
   rw [List.take_of_length_le (by rw [T6_len];omega)]
   (repeat' (first|with_reducible refine Qn|((with_reducible refine Qr ?_ ?_);focus (first|with_reducible rfl|(simp only [Zz,Nat.reduceBEq];done)|rfl))|((with_reducible refine Qj (o':=?_) ?_ ?_ ?_);rotate_left 1;focus rfl)|((with_reducible refine Qw ?_ ?_);(focus (first|with_reducible rfl|(simp only [Zv];done)));focus (first|exact id|exact (fun h => nomatch h)|exact (fun _ => rfl)))))
   all_goals exact ⟨rfl,rfl⟩
 ·rintro _ _
  refine RunK.frz 5001 ?_
  refine RunK.fits (s0:=⟨[(0,.optr 0 0 0),(1,.optr 1 0 0)],[(0,.row 2 [[.sl 1 [],.sl 1 []]] true),(1,.lit 2 [[.val (.sl 1 T),.val (.sl 1 ((T6.map cutsM).map eMs))]])]⟩) ?_ ?_
  ·(repeat' (first|with_reducible refine Qn|((with_reducible refine Qr ?_ ?_);focus (first|with_reducible rfl|(simp only [Zz,Nat.reduceBEq,St.frz,frzR,frzH,look,AV.frz,AC.frz,Obj.frz,drop];done)|rfl))|((with_reducible refine Qj (o':=?_) ?_ ?_ ?_);rotate_left 1;focus rfl)|((with_reducible refine Qw ?_ ?_);(focus (first|with_reducible rfl|(simp only [Zv,St.frz,frzR,frzH,look,AV.frz,AC.frz,Obj.frz,drop];done)));focus (first|exact id|exact (fun h => nomatch h)|exact (fun _ => rfl)))))
   all_goals first|exact ⟨rfl,rfl⟩|exact ⟨rfl,rfl,id⟩
  refine RunK.litRow 1 [.sl 1 T,.sl 1 ((T6.map cutsM).map eMs)] rfl ?_
  repeat' (first|with_reducible (first|refine Q1 ?_|refine Q2 ?_|refine Q3 ?_|refine Q4 ?_|refine Q5 ?_|refine Q6 ?_|refine Q7 ?_|refine Q8 ?_|refine Q9 ?_|refine Qa ?_|refine Qb ?_|refine Qc ?_|refine Qd ?_|refine Qe ?_|refine Qf ?_)|((with_reducible refine Qo ?_ ?_);focus rfl)|((with_reducible first|refine QT 34 (l:=?_) ?_ ?_|refine QF 34 (l:=?_) ?_ ?_);rotate_left 1;focus (simp only [Zu,Nat.reduceSub,Nat.reduceBEq];with_reducible rfl))|((with_reducible first|refine QS (cfg_ok 68) Tab.none (s':=?_) ?_ ?_|refine QC (b:=?_) ?_ ?_);rotate_left 1;focus ((with_reducible refine QW ?_);simp only [Zg,seval,if_true,if_false,reduceCtorEq,Nat.reduceEqDiff];with_reducible rfl))|((with_reducible refine QD (cfg_ok 68) Tab.none mixed_ok (tr:=?_) (s':=?_) ?_ ?_ ?_);rotate_left 2;(focus ((with_reducible refine QW ?_);simp only [Zg,Zd,seval,if_true,if_false,reduceCtorEq,Nat.reduceEqDiff];with_reducible rfl));focus ((with_reducible refine QK ?_);simp only [Zk];kernel_rfl)))
  exact ⟨by simp,0,_,0,_,_,rfl,rfl,rfl,rfl,rfl,rfl⟩
end Go.Proofs.Ytfhmonacgmakbaa
namespace Go.Proofs.Ytfhmonacgmakbaa
open Go.RowKit
def powG:Nat→Int→Nat→Int→Int
 | 0,_,_,out => out
 | f + 1,a,k,out => if k = 0 then out else powG f (mP (a * a)) (k / 2) (if k % 2 = 1 then mP (out * a) else out)
theorem powG_zero (f:Nat) (a out:Int):powG f a 0 out = out:=by cases f <;> simp [powG]
theorem mP_bdW (n:Int):0 ≤ mP n∧mP n < 10007:=by unfold mP;omega
theorem powG_bd:∀ (f:Nat) (a:Int) (k:Nat) (out:Int),0 ≤ out∧out < 10007→0 ≤ powG f a k out∧powG f a k out < 10007
 | 0,_,_,_,h => h
 | f + 1,a,k,out,h => by
  unfold powG
  split
  ·exact h
  ·exact powG_bd f _ _ _ (by split;exact mP_bdW _;exact h)
theorem mul_bdW {a b:Int} (h1:0 ≤ a∧a < 10007) (h2:0 ≤ b∧b < 10007):0 ≤ a * b∧a * b ≤ 100140049:=by
 refine ⟨Int.mul_nonneg h1.1 h2.1,?_⟩
 have:=Int.mul_le_mul (a:=a) (b:=b) (c:=10007) (d:=10007) (by omega) (by omega) h2.1 (by omega)
 omega
set_option maxHeartbeats 4000000 in
theorem a_l01Pow (f:Nat) (a0:Int) (k0:Nat) (ha:0 ≤ a0∧a0 < 10007) (hk:k0 < 2 ^ f) (hk2:k0 ≤ 1000000000):AFn Try.prog 59 [eI a0,eI k0] (· = [.val (.int (powG f a0 k0 1))]):=by
 refine AFn.of_runs (cfg_ok 20) Try.func59 rfl rfl rfl (by simp only [List.length_cons,List.length_nil];decide) ?_
 have hres:Try.f59.results.toList = [.tmp 4]:=rfl
 have hrts:Try.f59.resultTypes.toList = [2]:=rfl
 simp only [argRegs,argAV1,eL,eI,eLL,eB,Nat.zero_add,Nat.reduceAdd]
 intro M
 refine RunK.of ?_
 repeat' (first|with_reducible (first|refine Q1 ?_|refine Q2 ?_|refine Q3 ?_|refine Q4 ?_|refine Q5 ?_|refine Q6 ?_|refine Q7 ?_|refine Q8 ?_|refine Q9 ?_|refine Qa ?_|refine Qb ?_|refine Qc ?_|refine Qd ?_|refine Qe ?_|refine Qf ?_)|((with_reducible refine Qo ?_ ?_);focus rfl)|((with_reducible first|refine QT 6 (l:=?_) ?_ ?_|refine QF 6 (l:=?_) ?_ ?_);rotate_left 1;focus (simp only [Zu,Nat.reduceSub,Nat.reduceBEq];with_reducible rfl))|((with_reducible first|refine QS (cfg_ok 20) Tab.none (s':=?_) ?_ ?_|refine QC (b:=?_) ?_ ?_);rotate_left 1;focus ((with_reducible refine QW ?_);simp only [Zg,seval,if_true,if_false,reduceCtorEq,Nat.reduceEqDiff];with_reducible rfl)))
 refine RunK.loop (β:=Nat × Int × Nat × Int) (γ:=Unit) (fun x => ⟨[(0,.c (.val (.int x.2.1))),(1,.c (.val (.int x.2.2.1))),(5,.c (.val (.int x.2.2.2)))],[]⟩) (fun x => (0 ≤ x.2.1∧x.2.1 < 10007)∧x.2.2.1 < 2 ^ x.1∧x.2.2.1 ≤ 1000000000∧(0 ≤ x.2.2.2∧x.2.2.2 < 10007)∧powG x.1 x.2.1 x.2.2.1 x.2.2.2 = powG f a0 k0 1) (fun x => x.2.2.1)
  (fun _ => ⟨[(5,.c (.val (.int (powG f a0 k0 1))))],[]⟩) (fun _ => True) (f,a0,k0,1) ⟨ha,hk,hk2,(by decide:(0:Int) ≤ 1∧(1:Int) < 10007),rfl⟩ ?_ ?_ ?_
 ·(repeat' (first|with_reducible refine Qn|((with_reducible refine Qr ?_ ?_);focus (first|with_reducible rfl|(simp only [Zz,Nat.reduceBEq];done)|rfl))|((with_reducible refine Qj (o':=?_) ?_ ?_ ?_);rotate_left 1;focus rfl)|((with_reducible refine Qw ?_ ?_);(focus (first|with_reducible rfl|(simp only [Zv];done)));focus (first|exact id|exact (fun h => nomatch h)|exact (fun _ => rfl)))))
 ·rintro ⟨g,a,k,out⟩ ⟨h1,h2,h3,h4,h5⟩
  simp only at h1 h2 h3 h4 h5 ⊢
  by_cases h:k = 0
  ·subst h
   have i1:(((0:Nat):Int) > 0) = False:=eq_false (by omega)
   rw [powG_zero] at h5
   repeat' (first|with_reducible (first|refine Q1 ?_|refine Q2 ?_|refine Q3 ?_|refine Q4 ?_|refine Q5 ?_|refine Q6 ?_|refine Q7 ?_|refine Q8 ?_|refine Q9 ?_|refine Qa ?_|refine Qb ?_|refine Qc ?_|refine Qd ?_|refine Qe ?_|refine Qf ?_)|((with_reducible refine Qo ?_ ?_);focus rfl)|((with_reducible first|refine QT 6 (l:=?_) ?_ ?_|refine QF 6 (l:=?_) ?_ ?_);rotate_left 1;focus (simp only [Zu,Nat.reduceSub,Nat.reduceBEq];with_reducible rfl))|((with_reducible first|refine QS (cfg_ok 20) Tab.none (s':=?_) ?_ ?_|refine QC (b:=?_) ?_ ?_);rotate_left 1;focus ((with_reducible refine QW ?_);simp only [Zg,seval,if_true,if_false,reduceCtorEq,Nat.reduceEqDiff,i1];with_reducible rfl)))
   refine roundK.out () trivial ?_
   rw [← h5]
   (repeat' (first|with_reducible refine Qn|((with_reducible refine Qr ?_ ?_);focus (first|with_reducible rfl|(simp only [Zz,Nat.reduceBEq];done)|rfl))|((with_reducible refine Qj (o':=?_) ?_ ?_ ?_);rotate_left 1;focus rfl)|((with_reducible refine Qw ?_ ?_);(focus (first|with_reducible rfl|(simp only [Zv];done)));focus (first|exact id|exact (fun h => nomatch h)|exact (fun _ => rfl)))))
  ·have i1:((k:Int) > 0) = True:=eq_true (by omega)
   have hq:(k:Int).tdiv 2 = ((k / 2:Nat):Int):=by rw [Int.tdiv_eq_ediv_of_nonneg (by omega)];omega
   have hr:(k:Int).tmod 2 = ((k % 2:Nat):Int):=by rw [Int.tmod_eq_emod_of_nonneg (by omega)];omega
   have hw:w64 ((k / 2:Nat):Int) = ((k / 2:Nat):Int):=w64_eq (by omega)
   obtain ⟨g,rfl⟩:∃ g',g = g' + 1:=by
    cases g with
    | zero => rw [Nat.pow_zero] at h2;omega
    | succ g => exact ⟨g,rfl⟩
   rw [Nat.pow_succ] at h2
   have haa:=mul_bdW h1 h1
   have hma:=a_l01Mul a a (by omega)
   have hst:powG (g + 1) a k out = powG g (mP (a * a)) (k / 2) (if k % 2 = 1 then mP (out * a) else out):=by
    conv => lhs;unfold powG
    rw [if_neg h]
   rw [hst] at h5
   simp only [eI] at hma
   by_cases hodd:k % 2 = 1
   ·have i2:(((k % 2:Nat):Int) == 1) = true:=beq_iff_eq.2 (by omega)
    have hoa:=mul_bdW h4 h1
    have hmo:=a_l01Mul out a (by omega)
    simp only [eI] at hmo
    rw [if_pos hodd] at h5
    ((repeat' (first|with_reducible (first|refine Q1 ?_|refine Q2 ?_|refine Q3 ?_|refine Q4 ?_|refine Q5 ?_|refine Q6 ?_|refine Q7 ?_|refine Q8 ?_|refine Q9 ?_|refine Qa ?_|refine Qb ?_|refine Qc ?_|refine Qd ?_|refine Qe ?_|refine Qf ?_)|((with_reducible refine Qo ?_ ?_);focus rfl)|((with_reducible first|refine QT 6 (l:=?_) ?_ ?_|refine QF 6 (l:=?_) ?_ ?_);rotate_left 1;focus (simp only [Zu,Nat.reduceSub,Nat.reduceBEq];with_reducible rfl))|((with_reducible refine QC (b:=?_) ?_ ?_);rotate_left 1;focus ((with_reducible refine QW ?_);simp only [Zg,seval,if_true,if_false,reduceCtorEq,Nat.reduceEqDiff,i1];with_reducible rfl))));((with_reducible refine QS (cfg_ok 20) Tab.none (s':=?_) ?_ ?_);rotate_left 1;focus ((with_reducible refine QW ?_);simp only [Zg,seval,if_true,if_false,reduceCtorEq,Nat.reduceEqDiff,i1];with_reducible rfl));(repeat' (first|with_reducible (first|refine Q1 ?_|refine Q2 ?_|refine Q3 ?_|refine Q4 ?_|refine Q5 ?_|refine Q6 ?_|refine Q7 ?_|refine Q8 ?_|refine Q9 ?_|refine Qa ?_|refine Qb ?_|refine Qc ?_|refine Qd ?_|refine Qe ?_|refine Qf ?_)|((with_reducible refine Qo ?_ ?_);focus rfl)|((with_reducible first|refine QT 6 (l:=?_) ?_ ?_|refine QF 6 (l:=?_) ?_ ?_);rotate_left 1;focus (simp only [Zu,Nat.reduceSub,Nat.reduceBEq];with_reducible rfl))|((with_reducible refine QC (b:=?_) ?_ ?_);rotate_left 1;focus ((with_reducible refine QW ?_);simp only [Zg,seval,if_true,if_false,reduceCtorEq,Nat.reduceEqDiff,i1];with_reducible rfl)))))
    ((repeat' (first|with_reducible (first|refine Q1 ?_|refine Q2 ?_|refine Q3 ?_|refine Q4 ?_|refine Q5 ?_|refine Q6 ?_|refine Q7 ?_|refine Q8 ?_|refine Q9 ?_|refine Qa ?_|refine Qb ?_|refine Qc ?_|refine Qd ?_|refine Qe ?_|refine Qf ?_)|((with_reducible refine Qo ?_ ?_);focus rfl)|((with_reducible first|refine QT 6 (l:=?_) ?_ ?_|refine QF 6 (l:=?_) ?_ ?_);rotate_left 1;focus (simp only [Zu,Nat.reduceSub,Nat.reduceBEq];with_reducible rfl))|((with_reducible refine QC (b:=?_) ?_ ?_);rotate_left 1;focus ((with_reducible refine QW ?_);simp only [Zg,seval,if_true,if_false,reduceCtorEq,Nat.reduceEqDiff,hr,i2,show ((2:Int) = 0) = False from eq_false (by decide)];with_reducible rfl))));((with_reducible refine QS (cfg_ok 20) Tab.none (s':=?_) ?_ ?_);rotate_left 1;focus ((with_reducible refine QW ?_);simp only [Zg,seval,if_true,if_false,reduceCtorEq,Nat.reduceEqDiff,hr,i2,show ((2:Int) = 0) = False from eq_false (by decide)];with_reducible rfl));(repeat' (first|with_reducible (first|refine Q1 ?_|refine Q2 ?_|refine Q3 ?_|refine Q4 ?_|refine Q5 ?_|refine Q6 ?_|refine Q7 ?_|refine Q8 ?_|refine Q9 ?_|refine Qa ?_|refine Qb ?_|refine Qc ?_|refine Qd ?_|refine Qe ?_|refine Qf ?_)|((with_reducible refine Qo ?_ ?_);focus rfl)|((with_reducible first|refine QT 6 (l:=?_) ?_ ?_|refine QF 6 (l:=?_) ?_ ?_);rotate_left 1;focus (simp only [Zu,Nat.reduceSub,Nat.reduceBEq];with_reducible rfl))|((with_reducible refine QC (b:=?_) ?_ ?_);rotate_left 1;focus ((with_reducible refine QW ?_);simp only [Zg,seval,if_true,if_false,reduceCtorEq,Nat.reduceEqDiff,hr,i2,show ((2:Int) = 0) = False from eq_false (by decide)];with_reducible rfl)))))
    ((repeat' (first|with_reducible (first|refine Q1 ?_|refine Q2 ?_|refine Q3 ?_|refine Q4 ?_|refine Q5 ?_|refine Q6 ?_|refine Q7 ?_|refine Q8 ?_|refine Q9 ?_|refine Qa ?_|refine Qb ?_|refine Qc ?_|refine Qd ?_|refine Qe ?_|refine Qf ?_)|((with_reducible refine Qo ?_ ?_);focus rfl)|((with_reducible first|refine QT 6 (l:=?_) ?_ ?_|refine QF 6 (l:=?_) ?_ ?_);rotate_left 1;focus (simp only [Zu,Nat.reduceSub,Nat.reduceBEq];with_reducible rfl))|((with_reducible refine QC (b:=?_) ?_ ?_);rotate_left 1;focus ((with_reducible refine QW ?_);simp only [Zg,seval,if_true,if_false,reduceCtorEq,Nat.reduceEqDiff,i2];with_reducible rfl))));((with_reducible refine QS (cfg_ok 20) (Tab.none.at' 43 hmo) (s':=?_) ?_ ?_);rotate_left 1;focus ((with_reducible refine QW ?_);simp only [Zg,seval,if_true,if_false,reduceCtorEq,Nat.reduceEqDiff,i2];with_reducible rfl));(repeat' (first|with_reducible (first|refine Q1 ?_|refine Q2 ?_|refine Q3 ?_|refine Q4 ?_|refine Q5 ?_|refine Q6 ?_|refine Q7 ?_|refine Q8 ?_|refine Q9 ?_|refine Qa ?_|refine Qb ?_|refine Qc ?_|refine Qd ?_|refine Qe ?_|refine Qf ?_)|((with_reducible refine Qo ?_ ?_);focus rfl)|((with_reducible first|refine QT 6 (l:=?_) ?_ ?_|refine QF 6 (l:=?_) ?_ ?_);rotate_left 1;focus (simp only [Zu,Nat.reduceSub,Nat.reduceBEq];with_reducible rfl))|((with_reducible refine QC (b:=?_) ?_ ?_);rotate_left 1;focus ((with_reducible refine QW ?_);simp only [Zg,seval,if_true,if_false,reduceCtorEq,Nat.reduceEqDiff,i2];with_reducible rfl)))))
    ((repeat' (first|with_reducible (first|refine Q1 ?_|refine Q2 ?_|refine Q3 ?_|refine Q4 ?_|refine Q5 ?_|refine Q6 ?_|refine Q7 ?_|refine Q8 ?_|refine Q9 ?_|refine Qa ?_|refine Qb ?_|refine Qc ?_|refine Qd ?_|refine Qe ?_|refine Qf ?_)|((with_reducible refine Qo ?_ ?_);focus rfl)|((with_reducible first|refine QT 6 (l:=?_) ?_ ?_|refine QF 6 (l:=?_) ?_ ?_);rotate_left 1;focus (simp only [Zu,Nat.reduceSub,Nat.reduceBEq];with_reducible rfl))|((with_reducible refine QC (b:=?_) ?_ ?_);rotate_left 1;focus ((with_reducible refine QW ?_);simp only [Zg,seval,if_true,if_false,reduceCtorEq,Nat.reduceEqDiff];with_reducible rfl))));((with_reducible refine QS (cfg_ok 20) (Tab.none.at' 43 hma) (s':=?_) ?_ ?_);rotate_left 1;focus ((with_reducible refine QW ?_);simp only [Zg,seval,if_true,if_false,reduceCtorEq,Nat.reduceEqDiff];with_reducible rfl));(repeat' (first|with_reducible (first|refine Q1 ?_|refine Q2 ?_|refine Q3 ?_|refine Q4 ?_|refine Q5 ?_|refine Q6 ?_|refine Q7 ?_|refine Q8 ?_|refine Q9 ?_|refine Qa ?_|refine Qb ?_|refine Qc ?_|refine Qd ?_|refine Qe ?_|refine Qf ?_)|((with_reducible refine Qo ?_ ?_);focus rfl)|((with_reducible first|refine QT 6 (l:=?_) ?_ ?_|refine QF 6 (l:=?_) ?_ ?_);rotate_left 1;focus (simp only [Zu,Nat.reduceSub,Nat.reduceBEq];with_reducible rfl))|((with_reducible refine QC (b:=?_) ?_ ?_);rotate_left 1;focus ((with_reducible refine QW ?_);simp only [Zg,seval,if_true,if_false,reduceCtorEq,Nat.reduceEqDiff];with_reducible rfl)))))
    repeat' (first|with_reducible (first|refine Q1 ?_|refine Q2 ?_|refine Q3 ?_|refine Q4 ?_|refine Q5 ?_|refine Q6 ?_|refine Q7 ?_|refine Q8 ?_|refine Q9 ?_|refine Qa ?_|refine Qb ?_|refine Qc ?_|refine Qd ?_|refine Qe ?_|refine Qf ?_)|((with_reducible refine Qo ?_ ?_);focus rfl)|((with_reducible first|refine QT 6 (l:=?_) ?_ ?_|refine QF 6 (l:=?_) ?_ ?_);rotate_left 1;focus (simp only [Zu,Nat.reduceSub,Nat.reduceBEq];with_reducible rfl))|((with_reducible first|refine QS (cfg_ok 20) Tab.none (s':=?_) ?_ ?_|refine QC (b:=?_) ?_ ?_);rotate_left 1;focus ((with_reducible refine QW ?_);simp only [Zg,seval,if_true,if_false,reduceCtorEq,Nat.reduceEqDiff,hq,hw,show ((2:Int) = 0) = False from eq_false (by decide)];with_reducible rfl)))
    refine roundK.on (g,mP (a * a),k / 2,mP (out * a)) ⟨⟨mP_bdW _,by show k / 2 < 2 ^ g;omega,by show k / 2 ≤ _;omega,mP_bdW _,h5⟩,by show k / 2 < k;omega⟩ ?_
    (repeat' (first|with_reducible refine Qn|((with_reducible refine Qr ?_ ?_);focus (first|with_reducible rfl|(simp only [Zz,Nat.reduceBEq];done)|rfl))|((with_reducible refine Qj (o':=?_) ?_ ?_ ?_);rotate_left 1;focus rfl)|((with_reducible refine Qw ?_ ?_);(focus (first|with_reducible rfl|(simp only [Zv];done)));focus (first|exact id|exact (fun h => nomatch h)|exact (fun _ => rfl)))))
   ·have i2:(((k % 2:Nat):Int) == 1) = false:=beq_eq_false_iff_ne.2 (by omega)
    rw [if_neg hodd] at h5
    repeat' (first|with_reducible (first|refine Q1 ?_|refine Q2 ?_|refine Q3 ?_|refine Q4 ?_|refine Q5 ?_|refine Q6 ?_|refine Q7 ?_|refine Q8 ?_|refine Q9 ?_|refine Qa ?_|refine Qb ?_|refine Qc ?_|refine Qd ?_|refine Qe ?_|refine Qf ?_)|((with_reducible refine Qo ?_ ?_);focus rfl)|((with_reducible first|refine QT 6 (l:=?_) ?_ ?_|refine QF 6 (l:=?_) ?_ ?_);rotate_left 1;focus (simp only [Zu,Nat.reduceSub,Nat.reduceBEq];with_reducible rfl))|((with_reducible first|refine QS (cfg_ok 20) (Tab.none.at' 43 hma) (s':=?_) ?_ ?_|refine QC (b:=?_) ?_ ?_);rotate_left 1;focus ((with_reducible refine QW ?_);simp only [Zg,seval,if_true,if_false,reduceCtorEq,Nat.reduceEqDiff,i1,hr,i2,hq,hw,show ((2:Int) = 0) = False from eq_false (by decide)];with_reducible rfl)))
    refine roundK.on (g,mP (a * a),k / 2,out) ⟨⟨mP_bdW _,by show k / 2 < 2 ^ g;omega,by show k / 2 ≤ _;omega,h4,h5⟩,by show k / 2 < k;omega⟩ ?_
    (repeat' (first|with_reducible refine Qn|((with_reducible refine Qr ?_ ?_);focus (first|with_reducible rfl|(simp only [Zz,Nat.reduceBEq];done)|rfl))|((with_reducible refine Qj (o':=?_) ?_ ?_ ?_);rotate_left 1;focus rfl)|((with_reducible refine Qw ?_ ?_);(focus (first|with_reducible rfl|(simp only [Zv];done)));focus (first|exact id|exact (fun h => nomatch h)|exact (fun _ => rfl)))))
 ·rintro _ _
  repeat' (first|with_reducible (first|refine Q1 ?_|refine Q2 ?_|refine Q3 ?_|refine Q4 ?_|refine Q5 ?_|refine Q6 ?_|refine Q7 ?_|refine Q8 ?_|refine Q9 ?_|refine Qa ?_|refine Qb ?_|refine Qc ?_|refine Qd ?_|refine Qe ?_|refine Qf ?_)|((with_reducible refine Qo ?_ ?_);focus rfl)|((with_reducible first|refine QT 6 (l:=?_) ?_ ?_|refine QF 6 (l:=?_) ?_ ?_);rotate_left 1;focus (simp only [Zu,Nat.reduceSub,Nat.reduceBEq];with_reducible rfl))|((with_reducible first|refine QS (cfg_ok 20) Tab.none (s':=?_) ?_ ?_|refine QC (b:=?_) ?_ ?_);rotate_left 1;focus ((with_reducible refine QW ?_);simp only [Zg,seval,if_true,if_false,reduceCtorEq,Nat.reduceEqDiff];with_reducible rfl)))
  (refine Ends.mk (by simp) (rs:=?_) (ks:=?_) hres hrts ?_ ?_ ?_;rotate_left 2;(focus (simp only [Ze,Zg,seval,if_true,if_false,reduceCtorEq,Nat.reduceEqDiff];with_reducible rfl));(focus simp);focus (first|with_reducible rfl|(simp only [Zv];done)))
set_option maxHeartbeats 4000000 in
theorem a_pow (f:Nat) (a0:Int) (k0:Nat) (ha:0 ≤ a0∧a0 < 10007) (hk:k0 < 2 ^ f) (hk2:k0 ≤ 1000000000):AFn Try.prog 47 [eI a0,eI k0] (· = [.val (.int (powG f a0 k0 1))]):=by
 refine AFn.of_runs (cfg_ok 22) Try.func47 rfl rfl rfl (by simp only [List.length_cons,List.length_nil];decide) ?_
 have hres:Try.f47.results.toList = [.tmp 4]:=rfl
 have hrts:Try.f47.resultTypes.toList = [2]:=rfl
 simp only [argRegs,argAV1,eL,eI,eLL,eB,Nat.zero_add,Nat.reduceAdd]
 intro M
 refine RunK.of ?_
 repeat' (first|with_reducible (first|refine Q1 ?_|refine Q2 ?_|refine Q3 ?_|refine Q4 ?_|refine Q5 ?_|refine Q6 ?_|refine Q7 ?_|refine Q8 ?_|refine Q9 ?_|refine Qa ?_|refine Qb ?_|refine Qc ?_|refine Qd ?_|refine Qe ?_|refine Qf ?_)|((with_reducible refine Qo ?_ ?_);focus rfl)|((with_reducible first|refine QT 6 (l:=?_) ?_ ?_|refine QF 6 (l:=?_) ?_ ?_);rotate_left 1;focus (simp only [Zu,Nat.reduceSub,Nat.reduceBEq];with_reducible rfl))|((with_reducible first|refine QS (cfg_ok 22) Tab.none (s':=?_) ?_ ?_|refine QC (b:=?_) ?_ ?_);rotate_left 1;focus ((with_reducible refine QW ?_);simp only [Zg,seval,if_true,if_false,reduceCtorEq,Nat.reduceEqDiff];with_reducible rfl)))
 refine RunK.loop (β:=Nat × Int × Nat × Int) (γ:=Unit) (fun x => ⟨[(0,.c (.val (.int x.2.1))),(1,.c (.val (.int x.2.2.1))),(5,.c (.val (.int x.2.2.2)))],[]⟩) (fun x => (0 ≤ x.2.1∧x.2.1 < 10007)∧x.2.2.1 < 2 ^ x.1∧x.2.2.1 ≤ 1000000000∧(0 ≤ x.2.2.2∧x.2.2.2 < 10007)∧powG x.1 x.2.1 x.2.2.1 x.2.2.2 = powG f a0 k0 1) (fun x => x.2.2.1)
  (fun _ => ⟨[(5,.c (.val (.int (powG f a0 k0 1))))],[]⟩) (fun _ => True) (f,a0,k0,1) ⟨ha,hk,hk2,(by decide:(0:Int) ≤ 1∧(1:Int) < 10007),rfl⟩ ?_ ?_ ?_
 ·(repeat' (first|with_reducible refine Qn|((with_reducible refine Qr ?_ ?_);focus (first|with_reducible rfl|(simp only [Zz,Nat.reduceBEq];done)|rfl))|((with_reducible refine Qj (o':=?_) ?_ ?_ ?_);rotate_left 1;focus rfl)|((with_reducible refine Qw ?_ ?_);(focus (first|with_reducible rfl|(simp only [Zv];done)));focus (first|exact id|exact (fun h => nomatch h)|exact (fun _ => rfl)))))
 ·rintro ⟨g,a,k,out⟩ ⟨h1,h2,h3,h4,h5⟩
  simp only at h1 h2 h3 h4 h5 ⊢
  by_cases h:k = 0
  ·subst h
   have i1:(((0:Nat):Int) > 0) = False:=eq_false (by omega)
   rw [powG_zero] at h5
   repeat' (first|with_reducible (first|refine Q1 ?_|refine Q2 ?_|refine Q3 ?_|refine Q4 ?_|refine Q5 ?_|refine Q6 ?_|refine Q7 ?_|refine Q8 ?_|refine Q9 ?_|refine Qa ?_|refine Qb ?_|refine Qc ?_|refine Qd ?_|refine Qe ?_|refine Qf ?_)|((with_reducible refine Qo ?_ ?_);focus rfl)|((with_reducible first|refine QT 6 (l:=?_) ?_ ?_|refine QF 6 (l:=?_) ?_ ?_);rotate_left 1;focus (simp only [Zu,Nat.reduceSub,Nat.reduceBEq];with_reducible rfl))|((with_reducible first|refine QS (cfg_ok 22) Tab.none (s':=?_) ?_ ?_|refine QC (b:=?_) ?_ ?_);rotate_left 1;focus ((with_reducible refine QW ?_);simp only [Zg,seval,if_true,if_false,reduceCtorEq,Nat.reduceEqDiff,i1];with_reducible rfl)))
   refine roundK.out () trivial ?_
   rw [← h5]
   (repeat' (first|with_reducible refine Qn|((with_reducible refine Qr ?_ ?_);focus (first|with_reducible rfl|(simp only [Zz,Nat.reduceBEq];done)|rfl))|((with_reducible refine Qj (o':=?_) ?_ ?_ ?_);rotate_left 1;focus rfl)|((with_reducible refine Qw ?_ ?_);(focus (first|with_reducible rfl|(simp only [Zv];done)));focus (first|exact id|exact (fun h => nomatch h)|exact (fun _ => rfl)))))
  ·have i1:((k:Int) > 0) = True:=eq_true (by omega)
   have hq:(k:Int).tdiv 2 = ((k / 2:Nat):Int):=by rw [Int.tdiv_eq_ediv_of_nonneg (by omega)];omega
   have hr:(k:Int).tmod 2 = ((k % 2:Nat):Int):=by rw [Int.tmod_eq_emod_of_nonneg (by omega)];omega
   have hw:w64 ((k / 2:Nat):Int) = ((k / 2:Nat):Int):=w64_eq (by omega)
   obtain ⟨g,rfl⟩:∃ g',g = g' + 1:=by
    cases g with
    | zero => rw [Nat.pow_zero] at h2;omega
    | succ g => exact ⟨g,rfl⟩
   rw [Nat.pow_succ] at h2
   have haa:=mul_bdW h1 h1
   have hma:=a_num (a * a)
   have hwa:w64 (a * a) = a * a:=w64_eq (by omega)
   have hst:powG (g + 1) a k out = powG g (mP (a * a)) (k / 2) (if k % 2 = 1 then mP (out * a) else out):=by
    conv => lhs;unfold powG
    rw [if_neg h]
   rw [hst] at h5
   simp only [eI] at hma
   by_cases hodd:k % 2 = 1
   ·have i2:(((k % 2:Nat):Int) == 1) = true:=beq_iff_eq.2 (by omega)
    have hoa:=mul_bdW h4 h1
    have hmo:=a_num (out * a)
    have hwo:w64 (out * a) = out * a:=w64_eq (by omega)
    simp only [eI] at hmo
    rw [if_pos hodd] at h5
    ((repeat' (first|with_reducible (first|refine Q1 ?_|refine Q2 ?_|refine Q3 ?_|refine Q4 ?_|refine Q5 ?_|refine Q6 ?_|refine Q7 ?_|refine Q8 ?_|refine Q9 ?_|refine Qa ?_|refine Qb ?_|refine Qc ?_|refine Qd ?_|refine Qe ?_|refine Qf ?_)|((with_reducible refine Qo ?_ ?_);focus rfl)|((with_reducible first|refine QT 6 (l:=?_) ?_ ?_|refine QF 6 (l:=?_) ?_ ?_);rotate_left 1;focus (simp only [Zu,Nat.reduceSub,Nat.reduceBEq];with_reducible rfl))|((with_reducible refine QC (b:=?_) ?_ ?_);rotate_left 1;focus ((with_reducible refine QW ?_);simp only [Zg,seval,if_true,if_false,reduceCtorEq,Nat.reduceEqDiff,i1];with_reducible rfl))));((with_reducible refine QS (cfg_ok 22) Tab.none (s':=?_) ?_ ?_);rotate_left 1;focus ((with_reducible refine QW ?_);simp only [Zg,seval,if_true,if_false,reduceCtorEq,Nat.reduceEqDiff,i1];with_reducible rfl));(repeat' (first|with_reducible (first|refine Q1 ?_|refine Q2 ?_|refine Q3 ?_|refine Q4 ?_|refine Q5 ?_|refine Q6 ?_|refine Q7 ?_|refine Q8 ?_|refine Q9 ?_|refine Qa ?_|refine Qb ?_|refine Qc ?_|refine Qd ?_|refine Qe ?_|refine Qf ?_)|((with_reducible refine Qo ?_ ?_);focus rfl)|((with_reducible first|refine QT 6 (l:=?_) ?_ ?_|refine QF 6 (l:=?_) ?_ ?_);rotate_left 1;focus (simp only [Zu,Nat.reduceSub,Nat.reduceBEq];with_reducible rfl))|((with_reducible refine QC (b:=?_) ?_ ?_);rotate_left 1;focus ((with_reducible refine QW ?_);simp only [Zg,seval,if_true,if_false,reduceCtorEq,Nat.reduceEqDiff,i1];with_reducible rfl)))))
    ((repeat' (first|with_reducible (first|refine Q1 ?_|refine Q2 ?_|refine Q3 ?_|refine Q4 ?_|refine Q5 ?_|refine Q6 ?_|refine Q7 ?_|refine Q8 ?_|refine Q9 ?_|refine Qa ?_|refine Qb ?_|refine Qc ?_|refine Qd ?_|refine Qe ?_|refine Qf ?_)|((with_reducible refine Qo ?_ ?_);focus rfl)|((with_reducible first|refine QT 6 (l:=?_) ?_ ?_|refine QF 6 (l:=?_) ?_ ?_);rotate_left 1;focus (simp only [Zu,Nat.reduceSub,Nat.reduceBEq];with_reducible rfl))|((with_reducible refine QC (b:=?_) ?_ ?_);rotate_left 1;focus ((with_reducible refine QW ?_);simp only [Zg,seval,if_true,if_false,reduceCtorEq,Nat.reduceEqDiff,hr,i2,show ((2:Int) = 0) = False from eq_false (by decide)];with_reducible rfl))));((with_reducible refine QS (cfg_ok 22) Tab.none (s':=?_) ?_ ?_);rotate_left 1;focus ((with_reducible refine QW ?_);simp only [Zg,seval,if_true,if_false,reduceCtorEq,Nat.reduceEqDiff,hr,i2,show ((2:Int) = 0) = False from eq_false (by decide)];with_reducible rfl));(repeat' (first|with_reducible (first|refine Q1 ?_|refine Q2 ?_|refine Q3 ?_|refine Q4 ?_|refine Q5 ?_|refine Q6 ?_|refine Q7 ?_|refine Q8 ?_|refine Q9 ?_|refine Qa ?_|refine Qb ?_|refine Qc ?_|refine Qd ?_|refine Qe ?_|refine Qf ?_)|((with_reducible refine Qo ?_ ?_);focus rfl)|((with_reducible first|refine QT 6 (l:=?_) ?_ ?_|refine QF 6 (l:=?_) ?_ ?_);rotate_left 1;focus (simp only [Zu,Nat.reduceSub,Nat.reduceBEq];with_reducible rfl))|((with_reducible refine QC (b:=?_) ?_ ?_);rotate_left 1;focus ((with_reducible refine QW ?_);simp only [Zg,seval,if_true,if_false,reduceCtorEq,Nat.reduceEqDiff,hr,i2,show ((2:Int) = 0) = False from eq_false (by decide)];with_reducible rfl)))))
    ((repeat' (first|with_reducible (first|refine Q1 ?_|refine Q2 ?_|refine Q3 ?_|refine Q4 ?_|refine Q5 ?_|refine Q6 ?_|refine Q7 ?_|refine Q8 ?_|refine Q9 ?_|refine Qa ?_|refine Qb ?_|refine Qc ?_|refine Qd ?_|refine Qe ?_|refine Qf ?_)|((with_reducible refine Qo ?_ ?_);focus rfl)|((with_reducible first|refine QT 6 (l:=?_) ?_ ?_|refine QF 6 (l:=?_) ?_ ?_);rotate_left 1;focus (simp only [Zu,Nat.reduceSub,Nat.reduceBEq];with_reducible rfl))|((with_reducible refine QC (b:=?_) ?_ ?_);rotate_left 1;focus ((with_reducible refine QW ?_);simp only [Zg,seval,if_true,if_false,reduceCtorEq,Nat.reduceEqDiff,i2,hwo];with_reducible rfl))));((with_reducible refine QS (cfg_ok 22) (Tab.none.at' 33 hmo) (s':=?_) ?_ ?_);rotate_left 1;focus ((with_reducible refine QW ?_);simp only [Zg,seval,if_true,if_false,reduceCtorEq,Nat.reduceEqDiff,i2,hwo];with_reducible rfl));(repeat' (first|with_reducible (first|refine Q1 ?_|refine Q2 ?_|refine Q3 ?_|refine Q4 ?_|refine Q5 ?_|refine Q6 ?_|refine Q7 ?_|refine Q8 ?_|refine Q9 ?_|refine Qa ?_|refine Qb ?_|refine Qc ?_|refine Qd ?_|refine Qe ?_|refine Qf ?_)|((with_reducible refine Qo ?_ ?_);focus rfl)|((with_reducible first|refine QT 6 (l:=?_) ?_ ?_|refine QF 6 (l:=?_) ?_ ?_);rotate_left 1;focus (simp only [Zu,Nat.reduceSub,Nat.reduceBEq];with_reducible rfl))|((with_reducible refine QC (b:=?_) ?_ ?_);rotate_left 1;focus ((with_reducible refine QW ?_);simp only [Zg,seval,if_true,if_false,reduceCtorEq,Nat.reduceEqDiff,i2,hwo];with_reducible rfl)))))
    ((repeat' (first|with_reducible (first|refine Q1 ?_|refine Q2 ?_|refine Q3 ?_|refine Q4 ?_|refine Q5 ?_|refine Q6 ?_|refine Q7 ?_|refine Q8 ?_|refine Q9 ?_|refine Qa ?_|refine Qb ?_|refine Qc ?_|refine Qd ?_|refine Qe ?_|refine Qf ?_)|((with_reducible refine Qo ?_ ?_);focus rfl)|((with_reducible first|refine QT 6 (l:=?_) ?_ ?_|refine QF 6 (l:=?_) ?_ ?_);rotate_left 1;focus (simp only [Zu,Nat.reduceSub,Nat.reduceBEq];with_reducible rfl))|((with_reducible refine QC (b:=?_) ?_ ?_);rotate_left 1;focus ((with_reducible refine QW ?_);simp only [Zg,seval,if_true,if_false,reduceCtorEq,Nat.reduceEqDiff,hwa];with_reducible rfl))));((with_reducible refine QS (cfg_ok 22) (Tab.none.at' 33 hma) (s':=?_) ?_ ?_);rotate_left 1;focus ((with_reducible refine QW ?_);simp only [Zg,seval,if_true,if_false,reduceCtorEq,Nat.reduceEqDiff,hwa];with_reducible rfl));(repeat' (first|with_reducible (first|refine Q1 ?_|refine Q2 ?_|refine Q3 ?_|refine Q4 ?_|refine Q5 ?_|refine Q6 ?_|refine Q7 ?_|refine Q8 ?_|refine Q9 ?_|refine Qa ?_|refine Qb ?_|refine Qc ?_|refine Qd ?_|refine Qe ?_|refine Qf ?_)|((with_reducible refine Qo ?_ ?_);focus rfl)|((with_reducible first|refine QT 6 (l:=?_) ?_ ?_|refine QF 6 (l:=?_) ?_ ?_);rotate_left 1;focus (simp only [Zu,Nat.reduceSub,Nat.reduceBEq];with_reducible rfl))|((with_reducible refine QC (b:=?_) ?_ ?_);rotate_left 1;focus ((with_reducible refine QW ?_);simp only [Zg,seval,if_true,if_false,reduceCtorEq,Nat.reduceEqDiff,hwa];with_reducible rfl)))))
    repeat' (first|with_reducible (first|refine Q1 ?_|refine Q2 ?_|refine Q3 ?_|refine Q4 ?_|refine Q5 ?_|refine Q6 ?_|refine Q7 ?_|refine Q8 ?_|refine Q9 ?_|refine Qa ?_|refine Qb ?_|refine Qc ?_|refine Qd ?_|refine Qe ?_|refine Qf ?_)|((with_reducible refine Qo ?_ ?_);focus rfl)|((with_reducible first|refine QT 6 (l:=?_) ?_ ?_|refine QF 6 (l:=?_) ?_ ?_);rotate_left 1;focus (simp only [Zu,Nat.reduceSub,Nat.reduceBEq];with_reducible rfl))|((with_reducible first|refine QS (cfg_ok 22) Tab.none (s':=?_) ?_ ?_|refine QC (b:=?_) ?_ ?_);rotate_left 1;focus ((with_reducible refine QW ?_);simp only [Zg,seval,if_true,if_false,reduceCtorEq,Nat.reduceEqDiff,hq,hw,show ((2:Int) = 0) = False from eq_false (by decide)];with_reducible rfl)))
    refine roundK.on (g,mP (a * a),k / 2,mP (out * a)) ⟨⟨mP_bdW _,by show k / 2 < 2 ^ g;omega,by show k / 2 ≤ _;omega,mP_bdW _,h5⟩,by show k / 2 < k;omega⟩ ?_
    (repeat' (first|with_reducible refine Qn|((with_reducible refine Qr ?_ ?_);focus (first|with_reducible rfl|(simp only [Zz,Nat.reduceBEq];done)|rfl))|((with_reducible refine Qj (o':=?_) ?_ ?_ ?_);rotate_left 1;focus rfl)|((with_reducible refine Qw ?_ ?_);(focus (first|with_reducible rfl|(simp only [Zv];done)));focus (first|exact id|exact (fun h => nomatch h)|exact (fun _ => rfl)))))
   ·have i2:(((k % 2:Nat):Int) == 1) = false:=beq_eq_false_iff_ne.2 (by omega)
    rw [if_neg hodd] at h5
    repeat' (first|with_reducible (first|refine Q1 ?_|refine Q2 ?_|refine Q3 ?_|refine Q4 ?_|refine Q5 ?_|refine Q6 ?_|refine Q7 ?_|refine Q8 ?_|refine Q9 ?_|refine Qa ?_|refine Qb ?_|refine Qc ?_|refine Qd ?_|refine Qe ?_|refine Qf ?_)|((with_reducible refine Qo ?_ ?_);focus rfl)|((with_reducible first|refine QT 6 (l:=?_) ?_ ?_|refine QF 6 (l:=?_) ?_ ?_);rotate_left 1;focus (simp only [Zu,Nat.reduceSub,Nat.reduceBEq];with_reducible rfl))|((with_reducible first|refine QS (cfg_ok 22) (Tab.none.at' 33 hma) (s':=?_) ?_ ?_|refine QC (b:=?_) ?_ ?_);rotate_left 1;focus ((with_reducible refine QW ?_);simp only [Zg,seval,if_true,if_false,reduceCtorEq,Nat.reduceEqDiff,hwa,i1,hr,i2,hq,hw,show ((2:Int) = 0) = False from eq_false (by decide)];with_reducible rfl)))
    refine roundK.on (g,mP (a * a),k / 2,out) ⟨⟨mP_bdW _,by show k / 2 < 2 ^ g;omega,by show k / 2 ≤ _;omega,h4,h5⟩,by show k / 2 < k;omega⟩ ?_
    (repeat' (first|with_reducible refine Qn|((with_reducible refine Qr ?_ ?_);focus (first|with_reducible rfl|(simp only [Zz,Nat.reduceBEq];done)|rfl))|((with_reducible refine Qj (o':=?_) ?_ ?_ ?_);rotate_left 1;focus rfl)|((with_reducible refine Qw ?_ ?_);(focus (first|with_reducible rfl|(simp only [Zv];done)));focus (first|exact id|exact (fun h => nomatch h)|exact (fun _ => rfl)))))
 ·rintro _ _
  repeat' (first|with_reducible (first|refine Q1 ?_|refine Q2 ?_|refine Q3 ?_|refine Q4 ?_|refine Q5 ?_|refine Q6 ?_|refine Q7 ?_|refine Q8 ?_|refine Q9 ?_|refine Qa ?_|refine Qb ?_|refine Qc ?_|refine Qd ?_|refine Qe ?_|refine Qf ?_)|((with_reducible refine Qo ?_ ?_);focus rfl)|((with_reducible first|refine QT 6 (l:=?_) ?_ ?_|refine QF 6 (l:=?_) ?_ ?_);rotate_left 1;focus (simp only [Zu,Nat.reduceSub,Nat.reduceBEq];with_reducible rfl))|((with_reducible first|refine QS (cfg_ok 22) Tab.none (s':=?_) ?_ ?_|refine QC (b:=?_) ?_ ?_);rotate_left 1;focus ((with_reducible refine QW ?_);simp only [Zg,seval,if_true,if_false,reduceCtorEq,Nat.reduceEqDiff];with_reducible rfl)))
  (refine Ends.mk (by simp) (rs:=?_) (ks:=?_) hres hrts ?_ ?_ ?_;rotate_left 2;(focus (simp only [Ze,Zg,seval,if_true,if_false,reduceCtorEq,Nat.reduceEqDiff];with_reducible rfl));(focus simp);focus (first|with_reducible rfl|(simp only [Zv];done)))
theorem a_inv (a:Int) (ha:0 ≤ a∧a < 10007):AFn Try.prog 32 [eI a] (· = [.val (.int (powG 14 a 10005 1))]):=by
 have h:=a_pow 14 a 10005 ha (by decide) (by decide)
 simp only [eI,show ((10005:Nat):Int) = 10005 from rfl] at h
 refine AFn.of_runs (cfg_ok 5) Try.func32 rfl rfl rfl (by simp only [List.length_cons,List.length_nil];decide) ?_
 have hres:Try.f32.results.toList = [.tmp 2]:=rfl
 have hrts:Try.f32.resultTypes.toList = [2]:=rfl
 simp only [argRegs,argAV1,eL,eI,eLL,eB,Nat.zero_add,Nat.reduceAdd]
 intro M
 refine RunK.of ?_
 repeat' (first|with_reducible (first|refine Q1 ?_|refine Q2 ?_|refine Q3 ?_|refine Q4 ?_|refine Q5 ?_|refine Q6 ?_|refine Q7 ?_|refine Q8 ?_|refine Q9 ?_|refine Qa ?_|refine Qb ?_|refine Qc ?_|refine Qd ?_|refine Qe ?_|refine Qf ?_)|((with_reducible refine Qo ?_ ?_);focus rfl)|((with_reducible first|refine QT 3 (l:=?_) ?_ ?_|refine QF 3 (l:=?_) ?_ ?_);rotate_left 1;focus (simp only [Zu,Nat.reduceSub,Nat.reduceBEq];with_reducible rfl))|((with_reducible first|refine QS (cfg_ok 5) (Tab.none.at' 47 h) (s':=?_) ?_ ?_|refine QC (b:=?_) ?_ ?_);rotate_left 1;focus ((with_reducible refine QW ?_);simp only [Zg,seval,if_true,if_false,reduceCtorEq,Nat.reduceEqDiff];with_reducible rfl)))
 (refine Ends.mk (by simp) (rs:=?_) (ks:=?_) hres hrts ?_ ?_ ?_;rotate_left 2;(focus (simp only [Ze,Zg,seval,if_true,if_false,reduceCtorEq,Nat.reduceEqDiff];with_reducible rfl));(focus simp);focus (first|with_reducible rfl|(simp only [Zv];done)))
theorem a_l01Inv (a:Int) (ha:0 ≤ a∧a < 10007):AFn Try.prog 45 [eI a] (· = [.val (.int (powG 14 a 10005 1))]):=by
 have h:=a_l01Pow 14 a 10005 ha (by decide) (by decide)
 simp only [eI,show ((10005:Nat):Int) = 10005 from rfl] at h
 refine AFn.of_runs (cfg_ok 5) Try.func45 rfl rfl rfl (by simp only [List.length_cons,List.length_nil];decide) ?_
 have hres:Try.f45.results.toList = [.tmp 2]:=rfl
 have hrts:Try.f45.resultTypes.toList = [2]:=rfl
 simp only [argRegs,argAV1,eL,eI,eLL,eB,Nat.zero_add,Nat.reduceAdd]
 intro M
 refine RunK.of ?_
 repeat' (first|with_reducible (first|refine Q1 ?_|refine Q2 ?_|refine Q3 ?_|refine Q4 ?_|refine Q5 ?_|refine Q6 ?_|refine Q7 ?_|refine Q8 ?_|refine Q9 ?_|refine Qa ?_|refine Qb ?_|refine Qc ?_|refine Qd ?_|refine Qe ?_|refine Qf ?_)|((with_reducible refine Qo ?_ ?_);focus rfl)|((with_reducible first|refine QT 3 (l:=?_) ?_ ?_|refine QF 3 (l:=?_) ?_ ?_);rotate_left 1;focus (simp only [Zu,Nat.reduceSub,Nat.reduceBEq];with_reducible rfl))|((with_reducible first|refine QS (cfg_ok 5) (Tab.none.at' 59 h) (s':=?_) ?_ ?_|refine QC (b:=?_) ?_ ?_);rotate_left 1;focus ((with_reducible refine QW ?_);simp only [Zg,seval,if_true,if_false,reduceCtorEq,Nat.reduceEqDiff];with_reducible rfl)))
 (refine Ends.mk (by simp) (rs:=?_) (ks:=?_) hres hrts ?_ ?_ ?_;rotate_left 2;(focus (simp only [Ze,Zg,seval,if_true,if_false,reduceCtorEq,Nat.reduceEqDiff];with_reducible rfl));(focus simp);focus (first|with_reducible rfl|(simp only [Zv];done)))
theorem a_l01Frac1 (q:Int):AFn Try.prog 30 [eI 1,eI q] (· = [.val (.int (powG 14 (mP q) 10005 1))]):=by
 have h1:=a_l01Mod 1
 have h2:=a_l01Mod q
 have h3:=a_l01Inv (mP q) (mP_bdW q)
 have hb:=powG_bd 14 (mP q) 10005 1 (by decide:(0:Int) ≤ 1∧(1:Int) < 10007)
 obtain ⟨z,hz⟩:∃ z,z = powG 14 (mP q) 10005 1:=⟨_,rfl⟩
 rw [← hz] at h3 hb ⊢
 have h4:=a_l01Mul (mP 1) z (by rw [show mP 1 = 1 from rfl];omega)
 have h5:mP (mP 1 * z) = z:=by rw [show mP 1 = 1 from rfl,Int.one_mul];unfold mP;omega
 rw [h5] at h4
 simp only [eI] at h1 h2 h3 h4
 refine AFn.of_runs (cfg_ok 11) Try.func30 rfl rfl rfl (by simp only [List.length_cons,List.length_nil];decide) ?_
 have hres:Try.f30.results.toList = [.tmp 4]:=rfl
 have hrts:Try.f30.resultTypes.toList = [2]:=rfl
 simp only [argRegs,argAV1,eL,eI,eLL,eB,Nat.zero_add,Nat.reduceAdd]
 intro M
 refine RunK.of ?_
 repeat' (first|with_reducible (first|refine Q1 ?_|refine Q2 ?_|refine Q3 ?_|refine Q4 ?_|refine Q5 ?_|refine Q6 ?_|refine Q7 ?_|refine Q8 ?_|refine Q9 ?_|refine Qa ?_|refine Qb ?_|refine Qc ?_|refine Qd ?_|refine Qe ?_|refine Qf ?_)|((with_reducible refine Qo ?_ ?_);focus rfl)|((with_reducible first|refine QT 5 (l:=?_) ?_ ?_|refine QF 5 (l:=?_) ?_ ?_);rotate_left 1;focus (simp only [Zu,Nat.reduceSub,Nat.reduceBEq];with_reducible rfl))|((with_reducible first|refine QS (cfg_ok 11) (((TMod.at' 45 h3).at' 43 h4)) (s':=?_) ?_ ?_|refine QC (b:=?_) ?_ ?_);rotate_left 1;focus ((with_reducible refine QW ?_);simp only [Zg,seval,if_true,if_false,reduceCtorEq,Nat.reduceEqDiff,TMod];with_reducible rfl)))
 (refine Ends.mk (by simp) (rs:=?_) (ks:=?_) hres hrts ?_ ?_ ?_;rotate_left 2;(focus (simp only [Ze,Zg,seval,if_true,if_false,reduceCtorEq,Nat.reduceEqDiff];with_reducible rfl));(focus simp);focus (first|with_reducible rfl|(simp only [Zv];done)))
end Go.Proofs.Ytfhmonacgmakbaa
namespace Go.Proofs.Ytfhmonacgmakbaa
open Go.RowKit
def densF:Nat→List Int→Int
 | 0,_ => 0
 | f + 1,t => (brs t).foldl (fun o b => wrap64 (o * densF f b)) t.length
def densTo (f:Nat) (t:List Int) (k:Nat):Int:=((brs t).take k).foldl (fun o b => wrap64 (o * densF f b)) t.length
theorem densTo_succ (f:Nat) (t:List Int) (k:Nat) (h:k < (brs t).length):densTo f t (k + 1) = wrap64 (densTo f t k * densF f (brs t)[k]):=by
 unfold densTo
 rw [List.take_succ_eq_append_getElem h,List.foldl_append];rfl
set_option maxRecDepth 100000 in
set_option maxHeartbeats 400000 in
theorem c_impl_length (v:Value) (t:List Int) (w:World) (h:Rd (RS RI) w [v] t):Calls Try.prog 48 #[v] w (RetS w (.int .i64 t.length)):=by
 obtain ⟨oa,c1,rfl,m1,m2⟩:=h.val
 unfold maxLen at m2
 go_enter Try.func48,Try.ntmps48
 go_wp2_with fail
 go_ret
 exact ⟨rfl,rfl⟩
set_option maxRecDepth 100000 in
set_option maxHeartbeats 1000000 in
theorem c_impl_density:∀ (n:Nat) (v:Value) (t:List Int) (w:World),Rd (RS RI) w [v] t→LevP t→t.length ≤ n→t.length ≤ 1000000 →
  Calls Try.prog 34 #[v] w (RetV w (.int .i64 (densF n t))):=by
 intro n
 induction n with
 | zero => intro v t w h hl hn h13;have:=hl.pos;omega
 | succ n ih =>
  intro v t w h hl hn h13
  have hb:=c_impl_branchesOf v t w h hl (by omega)
  have hln:=c_impl_length v t w h
  have HL:=Lib.hid hl
  have IH:=Lib.hid ih
  have hfew:=brs_few hl
  clear h hl ih
  go_enter Try.func34,Try.ntmps34
  go_wp2_with (first|(go_at_call 48;refine hln.mono ?_;rintro e w1 ⟨rfl,rfl⟩)|(go_at_call 49;refine hb.mono ?_;rintro e w1 ⟨u,rfl,o1,b1⟩;obtain ⟨oa,cap,rfl,l1,l2⟩:=o1.val))
  have hsz1:=b1.size
  obtain ⟨oa1,cap1,L⟩:=o1.rd.lists
  have hval:=L.val
  simp only [Value.slice.injEq,true_and] at hval
  obtain ⟨rfl,rfl⟩:=hval
  have HLs:=Lib.hid L
  clear L o1 hb hln
  go_loopw [3,11] (fun o i wr => ∃ k:Nat,k ≤ (brs t).length∧i = .int .i64 k∧o = .int .i64 (densTo n t k)∧Below w1.heap.size w1 wr) (fun _ i _ => (brs t).length - (intOf i).toNat)
  case atStart => exact ⟨0,Nat.zero_le _,rfl,by simp [densTo],Below.refl _ _⟩
  case round =>
   obtain ⟨k,hk,rfl,rfl,hbel⟩:=hrel
   by_cases hlt:k < (brs t).length
   ·obtain ⟨b,off,rfl,hb,hc⟩:=HLs.out.get hlt
    obtain ⟨oi,ci,g1,hrd,q1,q2⟩:=hc k hlt
    have g2:wr.cell? ⟨b,off + k,none⟩ = some (.slice oi (brs t)[k].length ci):=(hbel.cell (p:=⟨b,off + k,none⟩) hb).trans g1
    have hmem:=List.getElem_mem hlt
    have hshort:=brs_short HL.out _ hmem
    have hc2:=IH.out (.slice oi (brs t)[k].length ci) (brs t)[k] wr (hrd.below hbel (Nat.le_refl _)) (brs_lev HL.out _ hmem) (by omega) (by omega)
    have hnx:=densTo_succ n t k hlt
    obtain ⟨q,hq⟩:∃ q,q = densTo n t k:=⟨_,rfl⟩
    obtain ⟨y,hy⟩:∃ y,y = densF n (brs t)[k]:=⟨_,rfl⟩
    obtain ⟨xl,hxl⟩:∃ xl,xl = (brs t)[k].length:=⟨_,rfl⟩
    rw [← hq,← hy] at hnx
    rw [← hy,← hxl] at hc2
    rw [← hxl] at g2 q1
    rw [← hq]
    obtain ⟨g,hg⟩:∃ g,wrap64 (q * y) = g:=⟨_,rfl⟩
    have hw:IntKind.i64.wrap (q * y) = g:=(IntWalk.i64_left _).trans hg
    rw [hg] at hnx
    have HN:=Lib.hid hnx
    clear hc g1 hrd hnx hq hy hxl hmem
    go_wp2_with (go_at_call 34;refine hc2.mono ?_;rintro e w2 ⟨rfl,b2⟩)
    have hb2:Below w1.heap.size w1 w2:=hbel.trans (b2.mono hbel.size)
    clear hc2
    go_wp2_with fail
    go_roundw
    case rel => exact ⟨k + 1,by omega,by go_num,by simp only [HN.out],hb2⟩
    case measure => simp [intOf];omega
   ·have hfin:densTo n t k = densF (n + 1) t:=by
     show densTo n t k = (brs t).foldl (fun o b => wrap64 (o * densF n b)) t.length
     unfold densTo
     rw [List.take_of_length_le (by omega)]
    rw [hfin]
    go_wp2_with fail
    go_ret
    exact ⟨rfl,b1.trans (hbel.mono hsz1)⟩
set_option maxRecDepth 100000 in
set_option maxHeartbeats 1000000 in
theorem c_spec_l03Density:∀ (n:Nat) (v:Value) (t:List Int) (w:World),Rd (RS RI) w [v] t→LevP t→t.length ≤ n→t.length ≤ 1000000 →
  Calls Try.prog 31 #[v] w (RetV w (.int .i64 (densF n t))):=by
 intro n
 induction n with
 | zero => intro v t w h hl hn h13;have:=hl.pos;omega
 | succ n ih =>
  intro v t w h hl hn h13
  obtain ⟨oa0,c0,rfl,m1,m2⟩:=h.val
  unfold maxLen at m2
  have hb:=c_spec_l03Parts _ t w h hl (by omega)
  have HL:=Lib.hid hl
  have IH:=Lib.hid ih
  have hfew:=brs_few hl
  clear h hl ih
  go_enter Try.func31,Try.ntmps31
  go_wp2_with (go_at_call 46;refine hb.mono ?_;rintro e w1 ⟨u,rfl,o1,b1⟩;obtain ⟨oa,cap,rfl,l1,l2⟩:=o1.val)
  have hsz1:=b1.size
  obtain ⟨oa1,cap1,L⟩:=o1.rd.lists
  have hval:=L.val
  simp only [Value.slice.injEq,true_and] at hval
  obtain ⟨rfl,rfl⟩:=hval
  have HLs:=Lib.hid L
  clear L o1 hb
  go_loopw [3,5] (fun o i wr => ∃ k:Nat,k ≤ (brs t).length∧i = .int .i64 k∧o = .int .i64 (densTo n t k)∧Below w1.heap.size w1 wr) (fun _ i _ => (brs t).length - (intOf i).toNat)
  case atStart => exact ⟨0,Nat.zero_le _,rfl,by simp [densTo],Below.refl _ _⟩
  case round =>
   obtain ⟨k,hk,rfl,rfl,hbel⟩:=hrel
   by_cases hlt:k < (brs t).length
   ·obtain ⟨b,off,rfl,hb,hc⟩:=HLs.out.get hlt
    obtain ⟨oi,ci,g1,hrd,q1,q2⟩:=hc k hlt
    have g2:wr.cell? ⟨b,off + k,none⟩ = some (.slice oi (brs t)[k].length ci):=(hbel.cell (p:=⟨b,off + k,none⟩) hb).trans g1
    have hmem:=List.getElem_mem hlt
    have hshort:=brs_short HL.out _ hmem
    have hc2:=IH.out (.slice oi (brs t)[k].length ci) (brs t)[k] wr (hrd.below hbel (Nat.le_refl _)) (brs_lev HL.out _ hmem) (by omega) (by omega)
    have hnx:=densTo_succ n t k hlt
    obtain ⟨q,hq⟩:∃ q,q = densTo n t k:=⟨_,rfl⟩
    obtain ⟨y,hy⟩:∃ y,y = densF n (brs t)[k]:=⟨_,rfl⟩
    obtain ⟨xl,hxl⟩:∃ xl,xl = (brs t)[k].length:=⟨_,rfl⟩
    rw [← hq,← hy] at hnx
    rw [← hy,← hxl] at hc2
    rw [← hxl] at g2 q1
    rw [← hq]
    obtain ⟨g,hg⟩:∃ g,wrap64 (q * y) = g:=⟨_,rfl⟩
    have hw:IntKind.i64.wrap (q * y) = g:=(IntWalk.i64_left _).trans hg
    rw [hg] at hnx
    have HN:=Lib.hid hnx
    clear hc g1 hrd hnx hq hy hxl hmem
    go_wp2_with (go_at_call 31;refine hc2.mono ?_;rintro e w2 ⟨rfl,b2⟩)
    have hb2:Below w1.heap.size w1 w2:=hbel.trans (b2.mono hbel.size)
    clear hc2
    go_wp2_with fail
    go_roundw
    case rel => exact ⟨k + 1,by omega,by go_num,by simp only [HN.out],hb2⟩
    case measure => simp [intOf];omega
   ·have hfin:densTo n t k = densF (n + 1) t:=by
     show densTo n t k = (brs t).foldl (fun o b => wrap64 (o * densF n b)) t.length
     unfold densTo
     rw [List.take_of_length_le (by omega)]
    rw [hfin]
    go_wp2_with fail
    go_ret
    exact ⟨rfl,b1.trans (hbel.mono hsz1)⟩
end Go.Proofs.Ytfhmonacgmakbaa
namespace Go.Proofs.Ytfhmonacgmakbaa
open Go.RowKit
def unitMap:List Int:=1 :: List.replicate 37 0
set_option maxRecDepth 100000 in
set_option maxHeartbeats 400000 in
theorem k_impl_UnitMap (w:World):Calls Try.prog 24 #[] w (RetO (RS RI) w unitMap):=by
 go_enter Try.func24,Try.ntmps24
 go_wp2_with (at_make;refine wpList_makeI rfl _ _ 22 rfl 2 tI64 _ _ _ _ 38 rfl rfl rfl rfl (by omega) ?_;intro w1 hrow hb;have hc:=hrow.cells 0 (.int .i64 0) rfl;have hfz:=hrow.frozen 0;have hst:=(hrow.store 0 (.int .i64 1)).1;have hb':Below w.heap.size w (w1.setCell ⟨w.heap.size,0,none⟩ (.int .i64 1)):=hb.setCell (Nat.le_refl _) _;rw [map_set_int] at hst;clear hrow hb)
 go_ret
 exact ⟨_,rfl,Row.OwnI (xs:=unitMap) hst (by decide) (fun g hg => by cases hg;exact Nat.le_refl _),hb'⟩
end Go.Proofs.Ytfhmonacgmakbaa
namespace Go.Proofs.Ytfhmonacgmakbaa
open Go.RowKit
theorem AFn.of_v {P:Program} {f:FuncId} {ds:List (List D)} {d:D} {v:Value} (eg:∀ args w,(callFunc f args).run P w = .ok (.enter f args) w) (hd:∀ A w,rdV A w v d)
  (h:∀ (w:World) (A:Nat→Prop) vs,relArgs A w ds vs→Calls P f vs.toArray w (RetV w v)):AFn P f ds (· = [.val d]):=by
 refine ⟨eg,fun A w vs hA hv => (h w A vs hv).mono ?_⟩
 rintro e w' ⟨rfl,hb⟩
 exact ⟨v,_,rfl,rfl,hb,[v],[],[],rfl,List.nodup_nil,by simp,v,[],[],[],[],[],rfl,rfl,rfl,(hd (fun _ => True) w).one,⟨hd _ _,rfl,rfl⟩,rfl,rfl,rfl⟩
theorem AFn.of_v2 {P:Program} {f:FuncId} {ds:List (List D)} {d1 d2:D} {v1 v2:Value} (eg:∀ args w,(callFunc f args).run P w = .ok (.enter f args) w) (h1:∀ A w,rdV A w v1 d1) (h2:∀ A w,rdV A w v2 d2)
  (h:∀ (w:World) (A:Nat→Prop) vs,relArgs A w ds vs→Calls P f vs.toArray w (RetV w (.tuple #[v1,v2]))):AFn P f ds (· = [.val d1,.val d2]):=by
 refine ⟨eg,fun A w vs hA hv => (h w A vs hv).mono ?_⟩
 rintro e w' ⟨rfl,hb⟩
 exact ⟨_,_,rfl,rfl,hb,[v1,v2],[],[],rfl,List.nodup_nil,by simp,v1,[v2],[],[],[],[],rfl,rfl,rfl,(h1 (fun _ => True) w).one,⟨h1 _ _,rfl,rfl⟩,v2,[],[],[],[],[],rfl,rfl,rfl,(h2 (fun _ => True) w).one,⟨h2 _ _,rfl,rfl⟩,rfl,rfl,rfl⟩
end Go.Proofs.Ytfhmonacgmakbaa
