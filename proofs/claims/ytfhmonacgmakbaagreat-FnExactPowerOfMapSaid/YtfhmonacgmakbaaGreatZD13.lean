/- Lemmas (13). -/
import Derived.Test.YtfhmonacgmakbaaGreatZD0
import Derived.Test.YtfhmonacgmakbaaGreatZD2
import Derived.Test.YtfhmonacgmakbaaGreatZD6
import Derived.Test.YtfhmonacgmakbaaGreatZD8
import Derived.Test.YtfhmonacgmakbaaGreatZD9
import Derived.Test.YtfhmonacgmakbaaGreatZD11
import Derived.Test.YtfhmonacgmakbaaGreatZD12
set_option linter.unusedSimpArgs false
set_option linter.unusedVariables false
namespace Go.Proofs.YtfhmonacgmakbaaGreat
open Go.RowKit
theorem a_place (X:List (List D)) (t:List Int) (h:canT t = true) (hl:t.length ≤ 6):AFn Tryz.prog 55 [[.sl 1 (T6.map eL),.sl 1 X],[.sl 1 (t.map eI)]] (· = [.val (.int (plc t))]):=by
 obtain ⟨p1,p2,p3,p4⟩:=plc_at h hl
 have hix:=a_indexIn T6 t (posT t) (by rw [T6_len];omega) p1 p2 p3 p4
 rw [T6_len] at p1
 have hw:=w64_succ (n:=posT t) (by omega)
 simp only [eL,eLL] at hix
 refine AFn.of_runs (cfg_ok 10) Tryz.func55 rfl rfl rfl (by simp only [List.length_cons,List.length_nil];decide) ?_
 have hres:Tryz.f55.results.toList = [.tmp 4]:=rfl
 have hrts:Tryz.f55.resultTypes.toList = [3]:=rfl
 simp only [argRegs,argAV1,eL,eI,eLL,eB,Nat.zero_add,Nat.reduceAdd]
 intro M
 refine RunK.of ?_
 repeat' (first|with_reducible (first|refine Q1 ?_|refine Q2 ?_|refine Q3 ?_|refine Q4 ?_|refine Q5 ?_|refine Q6 ?_|refine Q7 ?_|refine Q8 ?_|refine Q9 ?_|refine Qa ?_|refine Qb ?_|refine Qc ?_|refine Qd ?_|refine Qe ?_|refine Qf ?_)|((with_reducible refine Qo ?_ ?_);focus rfl)|((with_reducible first|refine QT 5 (l:=?_) ?_ ?_|refine QF 5 (l:=?_) ?_ ?_);rotate_left 1;focus (simp only [Zu,Nat.reduceSub,Nat.reduceBEq];with_reducible rfl))|((with_reducible first|refine QS (cfg_ok 10) (Tab.none.at' 76 hix) (s':=?_) ?_ ?_|refine QC (b:=?_) ?_ ?_);rotate_left 1;focus ((with_reducible refine QW ?_);simp only [Zg,seval,if_true,if_false,reduceCtorEq,Nat.reduceEqDiff,hw];with_reducible rfl)))
 (refine Ends.mk (by simp) (rs:=?_) (ks:=?_) hres hrts ?_ ?_ ?_;rotate_left 2;(focus (simp only [Ze,Zg,seval,if_true,if_false,reduceCtorEq,Nat.reduceEqDiff,plc,Int.natCast_add,Int.natCast_one];with_reducible rfl));(focus simp);focus (first|with_reducible rfl|(simp only [Zv,plc,Int.natCast_add,Int.natCast_one];done)))
set_option maxRecDepth 20000 in
set_option maxHeartbeats 16000000 in
theorem s_newForms:AFnS Tryz.prog 46 [] frmD:=by
 have hto:AFn Tryz.prog 69 [[.int 6]] (· = [.val (.sl 1 (T6.map eL))]):=AFn.val1 (a_treesTo 6 (by decide))
 obtain ⟨T,hT⟩:∃ T,T = T6.map eL:=⟨_,rfl⟩
 have hTl:T.length = 37:=by rw [hT,List.length_map,T6_len]
 rw [← hT] at hto
 have hfin:frmD = [.sl 1 T,.sl 1 ((T6.map cutsM).map eMs)]:=by rw [hT];rfl
 rw [hfin]
 refine AFnS.of_runs (cfg_ok 68) Tryz.func46 rfl rfl rfl (by simp only [List.length_cons,List.length_nil];decide) ?_
 simp only [argRegs,argAV1,eL,eI,eLL,eB,Nat.zero_add,Nat.reduceAdd]
 intro M
 refine RunK.of ?_
 ((repeat' (first|with_reducible (first|refine Q1 ?_|refine Q2 ?_|refine Q3 ?_|refine Q4 ?_|refine Q5 ?_|refine Q6 ?_|refine Q7 ?_|refine Q8 ?_|refine Q9 ?_|refine Qa ?_|refine Qb ?_|refine Qc ?_|refine Qd ?_|refine Qe ?_|refine Qf ?_)|((with_reducible refine Qo ?_ ?_);focus rfl)|((with_reducible first|refine QT 34 (l:=?_) ?_ ?_|refine QF 34 (l:=?_) ?_ ?_);rotate_left 1;focus (simp only [Zu,Nat.reduceSub,Nat.reduceBEq];with_reducible rfl))|((with_reducible refine QC (b:=?_) ?_ ?_);rotate_left 1;focus ((with_reducible refine QW ?_);simp only [Zg,seval,if_true,if_false,reduceCtorEq,Nat.reduceEqDiff];with_reducible rfl))));((with_reducible refine QS (cfg_ok 68) Tab.none (s':=?_) ?_ ?_);rotate_left 1;focus ((with_reducible refine QW ?_);simp only [Zg,seval,if_true,if_false,reduceCtorEq,Nat.reduceEqDiff];with_reducible rfl));(repeat' (first|with_reducible (first|refine Q1 ?_|refine Q2 ?_|refine Q3 ?_|refine Q4 ?_|refine Q5 ?_|refine Q6 ?_|refine Q7 ?_|refine Q8 ?_|refine Q9 ?_|refine Qa ?_|refine Qb ?_|refine Qc ?_|refine Qd ?_|refine Qe ?_|refine Qf ?_)|((with_reducible refine Qo ?_ ?_);focus rfl)|((with_reducible first|refine QT 34 (l:=?_) ?_ ?_|refine QF 34 (l:=?_) ?_ ?_);rotate_left 1;focus (simp only [Zu,Nat.reduceSub,Nat.reduceBEq];with_reducible rfl))|((with_reducible refine QC (b:=?_) ?_ ?_);rotate_left 1;focus ((with_reducible refine QW ?_);simp only [Zg,seval,if_true,if_false,reduceCtorEq,Nat.reduceEqDiff];with_reducible rfl)))))
 ((repeat' (first|with_reducible (first|refine Q1 ?_|refine Q2 ?_|refine Q3 ?_|refine Q4 ?_|refine Q5 ?_|refine Q6 ?_|refine Q7 ?_|refine Q8 ?_|refine Q9 ?_|refine Qa ?_|refine Qb ?_|refine Qc ?_|refine Qd ?_|refine Qe ?_|refine Qf ?_)|((with_reducible refine Qo ?_ ?_);focus rfl)|((with_reducible first|refine QT 34 (l:=?_) ?_ ?_|refine QF 34 (l:=?_) ?_ ?_);rotate_left 1;focus (simp only [Zu,Nat.reduceSub,Nat.reduceBEq];with_reducible rfl))|((with_reducible refine QC (b:=?_) ?_ ?_);rotate_left 1;focus ((with_reducible refine QW ?_);simp only [Zg,seval,if_true,if_false,reduceCtorEq,Nat.reduceEqDiff];with_reducible rfl))));(with_reducible refine RunK.regCut (cfg_ok 68) (Tab.none.at' 69 hto) 3 (s1:=?_) ?_ ?_);rotate_left 1;(focus ((with_reducible refine QW ?_);simp only [Zg,seval,if_true,if_false,reduceCtorEq,Nat.reduceEqDiff];with_reducible rfl));simp only [List.toList_toArray,List.drop_succ_cons,List.drop_zero])
 refine ROps.nilOwn 11 5001 (k:=1) (pre:=[.val (.sl 1 T)]) (post:=[]) rfl (by decide) rfl ?_
 refine ROps.storeA (cfg_ok 68) (key:=1) (j:=0) rfl rfl rfl rfl rfl rfl (cs:=[.val (.sl 1 T),.own 5001 0]) rfl rfl rfl (r:=[.val (.sl 1 []),.val (.sl 1 [])]) rfl (Nat.le_of_ble_eq_true rfl) ?_
 refine ROps.nil ?_
 ((repeat' (first|with_reducible (first|refine Q1 ?_|refine Q2 ?_|refine Q3 ?_|refine Q4 ?_|refine Q5 ?_|refine Q6 ?_|refine Q7 ?_|refine Q8 ?_|refine Q9 ?_|refine Qa ?_|refine Qb ?_|refine Qc ?_|refine Qd ?_|refine Qe ?_|refine Qf ?_)|((with_reducible refine Qo ?_ ?_);focus rfl)|((with_reducible first|refine QT 34 (l:=?_) ?_ ?_|refine QF 34 (l:=?_) ?_ ?_);rotate_left 1;focus (simp only [Zu,Nat.reduceSub,Nat.reduceBEq];with_reducible rfl))|((with_reducible refine QC (b:=?_) ?_ ?_);rotate_left 1;focus ((with_reducible refine QW ?_);simp only [Zg,seval,if_true,if_false,reduceCtorEq,Nat.reduceEqDiff];with_reducible rfl))));(with_reducible refine RunK.regCut (cfg_ok 68) Tab.none 1 (s1:=?_) ?_ ?_);rotate_left 1;(focus ((with_reducible refine QW ?_);simp only [Zg,seval,if_true,if_false,reduceCtorEq,Nat.reduceEqDiff];with_reducible rfl));simp only [List.toList_toArray,List.drop_succ_cons,List.drop_zero])
 refine ROps.loadA (cfg_ok 68) (d:=13) rfl rfl rfl (by decide) rfl rfl (cs:=[.val (.sl 1 T),.own 5001 0]) rfl (av:=.c (.val (.sl 1 T))) rfl ?_
 (refine ROps.opsT (cfg_ok 68) (T:=Tab.none) (s':=?_) ?_ ?_;rotate_left 1;focus (simp only [Zg,seval,if_true,if_false,reduceCtorEq,Nat.reduceEqDiff,hTl];with_reducible rfl))
 refine RunK.loop (β:=Nat) (γ:=Unit) (fun i => ⟨[(0,.optr 0 0 0),(1,.optr 1 0 0),(13,.c (.val (.sl 1 T))),(14,.c (.val (.int 37))),(15,.c (.val (.int i)))],[(0,.row 2 [[.sl 1 [],.sl 1 []]] true),(1,.lit 2 [[.val (.sl 1 T),.own 5001 i]]),(5001,.row 1 (((T6.take i).map cutsM).map eMs) false)]⟩) (fun i => i ≤ 37) (fun i => 37 - i)
  (fun _ => ⟨[(0,.optr 0 0 0),(1,.optr 1 0 0)],[(0,.row 2 [[.sl 1 [],.sl 1 []]] true),(1,.lit 2 [[.val (.sl 1 T),.own 5001 37]]),(5001,.row 1 ((T6.map cutsM).map eMs) false)]⟩) (fun _ => True) 0 (Nat.zero_le _) ?_ ?_ ?_
 ·(repeat' (first|with_reducible refine Qn|((with_reducible refine Qr ?_ ?_);focus (first|with_reducible rfl|(simp only [Zz,Nat.reduceBEq,List.take_zero,List.map_nil,Int.natCast_zero];done)|rfl))|((with_reducible refine Qj (o':=?_) ?_ ?_ ?_);rotate_left 1;focus rfl)|((with_reducible refine Qw ?_ ?_);(focus (first|with_reducible rfl|(simp only [Zv,List.take_zero,List.map_nil,Int.natCast_zero];done)));focus (first|exact id|exact (fun h => nomatch h)|exact (fun _ => rfl)))))
  all_goals exact ⟨rfl,rfl⟩
 ·intro i hi
  have hi:i ≤ 37:=hi
  have hw:=w64_succ (n:=i) (by omega)
  by_cases hi37:i < 37
  ·have i1:((i:Int) < 37) = True:=eq_true (by omega)
   have i2:((0:Int) ≤ (i:Int)) = True:=eq_true (by omega)
   have hiT:i < T6.length:=by rw [T6_len];exact hi37
   obtain ⟨t,ht⟩:∃ t,t = T6[i]:=⟨_,rfl⟩
   have htm:t ∈ T6:=by rw [ht];exact List.getElem_mem _
   have hg:T[i]? = some [.sl 1 (t.map eI)]:=by rw [hT,map_get hiT,ht];rfl
   have htk:((T6.take (i + 1)).map cutsM).map eMs = ((T6.take i).map cutsM).map eMs ++ [[.sl 3 ((cutsM t).map eM)]]:=by
    rw [ht,List.take_succ_eq_append_getElem hiT,List.map_append,List.map_append];rfl
   obtain ⟨R,hR⟩:∃ R,R = ((T6.take i).map cutsM).map eMs:=⟨_,rfl⟩
   have hRl:R.length = i:=by rw [hR,List.length_map,List.length_map,List.length_take];omega
   rw [← hR] at htk ⊢
   obtain ⟨hct,hcl⟩:=T6_ok t htm
   obtain ⟨hlev,_⟩:=canT_lev hct
   have hcu:AFn Tryz.prog 98 [[.sl 1 (t.map eI)]] (· = [.val (.sl 3 ((cutsL t).map eCu))]):=AFn.valT (a_cutsOf t hlev (by omega))
   obtain ⟨hLn,hLok⟩:=cuts6 htm
   obtain ⟨L,hL⟩:∃ L,L = cutsL t:=⟨_,rfl⟩
   have hcm:cutsM t = L.map mcut:=by rw [hL];rfl
   rw [hcm] at htk
   rw [← hL] at hcu hLn hLok
   have hLm:(L.map eCu).length = L.length:=List.length_map _
   repeat' (first|with_reducible (first|refine Q1 ?_|refine Q2 ?_|refine Q3 ?_|refine Q4 ?_|refine Q5 ?_|refine Q6 ?_|refine Q7 ?_|refine Q8 ?_|refine Q9 ?_|refine Qa ?_|refine Qb ?_|refine Qc ?_|refine Qd ?_|refine Qe ?_|refine Qf ?_)|((with_reducible refine Qo ?_ ?_);focus rfl)|((with_reducible first|refine QT 34 (l:=?_) ?_ ?_|refine QF 34 (l:=?_) ?_ ?_);rotate_left 1;focus (simp only [Zu,Nat.reduceSub,Nat.reduceBEq];with_reducible rfl))|((with_reducible first|refine QS (cfg_ok 68) (Tab.none.at' 98 hcu) (s':=?_) ?_ ?_|refine QC (b:=?_) ?_ ?_);rotate_left 1;focus ((with_reducible refine QW ?_);simp only [Zg,seval,if_true,if_false,reduceCtorEq,Nat.reduceEqDiff,i1,i2,hg,hTl,Int.toNat_natCast];with_reducible rfl))|((with_reducible refine QD (cfg_ok 68) (Tab.none.at' 98 hcu) mixed_ok (tr:=?_) (s':=?_) ?_ ?_ ?_);rotate_left 2;(focus ((with_reducible refine QW ?_);simp only [Zg,Zd,seval,if_true,if_false,reduceCtorEq,Nat.reduceEqDiff,i1,i2,hg,hTl,Int.toNat_natCast];with_reducible rfl));focus ((with_reducible refine QK ?_);simp only [Zk];kernel_rfl)))
   refine RunK.loop (β:=Nat) (γ:=Unit) (fun j => ⟨[(0,.optr 0 0 0),(1,.optr 1 0 0),(4,.c (.own 4 j)),(13,.c (.val (.sl 1 T))),(14,.c (.val (.int 37))),(15,.c (.val (.int i))),(21,.c (.val (.sl 3 (L.map eCu)))),(22,.c (.val (.int L.length))),(23,.c (.val (.int j)))],[(0,.row 2 [[.sl 1 [],.sl 1 []]] true),(1,.lit 2 [[.val (.sl 1 T),.own 5001 i]]),(4,.row 3 (((L.take j).map mcut).map eM) false),(5001,.row 1 R false)]⟩) (fun j => j ≤ L.length) (fun j => L.length - j)
    (fun _ => ⟨[(0,.optr 0 0 0),(1,.optr 1 0 0),(4,.c (.own 4 L.length)),(13,.c (.val (.sl 1 T))),(14,.c (.val (.int 37))),(15,.c (.val (.int i)))],[(0,.row 2 [[.sl 1 [],.sl 1 []]] true),(1,.lit 2 [[.val (.sl 1 T),.own 5001 i]]),(4,.row 3 ((L.map mcut).map eM) false),(5001,.row 1 R false)]⟩) (fun _ => True) 0 (Nat.zero_le _) ?_ ?_ ?_
   ·(repeat' (first|with_reducible refine Qn|((with_reducible refine Qr ?_ ?_);focus (first|with_reducible rfl|(simp only [Zz,Nat.reduceBEq,List.take_zero,List.map_nil,Int.natCast_zero];done)|rfl))|((with_reducible refine Qj (o':=?_) ?_ ?_ ?_);rotate_left 1;focus rfl)|((with_reducible refine Qw ?_ ?_);(focus (first|with_reducible rfl|(simp only [Zv,List.take_zero,List.map_nil,Int.natCast_zero];done)));focus (first|exact id|exact (fun h => nomatch h)|exact (fun _ => rfl)))))
    all_goals exact ⟨rfl,rfl⟩
   ·intro j hj
    have hj:j ≤ L.length:=hj
    have hwj:=w64_succ (n:=j) (by omega)
    by_cases hjL:j < L.length
    ·have j1:((j:Int) < (L.length:Int)) = True:=eq_true (by omega)
     have j2:((0:Int) ≤ (j:Int)) = True:=eq_true (by omega)
     obtain ⟨x,hx⟩:∃ x,x = L[j]:=⟨_,rfl⟩
     have hxg:(L.map eCu)[j]? = some [.sl 1 (x.1.1.map eL),.sl 1 (x.1.2.map eI),.int x.2]:=by rw [map_get hjL,hx];rfl
     obtain ⟨hx1,hx2,hx3,hx4⟩:=hLok L[j] (List.getElem_mem _)
     rw [← hx] at hx1 hx2 hx3 hx4
     have hxk:((L.take (j + 1)).map mcut).map eM = ((L.take j).map mcut).map eM ++ [eM (mcut x)]:=by
      rw [hx,List.take_succ_eq_append_getElem hjL,List.map_append,List.map_append];rfl
     have hrl:(((L.take j).map mcut).map eM).length = j:=by rw [List.length_map,List.length_map,List.length_take];omega
     obtain ⟨⟨cr,tr⟩,n⟩:=x
     simp only at hxg hx1 hx2 hx3 hx4
     have q1:=big_le (n:=j + 1) (by omega)
     have q2:=big_mul (n:=j + 1) (c:=40) (by omega) (by omega)
     ((repeat' (first|with_reducible (first|refine Q1 ?_|refine Q2 ?_|refine Q3 ?_|refine Q4 ?_|refine Q5 ?_|refine Q6 ?_|refine Q7 ?_|refine Q8 ?_|refine Q9 ?_|refine Qa ?_|refine Qb ?_|refine Qc ?_|refine Qd ?_|refine Qe ?_|refine Qf ?_)|((with_reducible refine Qo ?_ ?_);focus rfl)|((with_reducible first|refine QT 34 (l:=?_) ?_ ?_|refine QF 34 (l:=?_) ?_ ?_);rotate_left 1;focus (simp only [Zu,Nat.reduceSub,Nat.reduceBEq];with_reducible rfl))|((with_reducible refine QC (b:=?_) ?_ ?_);rotate_left 1;focus ((with_reducible refine QW ?_);simp only [Zg,seval,if_true,if_false,reduceCtorEq,Nat.reduceEqDiff,j1];with_reducible rfl))));((with_reducible refine QS (cfg_ok 68) Tab.none (s':=?_) ?_ ?_);rotate_left 1;focus ((with_reducible refine QW ?_);simp only [Zg,seval,if_true,if_false,reduceCtorEq,Nat.reduceEqDiff,j1];with_reducible rfl));(repeat' (first|with_reducible (first|refine Q1 ?_|refine Q2 ?_|refine Q3 ?_|refine Q4 ?_|refine Q5 ?_|refine Q6 ?_|refine Q7 ?_|refine Q8 ?_|refine Q9 ?_|refine Qa ?_|refine Qb ?_|refine Qc ?_|refine Qd ?_|refine Qe ?_|refine Qf ?_)|((with_reducible refine Qo ?_ ?_);focus rfl)|((with_reducible first|refine QT 34 (l:=?_) ?_ ?_|refine QF 34 (l:=?_) ?_ ?_);rotate_left 1;focus (simp only [Zu,Nat.reduceSub,Nat.reduceBEq];with_reducible rfl))|((with_reducible refine QC (b:=?_) ?_ ?_);rotate_left 1;focus ((with_reducible refine QW ?_);simp only [Zg,seval,if_true,if_false,reduceCtorEq,Nat.reduceEqDiff,j1];with_reducible rfl)))))
     ((repeat' (first|with_reducible (first|refine Q1 ?_|refine Q2 ?_|refine Q3 ?_|refine Q4 ?_|refine Q5 ?_|refine Q6 ?_|refine Q7 ?_|refine Q8 ?_|refine Q9 ?_|refine Qa ?_|refine Qb ?_|refine Qc ?_|refine Qd ?_|refine Qe ?_|refine Qf ?_)|((with_reducible refine Qo ?_ ?_);focus rfl)|((with_reducible first|refine QT 34 (l:=?_) ?_ ?_|refine QF 34 (l:=?_) ?_ ?_);rotate_left 1;focus (simp only [Zu,Nat.reduceSub,Nat.reduceBEq];with_reducible rfl))|((with_reducible refine QC (b:=?_) ?_ ?_);rotate_left 1;focus ((with_reducible refine QW ?_);simp only [Zg,seval,if_true,if_false,reduceCtorEq,Nat.reduceEqDiff,j1,j2,hxg,hLm,Int.toNat_natCast];with_reducible rfl))));((with_reducible refine QS (cfg_ok 68) Tab.none (s':=?_) ?_ ?_);rotate_left 1;focus ((with_reducible refine QW ?_);simp only [Zg,seval,if_true,if_false,reduceCtorEq,Nat.reduceEqDiff,j1,j2,hxg,hLm,Int.toNat_natCast];with_reducible rfl));(repeat' (first|with_reducible (first|refine Q1 ?_|refine Q2 ?_|refine Q3 ?_|refine Q4 ?_|refine Q5 ?_|refine Q6 ?_|refine Q7 ?_|refine Q8 ?_|refine Q9 ?_|refine Qa ?_|refine Qb ?_|refine Qc ?_|refine Qd ?_|refine Qe ?_|refine Qf ?_)|((with_reducible refine Qo ?_ ?_);focus rfl)|((with_reducible first|refine QT 34 (l:=?_) ?_ ?_|refine QF 34 (l:=?_) ?_ ?_);rotate_left 1;focus (simp only [Zu,Nat.reduceSub,Nat.reduceBEq];with_reducible rfl))|((with_reducible refine QC (b:=?_) ?_ ?_);rotate_left 1;focus ((with_reducible refine QW ?_);simp only [Zg,seval,if_true,if_false,reduceCtorEq,Nat.reduceEqDiff,j1,j2,hxg,hLm,Int.toNat_natCast];with_reducible rfl)))))
     ((repeat' (first|with_reducible (first|refine Q1 ?_|refine Q2 ?_|refine Q3 ?_|refine Q4 ?_|refine Q5 ?_|refine Q6 ?_|refine Q7 ?_|refine Q8 ?_|refine Q9 ?_|refine Qa ?_|refine Qb ?_|refine Qc ?_|refine Qd ?_|refine Qe ?_|refine Qf ?_)|((with_reducible refine Qo ?_ ?_);focus rfl)|((with_reducible first|refine QT 34 (l:=?_) ?_ ?_|refine QF 34 (l:=?_) ?_ ?_);rotate_left 1;focus (simp only [Zu,Nat.reduceSub,Nat.reduceBEq];with_reducible rfl))|((with_reducible refine QC (b:=?_) ?_ ?_);rotate_left 1;focus ((with_reducible refine QW ?_);simp only [Zg,seval,if_true,if_false,reduceCtorEq,Nat.reduceEqDiff];with_reducible rfl))));(with_reducible refine RunK.regCut (cfg_ok 68) Tab.none 4 (s1:=?_) ?_ ?_);rotate_left 1;(focus ((with_reducible refine QW ?_);simp only [Zg,seval,if_true,if_false,reduceCtorEq,Nat.reduceEqDiff];with_reducible rfl));simp only [List.toList_toArray,List.drop_succ_cons,List.drop_zero])
     refine ROps.nilOwn 29 5007 (k:=1) (pre:=[.val (.int n)]) (post:=[.val (.int 0)]) rfl (by decide) rfl ?_
     refine ROps.storeA (cfg_ok 68) (key:=7) (j:=0) rfl rfl rfl rfl rfl rfl (cs:=[.val (.int n),.own 5007 0,.val (.int 0)]) rfl rfl rfl (r:=[.val (.int 0),.val (.sl 1 []),.val (.int 0)]) rfl (Nat.le_of_ble_eq_true rfl) ?_
     refine ROps.nil ?_
     have hcm':(cr.map eL).length = cr.length:=List.length_map _
     repeat' (first|with_reducible (first|refine Q1 ?_|refine Q2 ?_|refine Q3 ?_|refine Q4 ?_|refine Q5 ?_|refine Q6 ?_|refine Q7 ?_|refine Q8 ?_|refine Q9 ?_|refine Qa ?_|refine Qb ?_|refine Qc ?_|refine Qd ?_|refine Qe ?_|refine Qf ?_)|((with_reducible refine Qo ?_ ?_);focus rfl)|((with_reducible first|refine QT 34 (l:=?_) ?_ ?_|refine QF 34 (l:=?_) ?_ ?_);rotate_left 1;focus (simp only [Zu,Nat.reduceSub,Nat.reduceBEq];with_reducible rfl))|((with_reducible first|refine QS (cfg_ok 68) Tab.none (s':=?_) ?_ ?_|refine QC (b:=?_) ?_ ?_);rotate_left 1;focus ((with_reducible refine QW ?_);simp only [Zg,seval,if_true,if_false,reduceCtorEq,Nat.reduceEqDiff,hcm'];with_reducible rfl))|((with_reducible refine QD (cfg_ok 68) Tab.none mixed_ok (tr:=?_) (s':=?_) ?_ ?_ ?_);rotate_left 2;(focus ((with_reducible refine QW ?_);simp only [Zg,Zd,seval,if_true,if_false,reduceCtorEq,Nat.reduceEqDiff,hcm'];with_reducible rfl));focus ((with_reducible refine QK ?_);simp only [Zk];kernel_rfl)))
     refine RunK.loop (β:=Nat) (γ:=Unit) (fun q => ⟨[(0,.optr 0 0 0),(1,.optr 1 0 0),(4,.c (.own 4 j)),(6,.optr 6 0 0),(7,.optr 7 0 0),(13,.c (.val (.sl 1 T))),(14,.c (.val (.int 37))),(15,.c (.val (.int i))),(21,.c (.val (.sl 3 (L.map eCu)))),(22,.c (.val (.int L.length))),(23,.c (.val (.int j))),(31,.c (.val (.sl 1 (cr.map eL)))),(32,.c (.val (.int cr.length))),(33,.c (.val (.int q)))],[(0,.row 2 [[.sl 1 [],.sl 1 []]] true),(1,.lit 2 [[.val (.sl 1 T),.own 5001 i]]),(4,.row 3 (((L.take j).map mcut).map eM) false),(6,.row 3 [[.sl 1 (cr.map eL),.sl 1 (tr.map eI),.int n]] false),(7,.lit 3 [[.val (.int n),.own 5007 q,.val (.int 0)]]),(5001,.row 1 R false),(5007,.row 1 (((cr.take q).map plc).map eI) false)]⟩) (fun q => q ≤ cr.length) (fun q => cr.length - q)
      (fun _ => ⟨[(0,.optr 0 0 0),(1,.optr 1 0 0),(4,.c (.own 4 j)),(6,.optr 6 0 0),(7,.optr 7 0 0),(13,.c (.val (.sl 1 T))),(14,.c (.val (.int 37))),(15,.c (.val (.int i))),(21,.c (.val (.sl 3 (L.map eCu)))),(22,.c (.val (.int L.length))),(23,.c (.val (.int j)))],[(0,.row 2 [[.sl 1 [],.sl 1 []]] true),(1,.lit 2 [[.val (.sl 1 T),.own 5001 i]]),(4,.row 3 (((L.take j).map mcut).map eM) false),(6,.row 3 [[.sl 1 (cr.map eL),.sl 1 (tr.map eI),.int n]] false),(7,.lit 3 [[.val (.int n),.own 5007 cr.length,.val (.int 0)]]),(5001,.row 1 R false),(5007,.row 1 ((cr.map plc).map eI) false)]⟩) (fun _ => True) 0 (Nat.zero_le _) ?_ ?_ ?_
     ·(repeat' (first|with_reducible refine Qn|((with_reducible refine Qr ?_ ?_);focus (first|with_reducible rfl|(simp only [Zz,Nat.reduceBEq,List.take_zero,List.map_nil,Int.natCast_zero];done)|rfl))|((with_reducible refine Qj (o':=?_) ?_ ?_ ?_);rotate_left 1;focus rfl)|((with_reducible refine Qw ?_ ?_);(focus (first|with_reducible rfl|(simp only [Zv,List.take_zero,List.map_nil,Int.natCast_zero];done)));focus (first|exact id|exact (fun h => nomatch h)|exact (fun _ => rfl)))))
      all_goals exact ⟨rfl,rfl⟩
     ·intro q hq
      have hq:q ≤ cr.length:=hq
      have hwq:=w64_succ (n:=q) (by omega)
      by_cases hqc:q < cr.length
      ·have k1:((q:Int) < (cr.length:Int)) = True:=eq_true (by omega)
       have k2:((0:Int) ≤ (q:Int)) = True:=eq_true (by omega)
       obtain ⟨c,hc⟩:∃ c,c = cr[q]:=⟨_,rfl⟩
       have hcg:(cr.map eL)[q]? = some [.sl 1 (c.map eI)]:=by rw [map_get hqc,hc];rfl
       have hck:((cr.take (q + 1)).map plc).map eI = ((cr.take q).map plc).map eI ++ [[.int (plc c)]]:=by
        rw [hc,List.take_succ_eq_append_getElem hqc,List.map_append,List.map_append];rfl
       obtain ⟨C,hC⟩:∃ C,C = ((cr.take q).map plc).map eI:=⟨_,rfl⟩
       have hCl:C.length = q:=by rw [hC,List.length_map,List.length_map,List.length_take];omega
       obtain ⟨c1,c2⟩:=hx2 cr[q] (List.getElem_mem _)
       rw [← hc] at c1 c2
       have hpl:=a_place R c c1 c2
       rw [← hT] at hpl
       rw [← hC] at hck ⊢
       have r1:=big_le (n:=q + 1) (by omega)
       have r2:=big_mul (n:=q + 1) (c:=8) (by omega) (by omega)
       have r3:(q ≤ 140737488355327) = True:=eq_true (by omega)
       ((repeat' (first|with_reducible (first|refine Q1 ?_|refine Q2 ?_|refine Q3 ?_|refine Q4 ?_|refine Q5 ?_|refine Q6 ?_|refine Q7 ?_|refine Q8 ?_|refine Q9 ?_|refine Qa ?_|refine Qb ?_|refine Qc ?_|refine Qd ?_|refine Qe ?_|refine Qf ?_)|((with_reducible refine Qo ?_ ?_);focus rfl)|((with_reducible first|refine QT 34 (l:=?_) ?_ ?_|refine QF 34 (l:=?_) ?_ ?_);rotate_left 1;focus (simp only [Zu,Nat.reduceSub,Nat.reduceBEq];with_reducible rfl))|((with_reducible refine QC (b:=?_) ?_ ?_);rotate_left 1;focus ((with_reducible refine QW ?_);simp only [Zg,seval,if_true,if_false,reduceCtorEq,Nat.reduceEqDiff,k1];with_reducible rfl))));((with_reducible refine QS (cfg_ok 68) Tab.none (s':=?_) ?_ ?_);rotate_left 1;focus ((with_reducible refine QW ?_);simp only [Zg,seval,if_true,if_false,reduceCtorEq,Nat.reduceEqDiff,k1];with_reducible rfl));(repeat' (first|with_reducible (first|refine Q1 ?_|refine Q2 ?_|refine Q3 ?_|refine Q4 ?_|refine Q5 ?_|refine Q6 ?_|refine Q7 ?_|refine Q8 ?_|refine Q9 ?_|refine Qa ?_|refine Qb ?_|refine Qc ?_|refine Qd ?_|refine Qe ?_|refine Qf ?_)|((with_reducible refine Qo ?_ ?_);focus rfl)|((with_reducible first|refine QT 34 (l:=?_) ?_ ?_|refine QF 34 (l:=?_) ?_ ?_);rotate_left 1;focus (simp only [Zu,Nat.reduceSub,Nat.reduceBEq];with_reducible rfl))|((with_reducible refine QC (b:=?_) ?_ ?_);rotate_left 1;focus ((with_reducible refine QW ?_);simp only [Zg,seval,if_true,if_false,reduceCtorEq,Nat.reduceEqDiff,k1];with_reducible rfl)))))
       ((repeat' (first|with_reducible (first|refine Q1 ?_|refine Q2 ?_|refine Q3 ?_|refine Q4 ?_|refine Q5 ?_|refine Q6 ?_|refine Q7 ?_|refine Q8 ?_|refine Q9 ?_|refine Qa ?_|refine Qb ?_|refine Qc ?_|refine Qd ?_|refine Qe ?_|refine Qf ?_)|((with_reducible refine Qo ?_ ?_);focus rfl)|((with_reducible first|refine QT 34 (l:=?_) ?_ ?_|refine QF 34 (l:=?_) ?_ ?_);rotate_left 1;focus (simp only [Zu,Nat.reduceSub,Nat.reduceBEq];with_reducible rfl))|((with_reducible refine QC (b:=?_) ?_ ?_);rotate_left 1;focus ((with_reducible refine QW ?_);simp only [Zg,seval,if_true,if_false,reduceCtorEq,Nat.reduceEqDiff,k1,k2,hcg,hcm',Int.toNat_natCast];with_reducible rfl))));((with_reducible refine QS (cfg_ok 68) Tab.none (s':=?_) ?_ ?_);rotate_left 1;focus ((with_reducible refine QW ?_);simp only [Zg,seval,if_true,if_false,reduceCtorEq,Nat.reduceEqDiff,k1,k2,hcg,hcm',Int.toNat_natCast];with_reducible rfl));(repeat' (first|with_reducible (first|refine Q1 ?_|refine Q2 ?_|refine Q3 ?_|refine Q4 ?_|refine Q5 ?_|refine Q6 ?_|refine Q7 ?_|refine Q8 ?_|refine Q9 ?_|refine Qa ?_|refine Qb ?_|refine Qc ?_|refine Qd ?_|refine Qe ?_|refine Qf ?_)|((with_reducible refine Qo ?_ ?_);focus rfl)|((with_reducible first|refine QT 34 (l:=?_) ?_ ?_|refine QF 34 (l:=?_) ?_ ?_);rotate_left 1;focus (simp only [Zu,Nat.reduceSub,Nat.reduceBEq];with_reducible rfl))|((with_reducible refine QC (b:=?_) ?_ ?_);rotate_left 1;focus ((with_reducible refine QW ?_);simp only [Zg,seval,if_true,if_false,reduceCtorEq,Nat.reduceEqDiff,k1,k2,hcg,hcm',Int.toNat_natCast];with_reducible rfl)))))
       ((repeat' (first|with_reducible (first|refine Q1 ?_|refine Q2 ?_|refine Q3 ?_|refine Q4 ?_|refine Q5 ?_|refine Q6 ?_|refine Q7 ?_|refine Q8 ?_|refine Q9 ?_|refine Qa ?_|refine Qb ?_|refine Qc ?_|refine Qd ?_|refine Qe ?_|refine Qf ?_)|((with_reducible refine Qo ?_ ?_);focus rfl)|((with_reducible first|refine QT 34 (l:=?_) ?_ ?_|refine QF 34 (l:=?_) ?_ ?_);rotate_left 1;focus (simp only [Zu,Nat.reduceSub,Nat.reduceBEq];with_reducible rfl))|((with_reducible refine QC (b:=?_) ?_ ?_);rotate_left 1;focus ((with_reducible refine QW ?_);simp only [Zg,seval,if_true,if_false,reduceCtorEq,Nat.reduceEqDiff];with_reducible rfl))));(with_reducible refine RunK.wFl (cfg_ok 68) (Tab.none.at' 55 hpl) mixed_ok [42] [38,39] (tr:=?_) (s1:=?_) (rest:=?_) ?_ ?_ ?_);rotate_left 3;(focus ((with_reducible refine QW ?_);simp only [Zg,Zd,seval,if_true,if_false,reduceCtorEq,Nat.reduceEqDiff,drunL,devalL,devalA,acellsA,aloadA,rowA,drunF,devalF,devalB,dregF_mk,List.contains_cons,List.contains_nil];with_reducible rfl));focus ((with_reducible refine QK ?_);simp only [Zk];kernel_rfl))
       refine ROps.killL 7 5007 (k:=3) (r:=[.val (.int n),.own 5007 q,.val (.int 0)]) rfl ?_
       ((with_reducible refine ROps.cut (cfg_ok 68) Tab.none 1 (s1:=?_) ?_ ?_);rotate_left 1;(focus ((with_reducible refine QW ?_);simp only [Zg,seval,if_true,if_false,reduceCtorEq,Nat.reduceEqDiff,hCl,r1,r2,r3,List.map_cons,List.map_nil,AC.kill];with_reducible rfl));simp only [List.drop_succ_cons,List.drop_zero])
       refine ROps.renR 43 5007 (by decide) rfl rfl rfl ?_
       ((with_reducible refine ROps.cut (cfg_ok 68) Tab.none 1 (s1:=?_) ?_ ?_);rotate_left 1;(focus ((with_reducible refine QW ?_);simp only [Zg,seval,if_true,if_false,reduceCtorEq,Nat.reduceEqDiff];with_reducible rfl));simp only [List.drop_succ_cons,List.drop_zero])
       refine ROps.storeA (cfg_ok 68) (key:=7) (j:=1) rfl rfl rfl rfl rfl rfl (cs:=[.own 5007 (q + 1)]) rfl rfl rfl (r:=[.val (.int n),.junk,.val (.int 0)]) rfl (Nat.le_of_ble_eq_true rfl) ?_
       refine ROps.nil ?_
       repeat' (first|with_reducible (first|refine Q1 ?_|refine Q2 ?_|refine Q3 ?_|refine Q4 ?_|refine Q5 ?_|refine Q6 ?_|refine Q7 ?_|refine Q8 ?_|refine Q9 ?_|refine Qa ?_|refine Qb ?_|refine Qc ?_|refine Qd ?_|refine Qe ?_|refine Qf ?_)|((with_reducible refine Qo ?_ ?_);focus rfl)|((with_reducible first|refine QT 34 (l:=?_) ?_ ?_|refine QF 34 (l:=?_) ?_ ?_);rotate_left 1;focus (simp only [Zu,Nat.reduceSub,Nat.reduceBEq];with_reducible rfl))|((with_reducible first|refine QS (cfg_ok 68) Tab.none (s':=?_) ?_ ?_|refine QC (b:=?_) ?_ ?_);rotate_left 1;focus ((with_reducible refine QW ?_);simp only [Zg,seval,if_true,if_false,reduceCtorEq,Nat.reduceEqDiff,hwq];with_reducible rfl))|((with_reducible refine QD (cfg_ok 68) Tab.none mixed_ok (tr:=?_) (s':=?_) ?_ ?_ ?_);rotate_left 2;(focus ((with_reducible refine QW ?_);simp only [Zg,Zd,seval,if_true,if_false,reduceCtorEq,Nat.reduceEqDiff,hwq];with_reducible rfl));focus ((with_reducible refine QK ?_);simp only [Zk];kernel_rfl)))
       refine roundK.on (q + 1) ⟨hqc,by omega⟩ ?_
       rw [hck]
       (repeat' (first|with_reducible refine Qn|((with_reducible refine Qr ?_ ?_);focus (first|with_reducible rfl|(simp only [Zz,Nat.reduceBEq];done)|rfl))|((with_reducible refine Qj (o':=?_) ?_ ?_ ?_);rotate_left 1;focus rfl)|((with_reducible refine Qw ?_ ?_);(focus (first|with_reducible rfl|(simp only [Zv];done)));focus (first|exact id|exact (fun h => nomatch h)|exact (fun _ => rfl)))))
       all_goals exact ⟨rfl,rfl⟩
      ·have k1:((q:Int) < (cr.length:Int)) = False:=eq_false (by omega)
       obtain rfl:q = cr.length:=by omega
       repeat' (first|with_reducible (first|refine Q1 ?_|refine Q2 ?_|refine Q3 ?_|refine Q4 ?_|refine Q5 ?_|refine Q6 ?_|refine Q7 ?_|refine Q8 ?_|refine Q9 ?_|refine Qa ?_|refine Qb ?_|refine Qc ?_|refine Qd ?_|refine Qe ?_|refine Qf ?_)|((with_reducible refine Qo ?_ ?_);focus rfl)|((with_reducible first|refine QT 34 (l:=?_) ?_ ?_|refine QF 34 (l:=?_) ?_ ?_);rotate_left 1;focus (simp only [Zu,Nat.reduceSub,Nat.reduceBEq];with_reducible rfl))|((with_reducible first|refine QS (cfg_ok 68) Tab.none (s':=?_) ?_ ?_|refine QC (b:=?_) ?_ ?_);rotate_left 1;focus ((with_reducible refine QW ?_);simp only [Zg,seval,if_true,if_false,reduceCtorEq,Nat.reduceEqDiff,k1];with_reducible rfl))|((with_reducible refine QD (cfg_ok 68) Tab.none mixed_ok (tr:=?_) (s':=?_) ?_ ?_ ?_);rotate_left 2;(focus ((with_reducible refine QW ?_);simp only [Zg,Zd,seval,if_true,if_false,reduceCtorEq,Nat.reduceEqDiff,k1];with_reducible rfl));focus ((with_reducible refine QK ?_);simp only [Zk];kernel_rfl)))
       refine roundK.out () trivial ?_
       rw [List.take_length]
       (repeat' (first|with_reducible refine Qn|((with_reducible refine Qr ?_ ?_);focus (first|with_reducible rfl|(simp only [Zz,Nat.reduceBEq];done)|rfl))|((with_reducible refine Qj (o':=?_) ?_ ?_ ?_);rotate_left 1;focus rfl)|((with_reducible refine Qw ?_ ?_);(focus (first|with_reducible rfl|(simp only [Zv];done)));focus (first|exact id|exact (fun h => nomatch h)|exact (fun _ => rfl)))))
       all_goals exact ⟨rfl,rfl⟩
     ·rintro _ _
      refine RunK.frz 5007 ?_
      refine RunK.fits (s0:=⟨[(0,.optr 0 0 0),(1,.optr 1 0 0),(4,.c (.own 4 j)),(6,.optr 6 0 0),(7,.optr 7 0 0),(13,.c (.val (.sl 1 T))),(14,.c (.val (.int 37))),(15,.c (.val (.int i))),(21,.c (.val (.sl 3 (L.map eCu)))),(22,.c (.val (.int L.length))),(23,.c (.val (.int j)))],[(0,.row 2 [[.sl 1 [],.sl 1 []]] true),(1,.lit 2 [[.val (.sl 1 T),.own 5001 i]]),(4,.row 3 (((L.take j).map mcut).map eM) false),(6,.row 3 [[.sl 1 (cr.map eL),.sl 1 (tr.map eI),.int n]] false),(7,.lit 3 [[.val (.int n),.val (.sl 1 ((cr.map plc).map eI)),.val (.int 0)]]),(5001,.row 1 R false)]⟩) ?_ ?_
      ·(repeat' (first|with_reducible refine Qn|((with_reducible refine Qr ?_ ?_);focus (first|with_reducible rfl|(simp only [Zz,Nat.reduceBEq,St.frz,frzR,frzH,look,AV.frz,AC.frz,Obj.frz,drop];done)|rfl))|((with_reducible refine Qj (o':=?_) ?_ ?_ ?_);rotate_left 1;focus rfl)|((with_reducible refine Qw ?_ ?_);(focus (first|with_reducible rfl|(simp only [Zv,St.frz,frzR,frzH,look,AV.frz,AC.frz,Obj.frz,drop];done)));focus (first|exact id|exact (fun h => nomatch h)|exact (fun _ => rfl)))))
       all_goals first|exact ⟨rfl,rfl⟩|exact ⟨rfl,rfl,id⟩
      refine RunK.litRow 7 [.int n,.sl 1 ((cr.map plc).map eI),.int 0] rfl ?_
      by_cases htr:tr = []
      ·subst htr
       have t1:((([]:List Int).length:Int) > 0) = False:=eq_false (by simp)
       have hmc:eM (mcut ((cr,[]),n)) = [.int n,.sl 1 ((cr.map plc).map eI),.int 0]:=rfl
       rw [hmc] at hxk
       repeat' (first|with_reducible (first|refine Q1 ?_|refine Q2 ?_|refine Q3 ?_|refine Q4 ?_|refine Q5 ?_|refine Q6 ?_|refine Q7 ?_|refine Q8 ?_|refine Q9 ?_|refine Qa ?_|refine Qb ?_|refine Qc ?_|refine Qd ?_|refine Qe ?_|refine Qf ?_)|((with_reducible refine Qo ?_ ?_);focus rfl)|((with_reducible first|refine QT 34 (l:=?_) ?_ ?_|refine QF 34 (l:=?_) ?_ ?_);rotate_left 1;focus (simp only [Zu,Nat.reduceSub,Nat.reduceBEq];with_reducible rfl))|((with_reducible first|refine QS (cfg_ok 68) Tab.none (s':=?_) ?_ ?_|refine QC (b:=?_) ?_ ?_);rotate_left 1;focus ((with_reducible refine QW ?_);simp only [Zg,seval,if_true,if_false,reduceCtorEq,Nat.reduceEqDiff,t1,hrl,hwj,q1,q2,List.length_map];with_reducible rfl))|((with_reducible refine QD (cfg_ok 68) Tab.none mixed_ok (tr:=?_) (s':=?_) ?_ ?_ ?_);rotate_left 2;(focus ((with_reducible refine QW ?_);simp only [Zg,Zd,seval,if_true,if_false,reduceCtorEq,Nat.reduceEqDiff,t1,hrl,hwj,q1,q2,List.length_map];with_reducible rfl));focus ((with_reducible refine QK ?_);simp only [Zk];kernel_rfl)))
       refine roundK.on (j + 1) ⟨hjL,by omega⟩ ?_
       rw [hxk]
       (repeat' (first|with_reducible refine Qn|((with_reducible refine Qr ?_ ?_);focus (first|with_reducible rfl|(simp only [Zz,Nat.reduceBEq];done)|rfl))|((with_reducible refine Qj (o':=?_) ?_ ?_ ?_);rotate_left 1;focus rfl)|((with_reducible refine Qw ?_ ?_);(focus (first|with_reducible rfl|(simp only [Zv];done)));focus (first|exact id|exact (fun h => nomatch h)|exact (fun _ => rfl)))))
       all_goals exact ⟨rfl,rfl⟩
      ·obtain ⟨d1,d2⟩:=hx4.resolve_left htr
       have htl:0 < tr.length:=List.length_pos_iff.2 htr
       have t1:((tr.length:Int) > 0) = True:=eq_true (by omega)
       have hmc:eM (mcut ((cr,tr),n)) = [.int n,.sl 1 ((cr.map plc).map eI),.int (plc tr)]:=by
        unfold mcut eM
        simp only [if_neg htr]
       rw [hmc] at hxk
       have hpl:=a_place R tr d1 d2
       rw [← hT] at hpl
       ((repeat' (first|with_reducible (first|refine Q1 ?_|refine Q2 ?_|refine Q3 ?_|refine Q4 ?_|refine Q5 ?_|refine Q6 ?_|refine Q7 ?_|refine Q8 ?_|refine Q9 ?_|refine Qa ?_|refine Qb ?_|refine Qc ?_|refine Qd ?_|refine Qe ?_|refine Qf ?_)|((with_reducible refine Qo ?_ ?_);focus rfl)|((with_reducible first|refine QT 34 (l:=?_) ?_ ?_|refine QF 34 (l:=?_) ?_ ?_);rotate_left 1;focus (simp only [Zu,Nat.reduceSub,Nat.reduceBEq];with_reducible rfl))|((with_reducible refine QC (b:=?_) ?_ ?_);rotate_left 1;focus ((with_reducible refine QW ?_);simp only [Zg,seval,if_true,if_false,reduceCtorEq,Nat.reduceEqDiff,t1,List.length_map];with_reducible rfl))));((with_reducible refine QS (cfg_ok 68) Tab.none (s':=?_) ?_ ?_);rotate_left 1;focus ((with_reducible refine QW ?_);simp only [Zg,seval,if_true,if_false,reduceCtorEq,Nat.reduceEqDiff,t1,List.length_map];with_reducible rfl));(repeat' (first|with_reducible (first|refine Q1 ?_|refine Q2 ?_|refine Q3 ?_|refine Q4 ?_|refine Q5 ?_|refine Q6 ?_|refine Q7 ?_|refine Q8 ?_|refine Q9 ?_|refine Qa ?_|refine Qb ?_|refine Qc ?_|refine Qd ?_|refine Qe ?_|refine Qf ?_)|((with_reducible refine Qo ?_ ?_);focus rfl)|((with_reducible first|refine QT 34 (l:=?_) ?_ ?_|refine QF 34 (l:=?_) ?_ ?_);rotate_left 1;focus (simp only [Zu,Nat.reduceSub,Nat.reduceBEq];with_reducible rfl))|((with_reducible refine QC (b:=?_) ?_ ?_);rotate_left 1;focus ((with_reducible refine QW ?_);simp only [Zg,seval,if_true,if_false,reduceCtorEq,Nat.reduceEqDiff,t1,List.length_map];with_reducible rfl)))))
       ((repeat' (first|with_reducible (first|refine Q1 ?_|refine Q2 ?_|refine Q3 ?_|refine Q4 ?_|refine Q5 ?_|refine Q6 ?_|refine Q7 ?_|refine Q8 ?_|refine Q9 ?_|refine Qa ?_|refine Qb ?_|refine Qc ?_|refine Qd ?_|refine Qe ?_|refine Qf ?_)|((with_reducible refine Qo ?_ ?_);focus rfl)|((with_reducible first|refine QT 34 (l:=?_) ?_ ?_|refine QF 34 (l:=?_) ?_ ?_);rotate_left 1;focus (simp only [Zu,Nat.reduceSub,Nat.reduceBEq];with_reducible rfl))|((with_reducible refine QC (b:=?_) ?_ ?_);rotate_left 1;focus ((with_reducible refine QW ?_);simp only [Zg,seval,if_true,if_false,reduceCtorEq,Nat.reduceEqDiff,t1];with_reducible rfl))));(with_reducible refine RunK.regCut (cfg_ok 68) Tab.none 0 (s1:=?_) ?_ ?_);rotate_left 1;(focus ((with_reducible refine QW ?_);simp only [Zg,seval,if_true,if_false,reduceCtorEq,Nat.reduceEqDiff,t1];with_reducible rfl));simp only [List.toList_toArray,List.drop_succ_cons,List.drop_zero])
       refine ROps.loadA (cfg_ok 68) (d:=50) rfl rfl rfl (by decide) rfl rfl (cs:=[.val (.sl 1 T),.own 5001 i]) rfl (av:=.agg [.val (.sl 1 T),.own 5001 i]) rfl ?_
       (refine ROps.opsT (cfg_ok 68) (T:=Tab.none.at' 55 hpl) (s':=?_) ?_ ?_;rotate_left 1;focus (simp only [Zg,seval,if_true,if_false,reduceCtorEq,Nat.reduceEqDiff];with_reducible rfl))
       repeat' (first|with_reducible (first|refine Q1 ?_|refine Q2 ?_|refine Q3 ?_|refine Q4 ?_|refine Q5 ?_|refine Q6 ?_|refine Q7 ?_|refine Q8 ?_|refine Q9 ?_|refine Qa ?_|refine Qb ?_|refine Qc ?_|refine Qd ?_|refine Qe ?_|refine Qf ?_)|((with_reducible refine Qo ?_ ?_);focus rfl)|((with_reducible first|refine QT 34 (l:=?_) ?_ ?_|refine QF 34 (l:=?_) ?_ ?_);rotate_left 1;focus (simp only [Zu,Nat.reduceSub,Nat.reduceBEq];with_reducible rfl))|((with_reducible first|refine QS (cfg_ok 68) Tab.none (s':=?_) ?_ ?_|refine QC (b:=?_) ?_ ?_);rotate_left 1;focus ((with_reducible refine QW ?_);simp only [Zg,seval,if_true,if_false,reduceCtorEq,Nat.reduceEqDiff,hrl,hwj,q1,q2,List.length_map];with_reducible rfl))|((with_reducible refine QD (cfg_ok 68) Tab.none mixed_ok (tr:=?_) (s':=?_) ?_ ?_ ?_);rotate_left 2;(focus ((with_reducible refine QW ?_);simp only [Zg,Zd,seval,if_true,if_false,reduceCtorEq,Nat.reduceEqDiff,hrl,hwj,q1,q2,List.length_map];with_reducible rfl));focus ((with_reducible refine QK ?_);simp only [Zk];kernel_rfl)))
       refine roundK.on (j + 1) ⟨hjL,by omega⟩ ?_
       rw [hxk]
       (repeat' (first|with_reducible refine Qn|((with_reducible refine Qr ?_ ?_);focus (first|with_reducible rfl|(simp only [Zz,Nat.reduceBEq];done)|rfl))|((with_reducible refine Qj (o':=?_) ?_ ?_ ?_);rotate_left 1;focus rfl)|((with_reducible refine Qw ?_ ?_);(focus (first|with_reducible rfl|(simp only [Zv];done)));focus (first|exact id|exact (fun h => nomatch h)|exact (fun _ => rfl)))))
       all_goals exact ⟨rfl,rfl⟩
    ·have j1:((j:Int) < (L.length:Int)) = False:=eq_false (by omega)
     obtain rfl:j = L.length:=by omega
     repeat' (first|with_reducible (first|refine Q1 ?_|refine Q2 ?_|refine Q3 ?_|refine Q4 ?_|refine Q5 ?_|refine Q6 ?_|refine Q7 ?_|refine Q8 ?_|refine Q9 ?_|refine Qa ?_|refine Qb ?_|refine Qc ?_|refine Qd ?_|refine Qe ?_|refine Qf ?_)|((with_reducible refine Qo ?_ ?_);focus rfl)|((with_reducible first|refine QT 34 (l:=?_) ?_ ?_|refine QF 34 (l:=?_) ?_ ?_);rotate_left 1;focus (simp only [Zu,Nat.reduceSub,Nat.reduceBEq];with_reducible rfl))|((with_reducible first|refine QS (cfg_ok 68) Tab.none (s':=?_) ?_ ?_|refine QC (b:=?_) ?_ ?_);rotate_left 1;focus ((with_reducible refine QW ?_);simp only [Zg,seval,if_true,if_false,reduceCtorEq,Nat.reduceEqDiff,j1];with_reducible rfl))|((with_reducible refine QD (cfg_ok 68) Tab.none mixed_ok (tr:=?_) (s':=?_) ?_ ?_ ?_);rotate_left 2;(focus ((with_reducible refine QW ?_);simp only [Zg,Zd,seval,if_true,if_false,reduceCtorEq,Nat.reduceEqDiff,j1];with_reducible rfl));focus ((with_reducible refine QK ?_);simp only [Zk];kernel_rfl)))
     refine roundK.out () trivial ?_
     rw [List.take_length]
     (repeat' (first|with_reducible refine Qn|((with_reducible refine Qr ?_ ?_);focus (first|with_reducible rfl|(simp only [Zz,Nat.reduceBEq];done)|rfl))|((with_reducible refine Qj (o':=?_) ?_ ?_ ?_);rotate_left 1;focus rfl)|((with_reducible refine Qw ?_ ?_);(focus (first|with_reducible rfl|(simp only [Zv];done)));focus (first|exact id|exact (fun h => nomatch h)|exact (fun _ => rfl)))))
     all_goals exact ⟨rfl,rfl⟩
   ·rintro _ _
    refine RunK.frz 4 ?_
    refine RunK.fits (s0:=⟨[(0,.optr 0 0 0),(1,.optr 1 0 0),(4,.c (.val (.sl 3 ((L.map mcut).map eM)))),(13,.c (.val (.sl 1 T))),(14,.c (.val (.int 37))),(15,.c (.val (.int i)))],[(0,.row 2 [[.sl 1 [],.sl 1 []]] true),(1,.lit 2 [[.val (.sl 1 T),.own 5001 i]]),(5001,.row 1 R false)]⟩) ?_ ?_
    ·(repeat' (first|with_reducible refine Qn|((with_reducible refine Qr ?_ ?_);focus (first|with_reducible rfl|(simp only [Zz,Nat.reduceBEq,St.frz,frzR,frzH,look,AV.frz,AC.frz,Obj.frz,drop];done)|rfl))|((with_reducible refine Qj (o':=?_) ?_ ?_ ?_);rotate_left 1;focus rfl)|((with_reducible refine Qw ?_ ?_);(focus (first|with_reducible rfl|(simp only [Zv,St.frz,frzR,frzH,look,AV.frz,AC.frz,Obj.frz,drop];done)));focus (first|exact id|exact (fun h => nomatch h)|exact (fun _ => rfl)))))
     all_goals first|exact ⟨rfl,rfl⟩|exact ⟨rfl,rfl,id⟩
    have q1:=big_le (n:=i + 1) (by omega)
    have q2:=big_mul (n:=i + 1) (c:=24) (by omega) (by omega)
    ((repeat' (first|with_reducible (first|refine Q1 ?_|refine Q2 ?_|refine Q3 ?_|refine Q4 ?_|refine Q5 ?_|refine Q6 ?_|refine Q7 ?_|refine Q8 ?_|refine Q9 ?_|refine Qa ?_|refine Qb ?_|refine Qc ?_|refine Qd ?_|refine Qe ?_|refine Qf ?_)|((with_reducible refine Qo ?_ ?_);focus rfl)|((with_reducible first|refine QT 34 (l:=?_) ?_ ?_|refine QF 34 (l:=?_) ?_ ?_);rotate_left 1;focus (simp only [Zu,Nat.reduceSub,Nat.reduceBEq];with_reducible rfl))|((with_reducible refine QC (b:=?_) ?_ ?_);rotate_left 1;focus ((with_reducible refine QW ?_);simp only [Zg,seval,if_true,if_false,reduceCtorEq,Nat.reduceEqDiff];with_reducible rfl))));(with_reducible refine RunK.regCut (cfg_ok 68) Tab.none 1 (s1:=?_) ?_ ?_);rotate_left 1;(focus ((with_reducible refine QW ?_);simp only [Zg,seval,if_true,if_false,reduceCtorEq,Nat.reduceEqDiff];with_reducible rfl));simp only [List.toList_toArray,List.drop_succ_cons,List.drop_zero])
    refine ROps.loadA (cfg_ok 68) (d:=61) rfl rfl rfl (by decide) rfl rfl (cs:=[.own 5001 i]) rfl (av:=.c (.own 5001 i)) rfl ?_
    ((with_reducible refine ROps.cut (cfg_ok 68) Tab.none 2 (s1:=?_) ?_ ?_);rotate_left 1;(focus ((with_reducible refine QW ?_);simp only [Zg,seval,if_true,if_false,reduceCtorEq,Nat.reduceEqDiff];with_reducible rfl));simp only [List.drop_succ_cons,List.drop_zero])
    refine ROps.killL 1 5001 (k:=2) (r:=[.val (.sl 1 T),.own 5001 i]) rfl ?_
    ((with_reducible refine ROps.cut (cfg_ok 68) Tab.none 1 (s1:=?_) ?_ ?_);rotate_left 1;(focus ((with_reducible refine QW ?_);simp only [Zg,seval,if_true,if_false,reduceCtorEq,Nat.reduceEqDiff,hRl,q1,q2,List.map_cons,List.map_nil,AC.kill];with_reducible rfl));simp only [List.drop_succ_cons,List.drop_zero])
    refine ROps.renR 64 5001 (by decide) rfl rfl rfl ?_
    ((with_reducible refine ROps.cut (cfg_ok 68) Tab.none 1 (s1:=?_) ?_ ?_);rotate_left 1;(focus ((with_reducible refine QW ?_);simp only [Zg,seval,if_true,if_false,reduceCtorEq,Nat.reduceEqDiff];with_reducible rfl));simp only [List.drop_succ_cons,List.drop_zero])
    refine ROps.storeA (cfg_ok 68) (key:=1) (j:=1) rfl rfl rfl rfl rfl rfl (cs:=[.own 5001 (i + 1)]) rfl rfl rfl (r:=[.val (.sl 1 T),.junk]) rfl (Nat.le_of_ble_eq_true rfl) ?_
    refine ROps.nil ?_
    repeat' (first|with_reducible (first|refine Q1 ?_|refine Q2 ?_|refine Q3 ?_|refine Q4 ?_|refine Q5 ?_|refine Q6 ?_|refine Q7 ?_|refine Q8 ?_|refine Q9 ?_|refine Qa ?_|refine Qb ?_|refine Qc ?_|refine Qd ?_|refine Qe ?_|refine Qf ?_)|((with_reducible refine Qo ?_ ?_);focus rfl)|((with_reducible first|refine QT 34 (l:=?_) ?_ ?_|refine QF 34 (l:=?_) ?_ ?_);rotate_left 1;focus (simp only [Zu,Nat.reduceSub,Nat.reduceBEq];with_reducible rfl))|((with_reducible first|refine QS (cfg_ok 68) Tab.none (s':=?_) ?_ ?_|refine QC (b:=?_) ?_ ?_);rotate_left 1;focus ((with_reducible refine QW ?_);simp only [Zg,seval,if_true,if_false,reduceCtorEq,Nat.reduceEqDiff,hw];with_reducible rfl))|((with_reducible refine QD (cfg_ok 68) Tab.none mixed_ok (tr:=?_) (s':=?_) ?_ ?_ ?_);rotate_left 2;(focus ((with_reducible refine QW ?_);simp only [Zg,Zd,seval,if_true,if_false,reduceCtorEq,Nat.reduceEqDiff,hw];with_reducible rfl));focus ((with_reducible refine QK ?_);simp only [Zk];kernel_rfl)))
    refine roundK.on (i + 1) ⟨by omega,by omega⟩ ?_
    rw [htk]
    (repeat' (first|with_reducible refine Qn|((with_reducible refine Qr ?_ ?_);focus (first|with_reducible rfl|(simp only [Zz,Nat.reduceBEq];done)|rfl))|((with_reducible refine Qj (o':=?_) ?_ ?_ ?_);rotate_left 1;focus rfl)|((with_reducible refine Qw ?_ ?_);(focus (first|with_reducible rfl|(simp only [Zv];done)));focus (first|exact id|exact (fun h => nomatch h)|exact (fun _ => rfl)))))
    all_goals exact ⟨rfl,rfl⟩
  ·have i1:((i:Int) < 37) = False:=eq_false (by omega)
   obtain rfl:i = 37:=by omega
   repeat' (first|with_reducible (first|refine Q1 ?_|refine Q2 ?_|refine Q3 ?_|refine Q4 ?_|refine Q5 ?_|refine Q6 ?_|refine Q7 ?_|refine Q8 ?_|refine Q9 ?_|refine Qa ?_|refine Qb ?_|refine Qc ?_|refine Qd ?_|refine Qe ?_|refine Qf ?_)|((with_reducible refine Qo ?_ ?_);focus rfl)|((with_reducible first|refine QT 34 (l:=?_) ?_ ?_|refine QF 34 (l:=?_) ?_ ?_);rotate_left 1;focus (simp only [Zu,Nat.reduceSub,Nat.reduceBEq];with_reducible rfl))|((with_reducible first|refine QS (cfg_ok 68) Tab.none (s':=?_) ?_ ?_|refine QC (b:=?_) ?_ ?_);rotate_left 1;focus ((with_reducible refine QW ?_);simp only [Zg,seval,if_true,if_false,reduceCtorEq,Nat.reduceEqDiff,i1];with_reducible rfl))|((with_reducible refine QD (cfg_ok 68) Tab.none mixed_ok (tr:=?_) (s':=?_) ?_ ?_ ?_);rotate_left 2;(focus ((with_reducible refine QW ?_);simp only [Zg,Zd,seval,if_true,if_false,reduceCtorEq,Nat.reduceEqDiff,i1];with_reducible rfl));focus ((with_reducible refine QK ?_);simp only [Zk];kernel_rfl)))
   refine roundK.out () trivial ?_
   rw [List.take_of_length_le (by rw [T6_len];omega)]
   (repeat' (first|with_reducible refine Qn|((with_reducible refine Qr ?_ ?_);focus (first|with_reducible rfl|(simp only [Zz,Nat.reduceBEq];done)|rfl))|((with_reducible refine Qj (o':=?_) ?_ ?_ ?_);rotate_left 1;focus rfl)|((with_reducible refine Qw ?_ ?_);(focus (first|with_reducible rfl|(simp only [Zv];done)));focus (first|exact id|exact (fun h => nomatch h)|exact (fun _ => rfl)))))
   all_goals exact ⟨rfl,rfl⟩
 ·rintro _ _
  refine RunK.frz 5001 ?_
  refine RunK.fits (s0:=⟨[(0,.optr 0 0 0),(1,.optr 1 0 0)],[(0,.row 2 [[.sl 1 [],.sl 1 []]] true),(1,.lit 2 [[.val (.sl 1 T),.val (.sl 1 ((T6.map cutsM).map eMs))]])]⟩) ?_ ?_
  ·(repeat' (first|with_reducible refine Qn|((with_reducible refine Qr ?_ ?_);focus (first|with_reducible rfl|(simp only [Zz,Nat.reduceBEq,St.frz,frzR,frzH,look,AV.frz,AC.frz,Obj.frz,drop];done)|rfl))|((with_reducible refine Qj (o':=?_) ?_ ?_ ?_);rotate_left 1;focus rfl)|((with_reducible refine Qw ?_ ?_);(focus (first|with_reducible rfl|(simp only [Zv,St.frz,frzR,frzH,look,AV.frz,AC.frz,Obj.frz,drop];done)));focus (first|exact id|exact (fun h => nomatch h)|exact (fun _ => rfl)))))
   all_goals first|exact ⟨rfl,rfl⟩|exact ⟨rfl,rfl,id⟩
  refine RunK.litRow 1 [.sl 1 T,.sl 1 ((T6.map cutsM).map eMs)] rfl ?_
  repeat' (first|with_reducible (first|refine Q1 ?_|refine Q2 ?_|refine Q3 ?_|refine Q4 ?_|refine Q5 ?_|refine Q6 ?_|refine Q7 ?_|refine Q8 ?_|refine Q9 ?_|refine Qa ?_|refine Qb ?_|refine Qc ?_|refine Qd ?_|refine Qe ?_|refine Qf ?_)|((with_reducible refine Qo ?_ ?_);focus rfl)|((with_reducible first|refine QT 34 (l:=?_) ?_ ?_|refine QF 34 (l:=?_) ?_ ?_);rotate_left 1;focus (simp only [Zu,Nat.reduceSub,Nat.reduceBEq];with_reducible rfl))|((with_reducible first|refine QS (cfg_ok 68) Tab.none (s':=?_) ?_ ?_|refine QC (b:=?_) ?_ ?_);rotate_left 1;focus ((with_reducible refine QW ?_);simp only [Zg,seval,if_true,if_false,reduceCtorEq,Nat.reduceEqDiff];with_reducible rfl))|((with_reducible refine QD (cfg_ok 68) Tab.none mixed_ok (tr:=?_) (s':=?_) ?_ ?_ ?_);rotate_left 2;(focus ((with_reducible refine QW ?_);simp only [Zg,Zd,seval,if_true,if_false,reduceCtorEq,Nat.reduceEqDiff];with_reducible rfl));focus ((with_reducible refine QK ?_);simp only [Zk];kernel_rfl)))
  exact ⟨by simp,0,_,0,_,_,rfl,rfl,rfl,rfl,rfl,rfl⟩
end Go.Proofs.YtfhmonacgmakbaaGreat
namespace Go.Proofs.YtfhmonacgmakbaaGreat
open Go.RowKit
def RetOC {α:Type} (R:Rep α) (w:World) (x:α) (code:Int):Ending→World→Prop :=
 fun e w' => ∃ u,e = .returned (.tuple #[u,.int .i64 code])∧Own R w.heap.size w'.heap.size w' [u] x∧Below w.heap.size w w'
end Go.Proofs.YtfhmonacgmakbaaGreat
namespace Go.Proofs.YtfhmonacgmakbaaGreat
open Go.RowKit
def valM (a:List Int) (ps:List Int):Int:=ps.foldl (fun o p => mP (o * a.getD p.toNat 0)) 1
theorem valM_snoc (a ps:List Int) (p:Int):valM a (ps ++ [p]) = mP (valM a ps * a.getD p.toNat 0):=by unfold valM;rw [List.foldl_append];rfl
theorem valM_bd (a:List Int) (ps:List Int):0 ≤ valM a ps∧valM a ps < 10007:=by
 rcases List.eq_nil_or_concat ps with rfl|⟨l,x,rfl⟩
 ·exact (by decide:(0:Int) ≤ 1∧(1:Int) < 10007)
 ·rw [List.concat_eq_append,valM_snoc];exact mP_bd _
theorem isMap_bd {a:List Int} (h:isMap a = true):a.length = 38∧∀ i,0 ≤ a.getD i 0∧a.getD i 0 < 10007:=by
 unfold isMap at h
 rw [Bool.and_eq_true] at h
 refine ⟨of_decide_eq_true h.1,fun i => ?_⟩
 by_cases hi:i < a.length
 ·rw [getD_at hi]
  have:=List.all_eq_true.1 h.2 _ (List.getElem_mem hi)
  unfold isNum inR at this
  simp at this
  omega
 ·rw [List.getD_eq_getElem?_getD,List.getElem?_eq_none (by omega)];decide
theorem mul_bdM {a b:Int} (h1:0 ≤ a∧a < 10007) (h2:0 ≤ b∧b < 10007):0 ≤ a * b∧a * b ≤ 100140049:=by
 refine ⟨Int.mul_nonneg h1.1 h2.1,?_⟩
 have:=Int.mul_le_mul (a:=a) (b:=b) (c:=10007) (d:=10007) (by omega) (by omega) h2.1 (by omega)
 omega
theorem a_impl_IsMap (a:List Int):AFn Tryz.prog 44 [eL a] (· = [.val (.bool (isMap a))]) :=
 afn_L_s (v:=.bool _) (enters_of Tryz.func44 rfl rfl) (fun _ _ => rdV_bool.2 rfl) (fun u w h => c_impl_IsMap u a w h)
theorem a_spec_l07Is (a:List Int):AFn Tryz.prog 42 [eL a] (· = [.val (.bool (isMap a))]) :=
 afn_L_s (v:=.bool _) (enters_of Tryz.func42 rfl rfl) (fun _ _ => rdV_bool.2 rfl) (fun u w h => c_spec_l07Is u a w h)
theorem a_l03FindT (t:List Int) (h:canT t = true) (hl:t.length ≤ 6):AFn Tryz.prog 50 [eLL T6,eL t] (· = [.val (.int (posT t))]):=by
 obtain ⟨p1,p2,p3,p4⟩:=plc_at h hl
 exact a_l03Find T6 t (posT t) (by rw [T6_len];omega) p1 p2 (fun k hk hlt e => by have:=p3 k hk hlt;rw [e,cmpT_cmp.refl] at this;omega)
theorem a_valueOf (a ps:List Int) (ha:isMap a = true) (hp:∀ p ∈ ps,0 ≤ p∧p < 38) (hl:ps.length ≤ 1000000):AFn Tryz.prog 56 [eL a,eL ps] (· = [.val (.int (valM a ps))]):=by
 obtain ⟨hal,hab⟩:=isMap_bd ha
 refine AFn.of_runs (cfg_ok 23) Tryz.func56 rfl rfl rfl (by simp only [List.length_cons,List.length_nil];decide) ?_
 have hres:Tryz.f56.results.toList = [.tmp 4]:=rfl
 have hrts:Tryz.f56.resultTypes.toList = [2]:=rfl
 simp only [argRegs,argAV1,eL,eI,eLL,eB,Nat.zero_add,Nat.reduceAdd]
 intro M
 refine RunK.of ?_
 repeat' (first|with_reducible (first|refine Q1 ?_|refine Q2 ?_|refine Q3 ?_|refine Q4 ?_|refine Q5 ?_|refine Q6 ?_|refine Q7 ?_|refine Q8 ?_|refine Q9 ?_|refine Qa ?_|refine Qb ?_|refine Qc ?_|refine Qd ?_|refine Qe ?_|refine Qf ?_)|((with_reducible refine Qo ?_ ?_);focus rfl)|((with_reducible first|refine QT 11 (l:=?_) ?_ ?_|refine QF 11 (l:=?_) ?_ ?_);rotate_left 1;focus (simp only [Zu,Nat.reduceSub,Nat.reduceBEq];with_reducible rfl))|((with_reducible first|refine QS (cfg_ok 23) Tab.none (s':=?_) ?_ ?_|refine QC (b:=?_) ?_ ?_);rotate_left 1;focus ((with_reducible refine QW ?_);simp only [Zg,seval,if_true,if_false,reduceCtorEq,Nat.reduceEqDiff,List.length_map];with_reducible rfl)))
 refine RunK.loop (β:=Nat) (γ:=Unit) (fun k => ⟨[(0,.c (.val (.sl 1 (a.map eI)))),(5,.c (.val (.int (valM a (ps.take k))))),(8,.c (.val (.sl 1 (ps.map eI)))),(9,.c (.val (.int ps.length))),(10,.c (.val (.int k)))],[]⟩) (fun k => k ≤ ps.length) (fun k => ps.length - k)
  (fun _ => ⟨[(5,.c (.val (.int (valM a ps))))],[]⟩) (fun _ => True) 0 (Nat.zero_le _) ?_ ?_ ?_
 ·(repeat' (first|with_reducible refine Qn|((with_reducible refine Qr ?_ ?_);focus (first|with_reducible rfl|(simp only [Zz,Nat.reduceBEq,List.take_zero,show valM a [] = 1 from rfl,Int.natCast_zero];done)|rfl))|((with_reducible refine Qj (o':=?_) ?_ ?_ ?_);rotate_left 1;focus rfl)|((with_reducible refine Qw ?_ ?_);(focus (first|with_reducible rfl|(simp only [Zv,List.take_zero,show valM a [] = 1 from rfl,Int.natCast_zero];done)));focus (first|exact id|exact (fun h => nomatch h)|exact (fun _ => rfl)))))
 ·intro k hk
  have hk:k ≤ ps.length:=hk
  have hw:=w64_succ (n:=k) (by omega)
  by_cases h:k < ps.length
  ·have i1:((k:Int) < (ps.length:Int)) = True:=eq_true (by omega)
   have i2:((0:Int) ≤ (k:Int)) = True:=eq_true (by omega)
   obtain ⟨p,hpe⟩:∃ p,p = ps[k]:=⟨_,rfl⟩
   obtain ⟨p1,p2⟩:=hp ps[k] (List.getElem_mem _)
   rw [← hpe] at p1 p2
   obtain ⟨m,rfl⟩:∃ m:Nat,p = m:=⟨p.toNat,by omega⟩
   have hm:m < a.length:=by omega
   have hle1:(ps.map eI).length = ps.length:=List.length_map _
   have hle2:(a.map eI).length = 38:=by rw [List.length_map,hal]
   have hg1:(ps.map eI)[k]? = some [.int (m:Int)]:=by rw [map_get h,← hpe];rfl
   have hg2:(a.map eI)[m]? = some [.int (a.getD m 0)]:=by rw [map_get hm,getD_at hm];rfl
   have hst:valM a (ps.take (k + 1)) = mP (valM a (ps.take k) * a.getD m 0):=by rw [List.take_succ_eq_append_getElem h,valM_snoc,← hpe];rfl
   have i3:((m:Int) < 38) = True:=eq_true (by omega)
   have i4:((0:Int) ≤ (m:Int)) = True:=eq_true (by omega)
   have hmb:=mul_bdM (valM_bd a (ps.take k)) (hab m)
   have hw2:w64 (valM a (ps.take k) * a.getD m 0) = valM a (ps.take k) * a.getD m 0:=w64_eq (by omega)
   have hnum:=a_num (valM a (ps.take k) * a.getD m 0)
   simp only [eI] at hnum
   repeat' (first|with_reducible (first|refine Q1 ?_|refine Q2 ?_|refine Q3 ?_|refine Q4 ?_|refine Q5 ?_|refine Q6 ?_|refine Q7 ?_|refine Q8 ?_|refine Q9 ?_|refine Qa ?_|refine Qb ?_|refine Qc ?_|refine Qd ?_|refine Qe ?_|refine Qf ?_)|((with_reducible refine Qo ?_ ?_);focus rfl)|((with_reducible first|refine QT 11 (l:=?_) ?_ ?_|refine QF 11 (l:=?_) ?_ ?_);rotate_left 1;focus (simp only [Zu,Nat.reduceSub,Nat.reduceBEq];with_reducible rfl))|((with_reducible first|refine QS (cfg_ok 23) (Tab.none.at' 77 hnum) (s':=?_) ?_ ?_|refine QC (b:=?_) ?_ ?_);rotate_left 1;focus ((with_reducible refine QW ?_);simp only [Zg,seval,if_true,if_false,reduceCtorEq,Nat.reduceEqDiff,i1,i2,i3,i4,hle1,hle2,hg1,hg2,hw,hw2,Int.toNat_natCast];with_reducible rfl)))
   refine roundK.on (k + 1) ⟨h,by omega⟩ ?_
   rw [hst]
   (repeat' (first|with_reducible refine Qn|((with_reducible refine Qr ?_ ?_);focus (first|with_reducible rfl|(simp only [Zz,Nat.reduceBEq];done)|rfl))|((with_reducible refine Qj (o':=?_) ?_ ?_ ?_);rotate_left 1;focus rfl)|((with_reducible refine Qw ?_ ?_);(focus (first|with_reducible rfl|(simp only [Zv];done)));focus (first|exact id|exact (fun h => nomatch h)|exact (fun _ => rfl)))))
  ·have i1:((k:Int) < (ps.length:Int)) = False:=eq_false (by omega)
   repeat' (first|with_reducible (first|refine Q1 ?_|refine Q2 ?_|refine Q3 ?_|refine Q4 ?_|refine Q5 ?_|refine Q6 ?_|refine Q7 ?_|refine Q8 ?_|refine Q9 ?_|refine Qa ?_|refine Qb ?_|refine Qc ?_|refine Qd ?_|refine Qe ?_|refine Qf ?_)|((with_reducible refine Qo ?_ ?_);focus rfl)|((with_reducible first|refine QT 11 (l:=?_) ?_ ?_|refine QF 11 (l:=?_) ?_ ?_);rotate_left 1;focus (simp only [Zu,Nat.reduceSub,Nat.reduceBEq];with_reducible rfl))|((with_reducible first|refine QS (cfg_ok 23) Tab.none (s':=?_) ?_ ?_|refine QC (b:=?_) ?_ ?_);rotate_left 1;focus ((with_reducible refine QW ?_);simp only [Zg,seval,if_true,if_false,reduceCtorEq,Nat.reduceEqDiff,i1];with_reducible rfl)))
   refine roundK.out () trivial ?_
   rw [List.take_of_length_le (by omega)]
   (repeat' (first|with_reducible refine Qn|((with_reducible refine Qr ?_ ?_);focus (first|with_reducible rfl|(simp only [Zz,Nat.reduceBEq];done)|rfl))|((with_reducible refine Qj (o':=?_) ?_ ?_ ?_);rotate_left 1;focus rfl)|((with_reducible refine Qw ?_ ?_);(focus (first|with_reducible rfl|(simp only [Zv];done)));focus (first|exact id|exact (fun h => nomatch h)|exact (fun _ => rfl)))))
 ·rintro _ _
  repeat' (first|with_reducible (first|refine Q1 ?_|refine Q2 ?_|refine Q3 ?_|refine Q4 ?_|refine Q5 ?_|refine Q6 ?_|refine Q7 ?_|refine Q8 ?_|refine Q9 ?_|refine Qa ?_|refine Qb ?_|refine Qc ?_|refine Qd ?_|refine Qe ?_|refine Qf ?_)|((with_reducible refine Qo ?_ ?_);focus rfl)|((with_reducible first|refine QT 11 (l:=?_) ?_ ?_|refine QF 11 (l:=?_) ?_ ?_);rotate_left 1;focus (simp only [Zu,Nat.reduceSub,Nat.reduceBEq];with_reducible rfl))|((with_reducible first|refine QS (cfg_ok 23) Tab.none (s':=?_) ?_ ?_|refine QC (b:=?_) ?_ ?_);rotate_left 1;focus ((with_reducible refine QW ?_);simp only [Zg,seval,if_true,if_false,reduceCtorEq,Nat.reduceEqDiff];with_reducible rfl)))
  (refine Ends.mk (by simp) (rs:=?_) (ks:=?_) hres hrts ?_ ?_ ?_;rotate_left 2;(focus (simp only [Ze,Zg,seval,if_true,if_false,reduceCtorEq,Nat.reduceEqDiff];with_reducible rfl));(focus simp);focus (first|with_reducible rfl|(simp only [Zv];done)))
theorem mP_mul (a b:Int):mP (mP a * b) = mP (a * b):=by unfold mP;rw [Int.mul_emod,Int.emod_emod_of_dvd _ (Int.dvd_refl _),← Int.mul_emod]
end Go.Proofs.YtfhmonacgmakbaaGreat
namespace Go.Proofs.YtfhmonacgmakbaaGreat
open Go.RowKit
set_option maxHeartbeats 4000000 in
theorem a_l03FindNo (L:List (List Int)) (t:List Int) (hl:L.length ≤ 1000000) (hne:∀ k (h:k < L.length),L[k] ≠ t):AFn Tryz.prog 50 [eLL L,eL t] (· = [.val (.int (-1))]):=by
 refine AFn.of_runs (cfg_ok 19) Tryz.func50 rfl rfl rfl (by simp only [List.length_cons,List.length_nil];decide) ?_
 have hres:Tryz.f50.results.toList = [.tmp 4]:=rfl
 have hrts:Tryz.f50.resultTypes.toList = [2]:=rfl
 simp only [argRegs,argAV1,eL,eI,eLL,eB,Nat.zero_add,Nat.reduceAdd]
 intro M
 refine RunK.of ?_
 repeat' (first|with_reducible (first|refine Q1 ?_|refine Q2 ?_|refine Q3 ?_|refine Q4 ?_|refine Q5 ?_|refine Q6 ?_|refine Q7 ?_|refine Q8 ?_|refine Q9 ?_|refine Qa ?_|refine Qb ?_|refine Qc ?_|refine Qd ?_|refine Qe ?_|refine Qf ?_)|((with_reducible refine Qo ?_ ?_);focus rfl)|((with_reducible first|refine QT 6 (l:=?_) ?_ ?_|refine QF 6 (l:=?_) ?_ ?_);rotate_left 1;focus (simp only [Zu,Nat.reduceSub,Nat.reduceBEq];with_reducible rfl))|((with_reducible first|refine QS (cfg_ok 19) Tab.none (s':=?_) ?_ ?_|refine QC (b:=?_) ?_ ?_);rotate_left 1;focus ((with_reducible refine QW ?_);simp only [Zg,seval,if_true,if_false,reduceCtorEq,Nat.reduceEqDiff];with_reducible rfl)))
 refine RunK.loop (β:=Nat) (γ:=Unit) (fun i => ⟨[(0,.c (.val (.sl 1 (L.map eL)))),(1,.c (.val (.sl 1 (t.map eI)))),(5,.c (.val (.int i)))],[]⟩) (fun i => i ≤ L.length) (fun i => L.length - i)
  (fun _ => ⟨[],[]⟩) (fun _ => True) 0 (Nat.zero_le _) ?_ ?_ ?_
 ·(repeat' (first|with_reducible refine Qn|((with_reducible refine Qr ?_ ?_);focus (first|with_reducible rfl|(simp only [Zz,Nat.reduceBEq];done)|rfl))|((with_reducible refine Qj (o':=?_) ?_ ?_ ?_);rotate_left 1;focus rfl)|((with_reducible refine Qw ?_ ?_);(focus (first|with_reducible rfl|(simp only [Zv];done)));focus (first|exact id|exact (fun h => nomatch h)|exact (fun _ => rfl)))))
 ·intro i hi
  have hi:i ≤ L.length:=hi
  by_cases h:i < L.length
  ·have i1:((i:Int) < (L.length:Int)) = True:=eq_true (by omega)
   have i2:((0:Int) ≤ (i:Int)) = True:=eq_true (by omega)
   obtain ⟨s,hs⟩:∃ s,s = L[i]:=⟨_,rfl⟩
   have hg:(L.map eL)[i]? = some [.sl 1 (s.map eI)]:=by rw [map_get (by omega),hs];rfl
   have ha:=a_l01Same s t
   have e:¬ s = t:=by rw [hs];exact hne i h
   have hw:=w64_succ (n:=i) (by omega)
   rw [decide_eq_false e] at ha
   repeat' (first|with_reducible (first|refine Q1 ?_|refine Q2 ?_|refine Q3 ?_|refine Q4 ?_|refine Q5 ?_|refine Q6 ?_|refine Q7 ?_|refine Q8 ?_|refine Q9 ?_|refine Qa ?_|refine Qb ?_|refine Qc ?_|refine Qd ?_|refine Qe ?_|refine Qf ?_)|((with_reducible refine Qo ?_ ?_);focus rfl)|((with_reducible first|refine QT 6 (l:=?_) ?_ ?_|refine QF 6 (l:=?_) ?_ ?_);rotate_left 1;focus (simp only [Zu,Nat.reduceSub,Nat.reduceBEq];with_reducible rfl))|((with_reducible first|refine QS (cfg_ok 19) ((Tab.none.at' 103 ha)) (s':=?_) ?_ ?_|refine QC (b:=?_) ?_ ?_);rotate_left 1;focus ((with_reducible refine QW ?_);simp only [Zg,seval,if_true,if_false,reduceCtorEq,Nat.reduceEqDiff,i1,i2,hg,hw,eL,Int.toNat_natCast,List.length_map];with_reducible rfl)))
   refine roundK.on (i + 1) ⟨show i + 1 ≤ L.length by omega,by omega⟩ ?_
   (repeat' (first|with_reducible refine Qn|((with_reducible refine Qr ?_ ?_);focus (first|with_reducible rfl|(simp only [Zz,Nat.reduceBEq];done)|rfl))|((with_reducible refine Qj (o':=?_) ?_ ?_ ?_);rotate_left 1;focus rfl)|((with_reducible refine Qw ?_ ?_);(focus (first|with_reducible rfl|(simp only [Zv];done)));focus (first|exact id|exact (fun h => nomatch h)|exact (fun _ => rfl)))))
  ·have i1:((i:Int) < (L.length:Int)) = False:=eq_false (by omega)
   repeat' (first|with_reducible (first|refine Q1 ?_|refine Q2 ?_|refine Q3 ?_|refine Q4 ?_|refine Q5 ?_|refine Q6 ?_|refine Q7 ?_|refine Q8 ?_|refine Q9 ?_|refine Qa ?_|refine Qb ?_|refine Qc ?_|refine Qd ?_|refine Qe ?_|refine Qf ?_)|((with_reducible refine Qo ?_ ?_);focus rfl)|((with_reducible first|refine QT 6 (l:=?_) ?_ ?_|refine QF 6 (l:=?_) ?_ ?_);rotate_left 1;focus (simp only [Zu,Nat.reduceSub,Nat.reduceBEq];with_reducible rfl))|((with_reducible first|refine QS (cfg_ok 19) Tab.none (s':=?_) ?_ ?_|refine QC (b:=?_) ?_ ?_);rotate_left 1;focus ((with_reducible refine QW ?_);simp only [Zg,seval,if_true,if_false,reduceCtorEq,Nat.reduceEqDiff,i1,List.length_map];with_reducible rfl)))
   refine roundK.out () trivial ?_
   (repeat' (first|with_reducible refine Qn|((with_reducible refine Qr ?_ ?_);focus (first|with_reducible rfl|(simp only [Zz,Nat.reduceBEq];done)|rfl))|((with_reducible refine Qj (o':=?_) ?_ ?_ ?_);rotate_left 1;focus rfl)|((with_reducible refine Qw ?_ ?_);(focus (first|with_reducible rfl|(simp only [Zv];done)));focus (first|exact id|exact (fun h => nomatch h)|exact (fun _ => rfl)))))
 ·rintro _ _
  repeat' (first|with_reducible (first|refine Q1 ?_|refine Q2 ?_|refine Q3 ?_|refine Q4 ?_|refine Q5 ?_|refine Q6 ?_|refine Q7 ?_|refine Q8 ?_|refine Q9 ?_|refine Qa ?_|refine Qb ?_|refine Qc ?_|refine Qd ?_|refine Qe ?_|refine Qf ?_)|((with_reducible refine Qo ?_ ?_);focus rfl)|((with_reducible first|refine QT 6 (l:=?_) ?_ ?_|refine QF 6 (l:=?_) ?_ ?_);rotate_left 1;focus (simp only [Zu,Nat.reduceSub,Nat.reduceBEq];with_reducible rfl))|((with_reducible first|refine QS (cfg_ok 19) Tab.none (s':=?_) ?_ ?_|refine QC (b:=?_) ?_ ?_);rotate_left 1;focus ((with_reducible refine QW ?_);simp only [Zg,seval,if_true,if_false,reduceCtorEq,Nat.reduceEqDiff];with_reducible rfl)))
  (refine Ends.mk (by simp) (rs:=?_) (ks:=?_) hres hrts ?_ ?_ ?_;rotate_left 2;(focus (simp only [Ze,Zg,seval,if_true,if_false,reduceCtorEq,Nat.reduceEqDiff];with_reducible rfl));(focus simp);focus (first|with_reducible rfl|(simp only [Zv];done)))
end Go.Proofs.YtfhmonacgmakbaaGreat
namespace Go.Proofs.YtfhmonacgmakbaaGreat
open Go.RowKit
set_option maxRecDepth 20000 in
set_option maxHeartbeats 8000000 in
theorem a_l05Cuts (t:List Int) (h:LevP t) (hc:canon t = t) (hl:t.length ≤ 8):AFn Tryz.prog 110 [eL t] (· = [.own 3 ((cutsL t).map eCu) false]):=by
 have htr:=a_l05Tree 8 (Nat.le_refl _) t h hc hl
 have hone:=gath_trunk t h
 have hgood:=gath_good (split_good _ (Nat.le_refl _) h)
 have hgl:(gathS (split t)).length ≤ 256:=by
  have h0:=(gathS_is (split t)).len
  rw [List.length_map] at h0
  have h1:=split_len _ (Nat.le_refl _) h
  have h2:2 ^ t.length ≤ 2 ^ 8:=Nat.pow_le_pow_right (by decide) hl
  omega
 obtain ⟨L,hL⟩:∃ L,L = gathS (split t):=⟨_,rfl⟩
 have hcl:cutsL t = L.map cutS:=by rw [hL];rfl
 rw [hcl]
 rw [← hL] at htr hone hgood hgl
 simp only [eL] at htr
 have hLm:(L.map eSp).length = L.length:=List.length_map _
 refine AFn.of_runs (cfg_ok 49) Tryz.func110 rfl rfl rfl (by simp only [List.length_cons,List.length_nil];decide) ?_
 have hres:Tryz.f110.results.toList = [.tmp 2]:=rfl
 have hrts:Tryz.f110.resultTypes.toList = [115]:=rfl
 simp only [argRegs,argAV1,eL,eI,eLL,eB,Nat.zero_add,Nat.reduceAdd]
 intro M
 refine RunK.of ?_
 repeat' (first|with_reducible (first|refine Q1 ?_|refine Q2 ?_|refine Q3 ?_|refine Q4 ?_|refine Q5 ?_|refine Q6 ?_|refine Q7 ?_|refine Q8 ?_|refine Q9 ?_|refine Qa ?_|refine Qb ?_|refine Qc ?_|refine Qd ?_|refine Qe ?_|refine Qf ?_)|((with_reducible refine Qo ?_ ?_);focus rfl)|((with_reducible first|refine QT 7 (l:=?_) ?_ ?_|refine QF 7 (l:=?_) ?_ ?_);rotate_left 1;focus (simp only [Zu,Nat.reduceSub,Nat.reduceBEq];with_reducible rfl))|((with_reducible first|refine QS (cfg_ok 49) (Tab.none.at' 154 htr) (s':=?_) ?_ ?_|refine QC (b:=?_) ?_ ?_);rotate_left 1;focus ((with_reducible refine QW ?_);simp only [Zg,seval,if_true,if_false,reduceCtorEq,Nat.reduceEqDiff];with_reducible rfl))|((with_reducible refine QD (cfg_ok 49) (Tab.none.at' 154 htr) mixed_ok (tr:=?_) (s':=?_) ?_ ?_ ?_);rotate_left 2;(focus ((with_reducible refine QW ?_);simp only [Zg,Zd,seval,if_true,if_false,reduceCtorEq,Nat.reduceEqDiff];with_reducible rfl));focus ((with_reducible refine QK ?_);simp only [Zk];kernel_rfl)))
 refine RunK.loop (β:=Nat) (γ:=Unit) (fun i => ⟨[(3,.c (.val (.sl 3 (L.map eSp)))),(4,.c (.own 4 i)),(5,.c (.val (.int i)))],[(4,.row 3 (((L.take i).map cutS).map eCu) false)]⟩) (fun i => i ≤ L.length) (fun i => L.length - i)
  (fun _ => ⟨[(4,.c (.own 4 L.length))],[(4,.row 3 ((L.map cutS).map eCu) false)]⟩) (fun _ => True) 0 (Nat.zero_le _) ?_ ?_ ?_
 ·(repeat' (first|with_reducible refine Qn|((with_reducible refine Qr ?_ ?_);focus (first|with_reducible rfl|(simp only [Zz,Nat.reduceBEq,List.take_zero,List.map_nil,Int.natCast_zero];done)|rfl))|((with_reducible refine Qj (o':=?_) ?_ ?_ ?_);rotate_left 1;focus rfl)|((with_reducible refine Qw ?_ ?_);(focus (first|with_reducible rfl|(simp only [Zv,List.take_zero,List.map_nil,Int.natCast_zero];done)));focus (first|exact id|exact (fun h => nomatch h)|exact (fun _ => rfl)))))
 ·intro i hi
  have hi:i ≤ L.length:=hi
  have hw:=w64_succ (n:=i) (by omega)
  have hrl:(((L.take i).map cutS).map eCu).length = i:=by rw [List.length_map,List.length_map,List.length_take];omega
  by_cases hiL:i < L.length
  ·have i1:((i:Int) < (L.length:Int)) = True:=eq_true (by omega)
   have i2:((0:Int) ≤ (i:Int)) = True:=eq_true (by omega)
   obtain ⟨z,hz⟩:∃ z,z = L[i]:=⟨_,rfl⟩
   have hg:(L.map eSp)[i]? = some [.sl 1 (z.1.1.map eL),.sl 1 (z.1.2.map eL),.int z.2]:=by rw [map_get hiL,hz];rfl
   have htk:((L.take (i + 1)).map cutS).map eCu = ((L.take i).map cutS).map eCu ++ [eCu (cutS z)]:=by
    rw [hz,List.take_succ_eq_append_getElem hiL,List.map_append,List.map_append];rfl
   have hz1:=hone L[i] (List.getElem_mem _)
   have hz2:=(hgood L[i] (List.getElem_mem _)).2.2
   rw [← hz] at hz1 hz2
   have hha:=hz2.ha (by omega)
   have how:=AFn.val1 (a_l01Own2 z.1.1 (by have:=hha.1.1;omega) (fun b hb => by have:=sumLen_mem hb;have:=hha.1.2;omega))
   have q1:=big_le (n:=i + 1) (by omega)
   have q2:=big_mul (n:=i + 1) (c:=56) (by omega) (by omega)
   obtain ⟨⟨f,g⟩,n⟩:=z
   simp only at hg hz1 how hha
   simp only [eLL] at how
   match g,hz1 with
   | [],_ =>
    have j1:((([]:List (List Int)).length:Int) > 0) = False:=eq_false (by simp)
    repeat' (first|with_reducible (first|refine Q1 ?_|refine Q2 ?_|refine Q3 ?_|refine Q4 ?_|refine Q5 ?_|refine Q6 ?_|refine Q7 ?_|refine Q8 ?_|refine Q9 ?_|refine Qa ?_|refine Qb ?_|refine Qc ?_|refine Qd ?_|refine Qe ?_|refine Qf ?_)|((with_reducible refine Qo ?_ ?_);focus rfl)|((with_reducible first|refine QT 7 (l:=?_) ?_ ?_|refine QF 7 (l:=?_) ?_ ?_);rotate_left 1;focus (simp only [Zu,Nat.reduceSub,Nat.reduceBEq];with_reducible rfl))|((with_reducible first|refine QS (cfg_ok 49) (Tab.none.at' 134 how) (s':=?_) ?_ ?_|refine QC (b:=?_) ?_ ?_);rotate_left 1;focus ((with_reducible refine QW ?_);simp only [Zg,seval,if_true,if_false,reduceCtorEq,Nat.reduceEqDiff,i1,i2,j1,hg,hLm,hw,hrl,q1,q2,Int.toNat_natCast,List.length_map,List.length_nil];with_reducible rfl))|((with_reducible refine QD (cfg_ok 49) (Tab.none.at' 134 how) mixed_ok (tr:=?_) (s':=?_) ?_ ?_ ?_);rotate_left 2;(focus ((with_reducible refine QW ?_);simp only [Zg,Zd,seval,if_true,if_false,reduceCtorEq,Nat.reduceEqDiff,i1,i2,j1,hg,hLm,hw,hrl,q1,q2,Int.toNat_natCast,List.length_map,List.length_nil];with_reducible rfl));focus ((with_reducible refine QK ?_);simp only [Zk];kernel_rfl)))
    refine roundK.on (i + 1) ⟨hiL,by omega⟩ ?_
    rw [htk]
    (repeat' (first|with_reducible refine Qn|((with_reducible refine Qr ?_ ?_);focus (first|with_reducible rfl|(simp only [Zz,Nat.reduceBEq,eCu,cutS,e3,List.headD_nil,List.map_nil];done)|rfl))|((with_reducible refine Qj (o':=?_) ?_ ?_ ?_);rotate_left 1;focus rfl)|((with_reducible refine Qw ?_ ?_);(focus (first|with_reducible rfl|(simp only [Zv,eCu,cutS,e3,List.headD_nil,List.map_nil];done)));focus (first|exact id|exact (fun h => nomatch h)|exact (fun _ => rfl)))))
   | [tr],_ =>
    have j1:((([tr]:List (List Int)).length:Int) > 0) = True:=eq_true (by simp)
    have hot:=AFn.valT (a_l01Own tr (by have h6:sumLen [tr] ≤ 50:=hha.2.2;have h5:sumLen [tr] = tr.length + 0:=rfl;omega))
    simp only [eL] at hot
    repeat' (first|with_reducible (first|refine Q1 ?_|refine Q2 ?_|refine Q3 ?_|refine Q4 ?_|refine Q5 ?_|refine Q6 ?_|refine Q7 ?_|refine Q8 ?_|refine Q9 ?_|refine Qa ?_|refine Qb ?_|refine Qc ?_|refine Qd ?_|refine Qe ?_|refine Qf ?_)|((with_reducible refine Qo ?_ ?_);focus rfl)|((with_reducible first|refine QT 7 (l:=?_) ?_ ?_|refine QF 7 (l:=?_) ?_ ?_);rotate_left 1;focus (simp only [Zu,Nat.reduceSub,Nat.reduceBEq];with_reducible rfl))|((with_reducible first|refine QS (cfg_ok 49) ((Tab.none.at' 134 how).at' 155 hot) (s':=?_) ?_ ?_|refine QC (b:=?_) ?_ ?_);rotate_left 1;focus ((with_reducible refine QW ?_);simp only [Zg,seval,if_true,if_false,reduceCtorEq,Nat.reduceEqDiff,i1,i2,j1,hg,hLm,hw,hrl,q1,q2,Int.toNat_natCast,List.length_map,List.length_nil,eL];with_reducible rfl))|((with_reducible refine QD (cfg_ok 49) ((Tab.none.at' 134 how).at' 155 hot) mixed_ok (tr:=?_) (s':=?_) ?_ ?_ ?_);rotate_left 2;(focus ((with_reducible refine QW ?_);simp only [Zg,Zd,seval,if_true,if_false,reduceCtorEq,Nat.reduceEqDiff,i1,i2,j1,hg,hLm,hw,hrl,q1,q2,Int.toNat_natCast,List.length_map,List.length_nil,eL];with_reducible rfl));focus ((with_reducible refine QK ?_);simp only [Zk];kernel_rfl)))
    refine roundK.on (i + 1) ⟨hiL,by omega⟩ ?_
    rw [htk]
    (repeat' (first|with_reducible refine Qn|((with_reducible refine Qr ?_ ?_);focus (first|with_reducible rfl|(simp only [Zz,Nat.reduceBEq,eCu,cutS,e3,List.headD_cons,List.map_nil];done)|rfl))|((with_reducible refine Qj (o':=?_) ?_ ?_ ?_);rotate_left 1;focus rfl)|((with_reducible refine Qw ?_ ?_);(focus (first|with_reducible rfl|(simp only [Zv,eCu,cutS,e3,List.headD_cons,List.map_nil];done)));focus (first|exact id|exact (fun h => nomatch h)|exact (fun _ => rfl)))))
  ·have i1:((i:Int) < (L.length:Int)) = False:=eq_false (by omega)
   obtain rfl:i = L.length:=by omega
   repeat' (first|with_reducible (first|refine Q1 ?_|refine Q2 ?_|refine Q3 ?_|refine Q4 ?_|refine Q5 ?_|refine Q6 ?_|refine Q7 ?_|refine Q8 ?_|refine Q9 ?_|refine Qa ?_|refine Qb ?_|refine Qc ?_|refine Qd ?_|refine Qe ?_|refine Qf ?_)|((with_reducible refine Qo ?_ ?_);focus rfl)|((with_reducible first|refine QT 7 (l:=?_) ?_ ?_|refine QF 7 (l:=?_) ?_ ?_);rotate_left 1;focus (simp only [Zu,Nat.reduceSub,Nat.reduceBEq];with_reducible rfl))|((with_reducible first|refine QS (cfg_ok 49) Tab.none (s':=?_) ?_ ?_|refine QC (b:=?_) ?_ ?_);rotate_left 1;focus ((with_reducible refine QW ?_);simp only [Zg,seval,if_true,if_false,reduceCtorEq,Nat.reduceEqDiff,i1,hLm];with_reducible rfl))|((with_reducible refine QD (cfg_ok 49) Tab.none mixed_ok (tr:=?_) (s':=?_) ?_ ?_ ?_);rotate_left 2;(focus ((with_reducible refine QW ?_);simp only [Zg,Zd,seval,if_true,if_false,reduceCtorEq,Nat.reduceEqDiff,i1,hLm];with_reducible rfl));focus ((with_reducible refine QK ?_);simp only [Zk];kernel_rfl)))
   refine roundK.out () trivial ?_
   rw [List.take_length]
   (repeat' (first|with_reducible refine Qn|((with_reducible refine Qr ?_ ?_);focus (first|with_reducible rfl|(simp only [Zz,Nat.reduceBEq];done)|rfl))|((with_reducible refine Qj (o':=?_) ?_ ?_ ?_);rotate_left 1;focus rfl)|((with_reducible refine Qw ?_ ?_);(focus (first|with_reducible rfl|(simp only [Zv];done)));focus (first|exact id|exact (fun h => nomatch h)|exact (fun _ => rfl)))))
 ·rintro _ _
  repeat' (first|with_reducible (first|refine Q1 ?_|refine Q2 ?_|refine Q3 ?_|refine Q4 ?_|refine Q5 ?_|refine Q6 ?_|refine Q7 ?_|refine Q8 ?_|refine Q9 ?_|refine Qa ?_|refine Qb ?_|refine Qc ?_|refine Qd ?_|refine Qe ?_|refine Qf ?_)|((with_reducible refine Qo ?_ ?_);focus rfl)|((with_reducible first|refine QT 7 (l:=?_) ?_ ?_|refine QF 7 (l:=?_) ?_ ?_);rotate_left 1;focus (simp only [Zu,Nat.reduceSub,Nat.reduceBEq];with_reducible rfl))|((with_reducible first|refine QS (cfg_ok 49) Tab.none (s':=?_) ?_ ?_|refine QC (b:=?_) ?_ ?_);rotate_left 1;focus ((with_reducible refine QW ?_);simp only [Zg,seval,if_true,if_false,reduceCtorEq,Nat.reduceEqDiff];with_reducible rfl))|((with_reducible refine QD (cfg_ok 49) Tab.none mixed_ok (tr:=?_) (s':=?_) ?_ ?_ ?_);rotate_left 2;(focus ((with_reducible refine QW ?_);simp only [Zg,Zd,seval,if_true,if_false,reduceCtorEq,Nat.reduceEqDiff];with_reducible rfl));focus ((with_reducible refine QK ?_);simp only [Zk];kernel_rfl)))
  (refine Ends.mk (by simp) (rs:=?_) (ks:=?_) hres hrts ?_ ?_ ?_;rotate_left 2;(focus (simp only [Ze,Zg,seval,if_true,if_false,reduceCtorEq,Nat.reduceEqDiff];with_reducible rfl));(focus simp);focus (first|with_reducible rfl|(simp only [Zv];done)))
end Go.Proofs.YtfhmonacgmakbaaGreat
