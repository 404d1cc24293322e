/- Lemmas (14). -/
import Derived.Test.YtfhmonacgmakbaaGreatZD6
import Derived.Test.YtfhmonacgmakbaaGreatZD13
set_option linter.unusedSimpArgs false
set_option linter.unusedVariables false
namespace Go.Proofs.YtfhmonacgmakbaaGreat
open Go.RowKit
set_option maxRecDepth 20000 in
set_option maxHeartbeats 16000000 in
theorem a_l07Cuts:AFn Tryz.prog 59 [] (· = [.own 1 ([.sl 3 []] :: (T6.map cutsM).map eMs) false]):=by
 have hto:AFn Tryz.prog 49 [[.int 6]] (· = [.val (.sl 1 (T6.map eL))]):=AFn.val1 (a_l03All 6 (by decide))
 obtain ⟨T,hT⟩:∃ T,T = T6.map eL:=⟨_,rfl⟩
 have hTl:T.length = 37:=by rw [hT,List.length_map,T6_len]
 rw [← hT] at hto
 refine AFn.of_runs (cfg_ok 80) Tryz.func59 rfl rfl rfl (by simp only [List.length_cons,List.length_nil];decide) ?_
 have hres:Tryz.f59.results.toList = [.tmp 0]:=rfl
 have hrts:Tryz.f59.resultTypes.toList = [78]:=rfl
 simp only [argRegs,argAV1,eL,eI,eLL,eB,Nat.zero_add,Nat.reduceAdd]
 intro M
 refine RunK.of ?_
 repeat' (first|with_reducible (first|refine Q1 ?_|refine Q2 ?_|refine Q3 ?_|refine Q4 ?_|refine Q5 ?_|refine Q6 ?_|refine Q7 ?_|refine Q8 ?_|refine Q9 ?_|refine Qa ?_|refine Qb ?_|refine Qc ?_|refine Qd ?_|refine Qe ?_|refine Qf ?_)|((with_reducible refine Qo ?_ ?_);focus rfl)|((with_reducible first|refine QT 9 (l:=?_) ?_ ?_|refine QF 9 (l:=?_) ?_ ?_);rotate_left 1;focus (simp only [Zu,Nat.reduceSub,Nat.reduceBEq];with_reducible rfl))|((with_reducible first|refine QS (cfg_ok 80) (Tab.none.at' 49 hto) (s':=?_) ?_ ?_|refine QC (b:=?_) ?_ ?_);rotate_left 1;focus ((with_reducible refine QW ?_);simp only [Zg,seval,if_true,if_false,reduceCtorEq,Nat.reduceEqDiff,hTl];with_reducible rfl))|((with_reducible refine QD (cfg_ok 80) (Tab.none.at' 49 hto) mixed_ok (tr:=?_) (s':=?_) ?_ ?_ ?_);rotate_left 2;(focus ((with_reducible refine QW ?_);simp only [Zg,Zd,seval,if_true,if_false,reduceCtorEq,Nat.reduceEqDiff,hTl];with_reducible rfl));focus ((with_reducible refine QK ?_);simp only [Zk];kernel_rfl)))
 refine RunK.frz 10 ?_
 refine RunK.fits (s0:=⟨[(1,.c (.val (.sl 1 T))),(2,.c (.own 2 1)),(3,.c (.val (.int 0)))],[(2,.lit 1 [[.val (.sl 3 [])]])]⟩) ?_ ?_
 ·(repeat' (first|with_reducible refine Qn|((with_reducible refine Qr ?_ ?_);focus (first|with_reducible rfl|(simp only [Zz,Nat.reduceBEq,St.frz,frzR,frzH,look,AV.frz,AC.frz,Obj.frz,drop];done)|rfl))|((with_reducible refine Qj (o':=?_) ?_ ?_ ?_);rotate_left 1;focus rfl)|((with_reducible refine Qw ?_ ?_);(focus (first|with_reducible rfl|(simp only [Zv,St.frz,frzR,frzH,look,AV.frz,AC.frz,Obj.frz,drop];done)));focus (first|exact id|exact (fun h => nomatch h)|exact (fun _ => rfl)))))
  all_goals first|exact ⟨rfl,rfl⟩|exact ⟨rfl,rfl,id⟩
 refine RunK.litRow 2 [.sl 3 []] rfl ?_
 refine RunK.loop (β:=Nat) (γ:=Unit) (fun i => ⟨[(1,.c (.val (.sl 1 T))),(2,.c (.own 2 (i + 1))),(3,.c (.val (.int i)))],[(2,.row 1 ([.sl 3 []] :: ((T6.take i).map cutsM).map eMs) false)]⟩) (fun i => i ≤ 37) (fun i => 37 - i)
  (fun _ => ⟨[(2,.c (.own 2 38))],[(2,.row 1 ([.sl 3 []] :: (T6.map cutsM).map eMs) false)]⟩) (fun _ => True) 0 (Nat.zero_le _) ?_ ?_ ?_
 ·(repeat' (first|with_reducible refine Qn|((with_reducible refine Qr ?_ ?_);focus (first|with_reducible rfl|(simp only [Zz,Nat.reduceBEq,List.take_zero,List.map_nil,Int.natCast_zero];done)|rfl))|((with_reducible refine Qj (o':=?_) ?_ ?_ ?_);rotate_left 1;focus rfl)|((with_reducible refine Qw ?_ ?_);(focus (first|with_reducible rfl|(simp only [Zv,List.take_zero,List.map_nil,Int.natCast_zero];done)));focus (first|exact id|exact (fun h => nomatch h)|exact (fun _ => rfl)))))
 ·intro i hi
  have hi:i ≤ 37:=hi
  have hw:=w64_succ (n:=i) (by omega)
  by_cases hi37:i < 37
  ·have i1:((i:Int) < 37) = True:=eq_true (by omega)
   have i2:((0:Int) ≤ (i:Int)) = True:=eq_true (by omega)
   have hiT:i < T6.length:=by rw [T6_len];exact hi37
   obtain ⟨t,ht⟩:∃ t,t = T6[i]:=⟨_,rfl⟩
   have htm:t ∈ T6:=by rw [ht];exact List.getElem_mem _
   have hg:T[i]? = some [.sl 1 (t.map eI)]:=by rw [hT,map_get hiT,ht];rfl
   have htk:[D.sl 3 []] :: ((T6.take (i + 1)).map cutsM).map eMs = ([D.sl 3 []] :: ((T6.take i).map cutsM).map eMs) ++ [[.sl 3 ((cutsM t).map eM)]]:=by
    rw [ht,List.take_succ_eq_append_getElem hiT,List.map_append,List.map_append];rfl
   obtain ⟨R,hR⟩:∃ R,R = [D.sl 3 []] :: ((T6.take i).map cutsM).map eMs:=⟨_,rfl⟩
   have hRl:R.length = i + 1:=by rw [hR,List.length_cons,List.length_map,List.length_map,List.length_take];omega
   rw [← hR] at htk ⊢
   obtain ⟨hct,hcl⟩:=T6_ok t htm
   obtain ⟨hlev,hcan⟩:=canT_lev hct
   have hcu:AFn Tryz.prog 110 [[.sl 1 (t.map eI)]] (· = [.val (.sl 3 ((cutsL t).map eCu))]):=AFn.val1 (a_l05Cuts t hlev hcan (by omega))
   obtain ⟨hLn,hLok⟩:=cuts6 htm
   obtain ⟨L,hL⟩:∃ L,L = cutsL t:=⟨_,rfl⟩
   have hcm:cutsM t = L.map mcut:=by rw [hL];rfl
   rw [hcm] at htk
   rw [← hL] at hcu hLn hLok
   have hLm:(L.map eCu).length = L.length:=List.length_map _
   repeat' (first|with_reducible (first|refine Q1 ?_|refine Q2 ?_|refine Q3 ?_|refine Q4 ?_|refine Q5 ?_|refine Q6 ?_|refine Q7 ?_|refine Q8 ?_|refine Q9 ?_|refine Qa ?_|refine Qb ?_|refine Qc ?_|refine Qd ?_|refine Qe ?_|refine Qf ?_)|((with_reducible refine Qo ?_ ?_);focus rfl)|((with_reducible first|refine QT 9 (l:=?_) ?_ ?_|refine QF 9 (l:=?_) ?_ ?_);rotate_left 1;focus (simp only [Zu,Nat.reduceSub,Nat.reduceBEq];with_reducible rfl))|((with_reducible first|refine QS (cfg_ok 80) (Tab.none.at' 110 hcu) (s':=?_) ?_ ?_|refine QC (b:=?_) ?_ ?_);rotate_left 1;focus ((with_reducible refine QW ?_);simp only [Zg,seval,if_true,if_false,reduceCtorEq,Nat.reduceEqDiff,i1,i2,hg,hTl,Int.toNat_natCast];with_reducible rfl))|((with_reducible refine QD (cfg_ok 80) (Tab.none.at' 110 hcu) mixed_ok (tr:=?_) (s':=?_) ?_ ?_ ?_);rotate_left 2;(focus ((with_reducible refine QW ?_);simp only [Zg,Zd,seval,if_true,if_false,reduceCtorEq,Nat.reduceEqDiff,i1,i2,hg,hTl,Int.toNat_natCast];with_reducible rfl));focus ((with_reducible refine QK ?_);simp only [Zk];kernel_rfl)))
   refine RunK.loop (β:=Nat) (γ:=Unit) (fun j => ⟨[(1,.c (.val (.sl 1 T))),(2,.c (.own 2 (i + 1))),(3,.c (.val (.int i))),(4,.c (.val (.sl 3 (L.map eCu)))),(5,.c (.own 5 j)),(6,.c (.val (.int j)))],[(2,.row 1 R false),(5,.row 3 (((L.take j).map mcut).map eM) false)]⟩) (fun j => j ≤ L.length) (fun j => L.length - j)
    (fun _ => ⟨[(1,.c (.val (.sl 1 T))),(2,.c (.own 2 (i + 1))),(3,.c (.val (.int i))),(5,.c (.own 5 L.length))],[(2,.row 1 R false),(5,.row 3 ((L.map mcut).map eM) false)]⟩) (fun _ => True) 0 (Nat.zero_le _) ?_ ?_ ?_
   ·(repeat' (first|with_reducible refine Qn|((with_reducible refine Qr ?_ ?_);focus (first|with_reducible rfl|(simp only [Zz,Nat.reduceBEq,List.take_zero,List.map_nil,Int.natCast_zero];done)|rfl))|((with_reducible refine Qj (o':=?_) ?_ ?_ ?_);rotate_left 1;focus rfl)|((with_reducible refine Qw ?_ ?_);(focus (first|with_reducible rfl|(simp only [Zv,List.take_zero,List.map_nil,Int.natCast_zero];done)));focus (first|exact id|exact (fun h => nomatch h)|exact (fun _ => rfl)))))
   ·intro j hj
    have hj:j ≤ L.length:=hj
    have hwj:=w64_succ (n:=j) (by omega)
    by_cases hjL:j < L.length
    ·have j1:((j:Int) < (L.length:Int)) = True:=eq_true (by omega)
     have j2:((0:Int) ≤ (j:Int)) = True:=eq_true (by omega)
     obtain ⟨x,hx⟩:∃ x,x = L[j]:=⟨_,rfl⟩
     have hxg:(L.map eCu)[j]? = some [.sl 1 (x.1.1.map eL),.sl 1 (x.1.2.map eI),.int x.2]:=by rw [map_get hjL,hx];rfl
     obtain ⟨hx1,hx2,hx3,hx4⟩:=hLok L[j] (List.getElem_mem _)
     rw [← hx] at hx1 hx2 hx3 hx4
     have hxk:((L.take (j + 1)).map mcut).map eM = ((L.take j).map mcut).map eM ++ [eM (mcut x)]:=by
      rw [hx,List.take_succ_eq_append_getElem hjL,List.map_append,List.map_append];rfl
     have hrl:(((L.take j).map mcut).map eM).length = j:=by rw [List.length_map,List.length_map,List.length_take];omega
     obtain ⟨⟨cr,tr⟩,n⟩:=x
     simp only at hxg hx1 hx2 hx3 hx4
     have q1:=big_le (n:=j + 1) (by omega)
     have q2:=big_mul (n:=j + 1) (c:=40) (by omega) (by omega)
     have hmod:=a_l01Mod n
     rw [mP_small (by omega) (by omega)] at hmod
     simp only [eI] at hmod
     obtain ⟨z,hfz,hwz,hmz⟩:∃ z:Int,AFn Tryz.prog 50 [[.sl 1 T],[.sl 1 (tr.map eI)]] (· = [.val (.int z)])∧w64 (z + 1) = (mcut ((cr,tr),n)).2.2∧True:=by
      by_cases htr:tr = []
      ·subst htr
       refine ⟨-1,?_,rfl,trivial⟩
       have:=a_l03FindNo T6 [] (by rw [T6_len];omega) (fun k hk e => by
        have:=(canT_lev (T6_ok _ (List.getElem_mem hk)).1).1.pos
        rw [e] at this
        simp at this)
       simp only [eLL,eL] at this
       rw [← hT] at this
       exact this
      ·obtain ⟨d1,d2⟩:=hx4.resolve_left htr
       have hpb:=plc_lt d1 d2
       refine ⟨posT tr,?_,?_,trivial⟩
       ·have:=a_l03FindT tr d1 d2
        simp only [eLL,eL] at this
        rw [← hT] at this
        exact this
       ·unfold mcut
        simp only [if_neg htr]
        exact w64_eq (by unfold plc at hpb;omega)
     obtain ⟨tk,htke⟩:∃ tk,tk = (mcut ((cr,tr),n)).2.2:=⟨_,rfl⟩
     have hmc:eM (mcut ((cr,tr),n)) = [.int n,.sl 1 ((cr.map plc).map eI),.int tk]:=by rw [htke];rfl
     rw [← htke] at hwz
     rw [hmc] at hxk
     ((repeat' (first|with_reducible (first|refine Q1 ?_|refine Q2 ?_|refine Q3 ?_|refine Q4 ?_|refine Q5 ?_|refine Q6 ?_|refine Q7 ?_|refine Q8 ?_|refine Q9 ?_|refine Qa ?_|refine Qb ?_|refine Qc ?_|refine Qd ?_|refine Qe ?_|refine Qf ?_)|((with_reducible refine Qo ?_ ?_);focus rfl)|((with_reducible first|refine QT 9 (l:=?_) ?_ ?_|refine QF 9 (l:=?_) ?_ ?_);rotate_left 1;focus (simp only [Zu,Nat.reduceSub,Nat.reduceBEq];with_reducible rfl))|((with_reducible refine QC (b:=?_) ?_ ?_);rotate_left 1;focus ((with_reducible refine QW ?_);simp only [Zg,seval,if_true,if_false,reduceCtorEq,Nat.reduceEqDiff,j1,hLm];with_reducible rfl))));((with_reducible refine QS (cfg_ok 80) Tab.none (s':=?_) ?_ ?_);rotate_left 1;focus ((with_reducible refine QW ?_);simp only [Zg,seval,if_true,if_false,reduceCtorEq,Nat.reduceEqDiff,j1,hLm];with_reducible rfl));(repeat' (first|with_reducible (first|refine Q1 ?_|refine Q2 ?_|refine Q3 ?_|refine Q4 ?_|refine Q5 ?_|refine Q6 ?_|refine Q7 ?_|refine Q8 ?_|refine Q9 ?_|refine Qa ?_|refine Qb ?_|refine Qc ?_|refine Qd ?_|refine Qe ?_|refine Qf ?_)|((with_reducible refine Qo ?_ ?_);focus rfl)|((with_reducible first|refine QT 9 (l:=?_) ?_ ?_|refine QF 9 (l:=?_) ?_ ?_);rotate_left 1;focus (simp only [Zu,Nat.reduceSub,Nat.reduceBEq];with_reducible rfl))|((with_reducible refine QC (b:=?_) ?_ ?_);rotate_left 1;focus ((with_reducible refine QW ?_);simp only [Zg,seval,if_true,if_false,reduceCtorEq,Nat.reduceEqDiff,j1,hLm];with_reducible rfl)))))
     ((repeat' (first|with_reducible (first|refine Q1 ?_|refine Q2 ?_|refine Q3 ?_|refine Q4 ?_|refine Q5 ?_|refine Q6 ?_|refine Q7 ?_|refine Q8 ?_|refine Q9 ?_|refine Qa ?_|refine Qb ?_|refine Qc ?_|refine Qd ?_|refine Qe ?_|refine Qf ?_)|((with_reducible refine Qo ?_ ?_);focus rfl)|((with_reducible first|refine QT 9 (l:=?_) ?_ ?_|refine QF 9 (l:=?_) ?_ ?_);rotate_left 1;focus (simp only [Zu,Nat.reduceSub,Nat.reduceBEq];with_reducible rfl))|((with_reducible refine QC (b:=?_) ?_ ?_);rotate_left 1;focus ((with_reducible refine QW ?_);simp only [Zg,seval,if_true,if_false,reduceCtorEq,Nat.reduceEqDiff,j1,j2,hxg,hLm,hwz,Int.toNat_natCast];with_reducible rfl))));(with_reducible refine RunK.wFl (cfg_ok 80) ((Tab.none.at' 104 hmod).at' 50 hfz) mixed_ok [] [] (tr:=?_) (s1:=?_) (rest:=?_) ?_ ?_ ?_);rotate_left 3;(focus ((with_reducible refine QW ?_);simp only [Zg,Zd,seval,if_true,if_false,reduceCtorEq,Nat.reduceEqDiff,drunL,devalL,devalA,acellsA,aloadA,rowA,drunF,devalF,devalB,dregF_mk,List.contains_cons,List.contains_nil,j1,j2,hxg,hLm,hwz,Int.toNat_natCast];with_reducible rfl));focus ((with_reducible refine QK ?_);simp only [Zk];kernel_rfl))
     refine ROps.nilOwn 44 5007 (k:=1) (pre:=[.val (.int n)]) (post:=[.val (.int tk)]) rfl (by decide) rfl ?_
     refine ROps.storeA (cfg_ok 80) (key:=7) (j:=0) rfl rfl rfl rfl rfl rfl (cs:=[.val (.int n),.own 5007 0,.val (.int tk)]) rfl rfl rfl (r:=[.val (.int 0),.val (.sl 1 []),.val (.int 0)]) rfl (Nat.le_of_ble_eq_true rfl) ?_
     refine ROps.nil ?_
     have hcm':(cr.map eL).length = cr.length:=List.length_map _
     repeat' (first|with_reducible (first|refine Q1 ?_|refine Q2 ?_|refine Q3 ?_|refine Q4 ?_|refine Q5 ?_|refine Q6 ?_|refine Q7 ?_|refine Q8 ?_|refine Q9 ?_|refine Qa ?_|refine Qb ?_|refine Qc ?_|refine Qd ?_|refine Qe ?_|refine Qf ?_)|((with_reducible refine Qo ?_ ?_);focus rfl)|((with_reducible first|refine QT 9 (l:=?_) ?_ ?_|refine QF 9 (l:=?_) ?_ ?_);rotate_left 1;focus (simp only [Zu,Nat.reduceSub,Nat.reduceBEq];with_reducible rfl))|((with_reducible first|refine QS (cfg_ok 80) Tab.none (s':=?_) ?_ ?_|refine QC (b:=?_) ?_ ?_);rotate_left 1;focus ((with_reducible refine QW ?_);simp only [Zg,seval,if_true,if_false,reduceCtorEq,Nat.reduceEqDiff,hcm'];with_reducible rfl))|((with_reducible refine QD (cfg_ok 80) Tab.none mixed_ok (tr:=?_) (s':=?_) ?_ ?_ ?_);rotate_left 2;(focus ((with_reducible refine QW ?_);simp only [Zg,Zd,seval,if_true,if_false,reduceCtorEq,Nat.reduceEqDiff,hcm'];with_reducible rfl));focus ((with_reducible refine QK ?_);simp only [Zk];kernel_rfl)))
     refine RunK.loop (β:=Nat) (γ:=Unit) (fun q => ⟨[(1,.c (.val (.sl 1 T))),(2,.c (.own 2 (i + 1))),(3,.c (.val (.int i))),(4,.c (.val (.sl 3 (L.map eCu)))),(5,.c (.own 5 j)),(6,.c (.val (.int j))),(7,.optr 7 0 0),(8,.c (.val (.int q)))],[(2,.row 1 R false),(5,.row 3 (((L.take j).map mcut).map eM) false),(7,.lit 3 [[.val (.int n),.own 5007 q,.val (.int tk)]]),(5007,.row 1 (((cr.take q).map plc).map eI) false)]⟩) (fun q => q ≤ cr.length) (fun q => cr.length - q)
      (fun _ => ⟨[(1,.c (.val (.sl 1 T))),(2,.c (.own 2 (i + 1))),(3,.c (.val (.int i))),(4,.c (.val (.sl 3 (L.map eCu)))),(5,.c (.own 5 j)),(6,.c (.val (.int j))),(7,.optr 7 0 0)],[(2,.row 1 R false),(5,.row 3 (((L.take j).map mcut).map eM) false),(7,.lit 3 [[.val (.int n),.own 5007 cr.length,.val (.int tk)]]),(5007,.row 1 ((cr.map plc).map eI) false)]⟩) (fun _ => True) 0 (Nat.zero_le _) ?_ ?_ ?_
     ·(repeat' (first|with_reducible refine Qn|((with_reducible refine Qr ?_ ?_);focus (first|with_reducible rfl|(simp only [Zz,Nat.reduceBEq,List.take_zero,List.map_nil,Int.natCast_zero];done)|rfl))|((with_reducible refine Qj (o':=?_) ?_ ?_ ?_);rotate_left 1;focus rfl)|((with_reducible refine Qw ?_ ?_);(focus (first|with_reducible rfl|(simp only [Zv,List.take_zero,List.map_nil,Int.natCast_zero];done)));focus (first|exact id|exact (fun h => nomatch h)|exact (fun _ => rfl)))))
      all_goals exact ⟨rfl,rfl⟩
     ·intro q hq
      have hq:q ≤ cr.length:=hq
      have hwq:=w64_succ (n:=q) (by omega)
      by_cases hqc:q < cr.length
      ·have k1:((q:Int) < (cr.length:Int)) = True:=eq_true (by omega)
       have k2:((0:Int) ≤ (q:Int)) = True:=eq_true (by omega)
       obtain ⟨c,hc⟩:∃ c,c = cr[q]:=⟨_,rfl⟩
       have hcg:(cr.map eL)[q]? = some [.sl 1 (c.map eI)]:=by rw [map_get hqc,hc];rfl
       have hck:((cr.take (q + 1)).map plc).map eI = ((cr.take q).map plc).map eI ++ [[.int (plc c)]]:=by
        rw [hc,List.take_succ_eq_append_getElem hqc,List.map_append,List.map_append];rfl
       obtain ⟨C,hC⟩:∃ C,C = ((cr.take q).map plc).map eI:=⟨_,rfl⟩
       have hCl:C.length = q:=by rw [hC,List.length_map,List.length_map,List.length_take];omega
       obtain ⟨c1,c2⟩:=hx2 cr[q] (List.getElem_mem _)
       rw [← hc] at c1 c2
       have hfd:=a_l03FindT c c1 c2
       simp only [eLL,eL] at hfd
       rw [← hT] at hfd
       have hpb:=plc_lt c1 c2
       have hwp:w64 ((posT c:Int) + 1) = plc c:=w64_eq (by unfold plc at hpb;omega)
       rw [← hC] at hck ⊢
       have r1:=big_le (n:=q + 1) (by omega)
       have r2:=big_mul (n:=q + 1) (c:=8) (by omega) (by omega)
       have r3:(q ≤ 140737488355327) = True:=eq_true (by omega)
       ((repeat' (first|with_reducible (first|refine Q1 ?_|refine Q2 ?_|refine Q3 ?_|refine Q4 ?_|refine Q5 ?_|refine Q6 ?_|refine Q7 ?_|refine Q8 ?_|refine Q9 ?_|refine Qa ?_|refine Qb ?_|refine Qc ?_|refine Qd ?_|refine Qe ?_|refine Qf ?_)|((with_reducible refine Qo ?_ ?_);focus rfl)|((with_reducible first|refine QT 9 (l:=?_) ?_ ?_|refine QF 9 (l:=?_) ?_ ?_);rotate_left 1;focus (simp only [Zu,Nat.reduceSub,Nat.reduceBEq];with_reducible rfl))|((with_reducible refine QC (b:=?_) ?_ ?_);rotate_left 1;focus ((with_reducible refine QW ?_);simp only [Zg,seval,if_true,if_false,reduceCtorEq,Nat.reduceEqDiff,j1,j2,k1,hxg,hLm,hcm',Int.toNat_natCast];with_reducible rfl))));((with_reducible refine QS (cfg_ok 80) Tab.none (s':=?_) ?_ ?_);rotate_left 1;focus ((with_reducible refine QW ?_);simp only [Zg,seval,if_true,if_false,reduceCtorEq,Nat.reduceEqDiff,j1,j2,k1,hxg,hLm,hcm',Int.toNat_natCast];with_reducible rfl));(repeat' (first|with_reducible (first|refine Q1 ?_|refine Q2 ?_|refine Q3 ?_|refine Q4 ?_|refine Q5 ?_|refine Q6 ?_|refine Q7 ?_|refine Q8 ?_|refine Q9 ?_|refine Qa ?_|refine Qb ?_|refine Qc ?_|refine Qd ?_|refine Qe ?_|refine Qf ?_)|((with_reducible refine Qo ?_ ?_);focus rfl)|((with_reducible first|refine QT 9 (l:=?_) ?_ ?_|refine QF 9 (l:=?_) ?_ ?_);rotate_left 1;focus (simp only [Zu,Nat.reduceSub,Nat.reduceBEq];with_reducible rfl))|((with_reducible refine QC (b:=?_) ?_ ?_);rotate_left 1;focus ((with_reducible refine QW ?_);simp only [Zg,seval,if_true,if_false,reduceCtorEq,Nat.reduceEqDiff,j1,j2,k1,hxg,hLm,hcm',Int.toNat_natCast];with_reducible rfl)))))
       ((repeat' (first|with_reducible (first|refine Q1 ?_|refine Q2 ?_|refine Q3 ?_|refine Q4 ?_|refine Q5 ?_|refine Q6 ?_|refine Q7 ?_|refine Q8 ?_|refine Q9 ?_|refine Qa ?_|refine Qb ?_|refine Qc ?_|refine Qd ?_|refine Qe ?_|refine Qf ?_)|((with_reducible refine Qo ?_ ?_);focus rfl)|((with_reducible first|refine QT 9 (l:=?_) ?_ ?_|refine QF 9 (l:=?_) ?_ ?_);rotate_left 1;focus (simp only [Zu,Nat.reduceSub,Nat.reduceBEq];with_reducible rfl))|((with_reducible refine QC (b:=?_) ?_ ?_);rotate_left 1;focus ((with_reducible refine QW ?_);simp only [Zg,seval,if_true,if_false,reduceCtorEq,Nat.reduceEqDiff,j1,j2,k1,k2,hxg,hcg,hLm,hcm',hwp,Int.toNat_natCast];with_reducible rfl))));(with_reducible refine RunK.wFl (cfg_ok 80) (Tab.none.at' 50 hfd) mixed_ok [68] [56] (tr:=?_) (s1:=?_) (rest:=?_) ?_ ?_ ?_);rotate_left 3;(focus ((with_reducible refine QW ?_);simp only [Zg,Zd,seval,if_true,if_false,reduceCtorEq,Nat.reduceEqDiff,drunL,devalL,devalA,acellsA,aloadA,rowA,drunF,devalF,devalB,dregF_mk,List.contains_cons,List.contains_nil,j1,j2,k1,k2,hxg,hcg,hLm,hcm',hwp,Int.toNat_natCast];with_reducible rfl));focus ((with_reducible refine QK ?_);simp only [Zk];kernel_rfl))
       refine ROps.killL 7 5007 (k:=3) (r:=[.val (.int n),.own 5007 q,.val (.int tk)]) rfl ?_
       ((with_reducible refine ROps.cut (cfg_ok 80) Tab.none 1 (s1:=?_) ?_ ?_);rotate_left 1;(focus ((with_reducible refine QW ?_);simp only [Zg,seval,if_true,if_false,reduceCtorEq,Nat.reduceEqDiff,hCl,r1,r2,r3,List.map_cons,List.map_nil,AC.kill];with_reducible rfl));simp only [List.drop_succ_cons,List.drop_zero])
       refine ROps.renR 69 5007 (by decide) rfl rfl rfl ?_
       ((with_reducible refine ROps.cut (cfg_ok 80) Tab.none 1 (s1:=?_) ?_ ?_);rotate_left 1;(focus ((with_reducible refine QW ?_);simp only [Zg,seval,if_true,if_false,reduceCtorEq,Nat.reduceEqDiff];with_reducible rfl));simp only [List.drop_succ_cons,List.drop_zero])
       refine ROps.storeA (cfg_ok 80) (key:=7) (j:=1) rfl rfl rfl rfl rfl rfl (cs:=[.own 5007 (q + 1)]) rfl rfl rfl (r:=[.val (.int n),.junk,.val (.int tk)]) rfl (Nat.le_of_ble_eq_true rfl) ?_
       refine ROps.nil ?_
       repeat' (first|with_reducible (first|refine Q1 ?_|refine Q2 ?_|refine Q3 ?_|refine Q4 ?_|refine Q5 ?_|refine Q6 ?_|refine Q7 ?_|refine Q8 ?_|refine Q9 ?_|refine Qa ?_|refine Qb ?_|refine Qc ?_|refine Qd ?_|refine Qe ?_|refine Qf ?_)|((with_reducible refine Qo ?_ ?_);focus rfl)|((with_reducible first|refine QT 9 (l:=?_) ?_ ?_|refine QF 9 (l:=?_) ?_ ?_);rotate_left 1;focus (simp only [Zu,Nat.reduceSub,Nat.reduceBEq];with_reducible rfl))|((with_reducible first|refine QS (cfg_ok 80) Tab.none (s':=?_) ?_ ?_|refine QC (b:=?_) ?_ ?_);rotate_left 1;focus ((with_reducible refine QW ?_);simp only [Zg,seval,if_true,if_false,reduceCtorEq,Nat.reduceEqDiff,hwq];with_reducible rfl))|((with_reducible refine QD (cfg_ok 80) Tab.none mixed_ok (tr:=?_) (s':=?_) ?_ ?_ ?_);rotate_left 2;(focus ((with_reducible refine QW ?_);simp only [Zg,Zd,seval,if_true,if_false,reduceCtorEq,Nat.reduceEqDiff,hwq];with_reducible rfl));focus ((with_reducible refine QK ?_);simp only [Zk];kernel_rfl)))
       refine roundK.on (q + 1) ⟨hqc,by omega⟩ ?_
       rw [hck]
       (repeat' (first|with_reducible refine Qn|((with_reducible refine Qr ?_ ?_);focus (first|with_reducible rfl|(simp only [Zz,Nat.reduceBEq];done)|rfl))|((with_reducible refine Qj (o':=?_) ?_ ?_ ?_);rotate_left 1;focus rfl)|((with_reducible refine Qw ?_ ?_);(focus (first|with_reducible rfl|(simp only [Zv];done)));focus (first|exact id|exact (fun h => nomatch h)|exact (fun _ => rfl)))))
       all_goals exact ⟨rfl,rfl⟩
      ·have k1:((q:Int) < (cr.length:Int)) = False:=eq_false (by omega)
       obtain rfl:q = cr.length:=by omega
       repeat' (first|with_reducible (first|refine Q1 ?_|refine Q2 ?_|refine Q3 ?_|refine Q4 ?_|refine Q5 ?_|refine Q6 ?_|refine Q7 ?_|refine Q8 ?_|refine Q9 ?_|refine Qa ?_|refine Qb ?_|refine Qc ?_|refine Qd ?_|refine Qe ?_|refine Qf ?_)|((with_reducible refine Qo ?_ ?_);focus rfl)|((with_reducible first|refine QT 9 (l:=?_) ?_ ?_|refine QF 9 (l:=?_) ?_ ?_);rotate_left 1;focus (simp only [Zu,Nat.reduceSub,Nat.reduceBEq];with_reducible rfl))|((with_reducible first|refine QS (cfg_ok 80) Tab.none (s':=?_) ?_ ?_|refine QC (b:=?_) ?_ ?_);rotate_left 1;focus ((with_reducible refine QW ?_);simp only [Zg,seval,if_true,if_false,reduceCtorEq,Nat.reduceEqDiff,j1,j2,k1,hxg,hLm,hcm',Int.toNat_natCast];with_reducible rfl))|((with_reducible refine QD (cfg_ok 80) Tab.none mixed_ok (tr:=?_) (s':=?_) ?_ ?_ ?_);rotate_left 2;(focus ((with_reducible refine QW ?_);simp only [Zg,Zd,seval,if_true,if_false,reduceCtorEq,Nat.reduceEqDiff,j1,j2,k1,hxg,hLm,hcm',Int.toNat_natCast];with_reducible rfl));focus ((with_reducible refine QK ?_);simp only [Zk];kernel_rfl)))
       refine roundK.out () trivial ?_
       rw [List.take_length]
       (repeat' (first|with_reducible refine Qn|((with_reducible refine Qr ?_ ?_);focus (first|with_reducible rfl|(simp only [Zz,Nat.reduceBEq];done)|rfl))|((with_reducible refine Qj (o':=?_) ?_ ?_ ?_);rotate_left 1;focus rfl)|((with_reducible refine Qw ?_ ?_);(focus (first|with_reducible rfl|(simp only [Zv];done)));focus (first|exact id|exact (fun h => nomatch h)|exact (fun _ => rfl)))))
       all_goals exact ⟨rfl,rfl⟩
     ·rintro _ _
      refine RunK.frz 5007 ?_
      refine RunK.fits (s0:=⟨[(1,.c (.val (.sl 1 T))),(2,.c (.own 2 (i + 1))),(3,.c (.val (.int i))),(4,.c (.val (.sl 3 (L.map eCu)))),(5,.c (.own 5 j)),(6,.c (.val (.int j))),(7,.optr 7 0 0)],[(2,.row 1 R false),(5,.row 3 (((L.take j).map mcut).map eM) false),(7,.lit 3 [[.val (.int n),.val (.sl 1 ((cr.map plc).map eI)),.val (.int tk)]])]⟩) ?_ ?_
      ·(repeat' (first|with_reducible refine Qn|((with_reducible refine Qr ?_ ?_);focus (first|with_reducible rfl|(simp only [Zz,Nat.reduceBEq,St.frz,frzR,frzH,look,AV.frz,AC.frz,Obj.frz,drop];done)|rfl))|((with_reducible refine Qj (o':=?_) ?_ ?_ ?_);rotate_left 1;focus rfl)|((with_reducible refine Qw ?_ ?_);(focus (first|with_reducible rfl|(simp only [Zv,St.frz,frzR,frzH,look,AV.frz,AC.frz,Obj.frz,drop];done)));focus (first|exact id|exact (fun h => nomatch h)|exact (fun _ => rfl)))))
       all_goals first|exact ⟨rfl,rfl⟩|exact ⟨rfl,rfl,id⟩
      refine RunK.litRow 7 [.int n,.sl 1 ((cr.map plc).map eI),.int tk] rfl ?_
      repeat' (first|with_reducible (first|refine Q1 ?_|refine Q2 ?_|refine Q3 ?_|refine Q4 ?_|refine Q5 ?_|refine Q6 ?_|refine Q7 ?_|refine Q8 ?_|refine Q9 ?_|refine Qa ?_|refine Qb ?_|refine Qc ?_|refine Qd ?_|refine Qe ?_|refine Qf ?_)|((with_reducible refine Qo ?_ ?_);focus rfl)|((with_reducible first|refine QT 9 (l:=?_) ?_ ?_|refine QF 9 (l:=?_) ?_ ?_);rotate_left 1;focus (simp only [Zu,Nat.reduceSub,Nat.reduceBEq];with_reducible rfl))|((with_reducible first|refine QS (cfg_ok 80) Tab.none (s':=?_) ?_ ?_|refine QC (b:=?_) ?_ ?_);rotate_left 1;focus ((with_reducible refine QW ?_);simp only [Zg,seval,if_true,if_false,reduceCtorEq,Nat.reduceEqDiff,hrl,hwj,q1,q2,List.length_map];with_reducible rfl))|((with_reducible refine QD (cfg_ok 80) Tab.none mixed_ok (tr:=?_) (s':=?_) ?_ ?_ ?_);rotate_left 2;(focus ((with_reducible refine QW ?_);simp only [Zg,Zd,seval,if_true,if_false,reduceCtorEq,Nat.reduceEqDiff,hrl,hwj,q1,q2,List.length_map];with_reducible rfl));focus ((with_reducible refine QK ?_);simp only [Zk];kernel_rfl)))
      refine roundK.on (j + 1) ⟨hjL,by omega⟩ ?_
      rw [hxk]
      (repeat' (first|with_reducible refine Qn|((with_reducible refine Qr ?_ ?_);focus (first|with_reducible rfl|(simp only [Zz,Nat.reduceBEq];done)|rfl))|((with_reducible refine Qj (o':=?_) ?_ ?_ ?_);rotate_left 1;focus rfl)|((with_reducible refine Qw ?_ ?_);(focus (first|with_reducible rfl|(simp only [Zv];done)));focus (first|exact id|exact (fun h => nomatch h)|exact (fun _ => rfl)))))
      all_goals exact ⟨rfl,rfl⟩
    ·have j1:((j:Int) < (L.length:Int)) = False:=eq_false (by omega)
     obtain rfl:j = L.length:=by omega
     repeat' (first|with_reducible (first|refine Q1 ?_|refine Q2 ?_|refine Q3 ?_|refine Q4 ?_|refine Q5 ?_|refine Q6 ?_|refine Q7 ?_|refine Q8 ?_|refine Q9 ?_|refine Qa ?_|refine Qb ?_|refine Qc ?_|refine Qd ?_|refine Qe ?_|refine Qf ?_)|((with_reducible refine Qo ?_ ?_);focus rfl)|((with_reducible first|refine QT 9 (l:=?_) ?_ ?_|refine QF 9 (l:=?_) ?_ ?_);rotate_left 1;focus (simp only [Zu,Nat.reduceSub,Nat.reduceBEq];with_reducible rfl))|((with_reducible first|refine QS (cfg_ok 80) Tab.none (s':=?_) ?_ ?_|refine QC (b:=?_) ?_ ?_);rotate_left 1;focus ((with_reducible refine QW ?_);simp only [Zg,seval,if_true,if_false,reduceCtorEq,Nat.reduceEqDiff,j1,hLm];with_reducible rfl))|((with_reducible refine QD (cfg_ok 80) Tab.none mixed_ok (tr:=?_) (s':=?_) ?_ ?_ ?_);rotate_left 2;(focus ((with_reducible refine QW ?_);simp only [Zg,Zd,seval,if_true,if_false,reduceCtorEq,Nat.reduceEqDiff,j1,hLm];with_reducible rfl));focus ((with_reducible refine QK ?_);simp only [Zk];kernel_rfl)))
     refine roundK.out () trivial ?_
     rw [List.take_length]
     (repeat' (first|with_reducible refine Qn|((with_reducible refine Qr ?_ ?_);focus (first|with_reducible rfl|(simp only [Zz,Nat.reduceBEq];done)|rfl))|((with_reducible refine Qj (o':=?_) ?_ ?_ ?_);rotate_left 1;focus rfl)|((with_reducible refine Qw ?_ ?_);(focus (first|with_reducible rfl|(simp only [Zv];done)));focus (first|exact id|exact (fun h => nomatch h)|exact (fun _ => rfl)))))
   ·rintro _ _
    have q1:=big_le (n:=i + 1 + 1) (by omega)
    have q2:=big_mul (n:=i + 1 + 1) (c:=24) (by omega) (by omega)
    have q3:(i ≤ 140737488355326) = True:=eq_true (by omega)
    refine RunK.frz 5 ?_
    refine RunK.fits (s0:=⟨[(1,.c (.val (.sl 1 T))),(2,.c (.own 2 (i + 1))),(3,.c (.val (.int i))),(5,.c (.val (.sl 3 ((L.map mcut).map eM))))],[(2,.row 1 R false)]⟩) ?_ ?_
    ·(repeat' (first|with_reducible refine Qn|((with_reducible refine Qr ?_ ?_);focus (first|with_reducible rfl|(simp only [Zz,Nat.reduceBEq,St.frz,frzR,frzH,look,AV.frz,AC.frz,Obj.frz,drop];done)|rfl))|((with_reducible refine Qj (o':=?_) ?_ ?_ ?_);rotate_left 1;focus rfl)|((with_reducible refine Qw ?_ ?_);(focus (first|with_reducible rfl|(simp only [Zv,St.frz,frzR,frzH,look,AV.frz,AC.frz,Obj.frz,drop];done)));focus (first|exact id|exact (fun h => nomatch h)|exact (fun _ => rfl)))))
     all_goals first|exact ⟨rfl,rfl⟩|exact ⟨rfl,rfl,id⟩
    repeat' (first|with_reducible (first|refine Q1 ?_|refine Q2 ?_|refine Q3 ?_|refine Q4 ?_|refine Q5 ?_|refine Q6 ?_|refine Q7 ?_|refine Q8 ?_|refine Q9 ?_|refine Qa ?_|refine Qb ?_|refine Qc ?_|refine Qd ?_|refine Qe ?_|refine Qf ?_)|((with_reducible refine Qo ?_ ?_);focus rfl)|((with_reducible first|refine QT 9 (l:=?_) ?_ ?_|refine QF 9 (l:=?_) ?_ ?_);rotate_left 1;focus (simp only [Zu,Nat.reduceSub,Nat.reduceBEq];with_reducible rfl))|((with_reducible first|refine QS (cfg_ok 80) Tab.none (s':=?_) ?_ ?_|refine QC (b:=?_) ?_ ?_);rotate_left 1;focus ((with_reducible refine QW ?_);simp only [Zg,seval,if_true,if_false,reduceCtorEq,Nat.reduceEqDiff,hRl,q1,q2,q3,hw];with_reducible rfl))|((with_reducible refine QD (cfg_ok 80) Tab.none mixed_ok (tr:=?_) (s':=?_) ?_ ?_ ?_);rotate_left 2;(focus ((with_reducible refine QW ?_);simp only [Zg,Zd,seval,if_true,if_false,reduceCtorEq,Nat.reduceEqDiff,hRl,q1,q2,q3,hw];with_reducible rfl));focus ((with_reducible refine QK ?_);simp only [Zk];kernel_rfl)))
    refine roundK.on (i + 1) ⟨by omega,by omega⟩ ?_
    rw [htk]
    (repeat' (first|with_reducible refine Qn|((with_reducible refine Qr ?_ ?_);focus (first|with_reducible rfl|(simp only [Zz,Nat.reduceBEq];done)|rfl))|((with_reducible refine Qj (o':=?_) ?_ ?_ ?_);rotate_left 1;focus rfl)|((with_reducible refine Qw ?_ ?_);(focus (first|with_reducible rfl|(simp only [Zv];done)));focus (first|exact id|exact (fun h => nomatch h)|exact (fun _ => rfl)))))
  ·have i1:((i:Int) < 37) = False:=eq_false (by omega)
   obtain rfl:i = 37:=by omega
   repeat' (first|with_reducible (first|refine Q1 ?_|refine Q2 ?_|refine Q3 ?_|refine Q4 ?_|refine Q5 ?_|refine Q6 ?_|refine Q7 ?_|refine Q8 ?_|refine Q9 ?_|refine Qa ?_|refine Qb ?_|refine Qc ?_|refine Qd ?_|refine Qe ?_|refine Qf ?_)|((with_reducible refine Qo ?_ ?_);focus rfl)|((with_reducible first|refine QT 9 (l:=?_) ?_ ?_|refine QF 9 (l:=?_) ?_ ?_);rotate_left 1;focus (simp only [Zu,Nat.reduceSub,Nat.reduceBEq];with_reducible rfl))|((with_reducible first|refine QS (cfg_ok 80) Tab.none (s':=?_) ?_ ?_|refine QC (b:=?_) ?_ ?_);rotate_left 1;focus ((with_reducible refine QW ?_);simp only [Zg,seval,if_true,if_false,reduceCtorEq,Nat.reduceEqDiff,i1,hTl];with_reducible rfl))|((with_reducible refine QD (cfg_ok 80) Tab.none mixed_ok (tr:=?_) (s':=?_) ?_ ?_ ?_);rotate_left 2;(focus ((with_reducible refine QW ?_);simp only [Zg,Zd,seval,if_true,if_false,reduceCtorEq,Nat.reduceEqDiff,i1,hTl];with_reducible rfl));focus ((with_reducible refine QK ?_);simp only [Zk];kernel_rfl)))
   refine roundK.out () trivial ?_
   rw [List.take_of_length_le (by rw [T6_len];omega)]
   (repeat' (first|with_reducible refine Qn|((with_reducible refine Qr ?_ ?_);focus (first|with_reducible rfl|(simp only [Zz,Nat.reduceBEq];done)|rfl))|((with_reducible refine Qj (o':=?_) ?_ ?_ ?_);rotate_left 1;focus rfl)|((with_reducible refine Qw ?_ ?_);(focus (first|with_reducible rfl|(simp only [Zv];done)));focus (first|exact id|exact (fun h => nomatch h)|exact (fun _ => rfl)))))
   all_goals exact ⟨rfl,rfl,id⟩
 ·rintro _ _
  repeat' (first|with_reducible (first|refine Q1 ?_|refine Q2 ?_|refine Q3 ?_|refine Q4 ?_|refine Q5 ?_|refine Q6 ?_|refine Q7 ?_|refine Q8 ?_|refine Q9 ?_|refine Qa ?_|refine Qb ?_|refine Qc ?_|refine Qd ?_|refine Qe ?_|refine Qf ?_)|((with_reducible refine Qo ?_ ?_);focus rfl)|((with_reducible first|refine QT 9 (l:=?_) ?_ ?_|refine QF 9 (l:=?_) ?_ ?_);rotate_left 1;focus (simp only [Zu,Nat.reduceSub,Nat.reduceBEq];with_reducible rfl))|((with_reducible first|refine QS (cfg_ok 80) Tab.none (s':=?_) ?_ ?_|refine QC (b:=?_) ?_ ?_);rotate_left 1;focus ((with_reducible refine QW ?_);simp only [Zg,seval,if_true,if_false,reduceCtorEq,Nat.reduceEqDiff];with_reducible rfl))|((with_reducible refine QD (cfg_ok 80) Tab.none mixed_ok (tr:=?_) (s':=?_) ?_ ?_ ?_);rotate_left 2;(focus ((with_reducible refine QW ?_);simp only [Zg,Zd,seval,if_true,if_false,reduceCtorEq,Nat.reduceEqDiff];with_reducible rfl));focus ((with_reducible refine QK ?_);simp only [Zk];kernel_rfl)))
  (refine Ends.mk (by simp) (rs:=?_) (ks:=?_) hres hrts ?_ ?_ ?_;rotate_left 2;(focus (simp only [Ze,Zg,seval,if_true,if_false,reduceCtorEq,Nat.reduceEqDiff];with_reducible rfl));(focus simp);focus (first|with_reducible rfl|(simp only [Zv];done)))
end Go.Proofs.YtfhmonacgmakbaaGreat
namespace Go.Proofs.YtfhmonacgmakbaaGreat
open Go.RowKit
def cutV (a b:List Int) (m:MC):Int:=mP (m.1 * mP (valM a m.2.1 * b.getD m.2.2.toNat 0))
def rowV (a b:List Int) (L:List MC):Int:=mP ((L.map (cutV a b)).sum)
def cvM (a b:List Int):List Int:=b.getD 0 0 :: T6.map fun t => rowV a b (cutsM t)
theorem cutV_bd (a b:List Int) (m:MC):0 ≤ cutV a b m∧cutV a b m < 10007:=mP_bd _
theorem sumV_bd (a b:List Int):∀ (L:List MC),0 ≤ (L.map (cutV a b)).sum∧(L.map (cutV a b)).sum ≤ 10007 * L.length
 | [] => by simp
 | m :: L => by
  have h1:=cutV_bd a b m
  have h2:=sumV_bd a b L
  rw [List.map_cons,List.sum_cons,List.length_cons];omega
theorem sumV_snoc (a b:List Int) (L:List MC) (m:MC):((L ++ [m]).map (cutV a b)).sum = (L.map (cutV a b)).sum + cutV a b m:=by
 rw [List.map_append,List.sum_append];simp
theorem cutsM_ok {t:List Int} (ht:t ∈ T6):(cutsM t).length ≤ 256∧∀ m ∈ cutsM t,(1 ≤ m.1∧m.1 ≤ 256)∧(∀ p ∈ m.2.1,1 ≤ p∧p < 38)∧m.2.1.length ≤ 8∧0 ≤ m.2.2∧m.2.2 < 38:=by
 obtain ⟨h1,h2⟩:=cuts6 ht
 refine ⟨by unfold cutsM;rw [List.length_map];exact h1,fun m hm => ?_⟩
 obtain ⟨x,hx,rfl⟩:=List.mem_map.1 hm
 obtain ⟨k1,k2,k3,k4⟩:=h2 x hx
 refine ⟨k1,fun p hp => ?_,by show (x.1.1.map plc).length ≤ 8;rw [List.length_map];exact k3,?_⟩
 ·obtain ⟨c,hc,rfl⟩:=List.mem_map.1 hp
  exact plc_lt (k2 c hc).1 (k2 c hc).2
 ·show 0 ≤ (if x.1.2 = [] then 0 else plc x.1.2)∧(if x.1.2 = [] then 0 else plc x.1.2) < 38
  split
  ·omega
  ·rename_i h
   have:=plc_lt (k4.resolve_left h).1 (k4.resolve_left h).2
   omega
noncomputable def TNm:Tab Tryz.prog:=Tab.none.add 77 (tab1 codI fun n => some [.val (.int (mP n))]) (tab1_ok fun n rs h => by cases h;exact a_num n)
set_option maxRecDepth 20000 in
set_option maxHeartbeats 16000000 in
theorem a_convolve (X:List (List D)) (a b:List Int) (ha:isMap a = true) (hb:isMap b = true):AFn Tryz.prog 60 [[.sl 1 X,.sl 1 ((T6.map cutsM).map eMs)],eL a,eL b] (· = [.own 1 ((cvM a b).map eI) true]):=by
 obtain ⟨hal,hab⟩:=isMap_bd ha
 obtain ⟨hbl,hbb⟩:=isMap_bd hb
 obtain ⟨Y,hY⟩:∃ Y,Y = (T6.map cutsM).map eMs:=⟨_,rfl⟩
 have hYl:Y.length = 37:=by rw [hY,List.length_map,List.length_map,T6_len]
 have hbm:(b.map eI).length = 38:=by rw [List.length_map,hbl]
 have hb0:(b.map eI)[0]? = some [.int (b.getD 0 0)]:=by rw [map_get (by omega),getD_at (by omega)];rfl
 rw [← hY]
 refine AFn.of_runs (cfg_ok 55) Tryz.func60 rfl rfl rfl (by simp only [List.length_cons,List.length_nil];decide) ?_
 have hres:Tryz.f60.results.toList = [.tmp 6]:=rfl
 have hrts:Tryz.f60.resultTypes.toList = [22]:=rfl
 simp only [argRegs,argAV1,eL,eI,eLL,eB,Nat.zero_add,Nat.reduceAdd]
 intro M
 refine RunK.of ?_
 repeat' (first|with_reducible (first|refine Q1 ?_|refine Q2 ?_|refine Q3 ?_|refine Q4 ?_|refine Q5 ?_|refine Q6 ?_|refine Q7 ?_|refine Q8 ?_|refine Q9 ?_|refine Qa ?_|refine Qb ?_|refine Qc ?_|refine Qd ?_|refine Qe ?_|refine Qf ?_)|((with_reducible refine Qo ?_ ?_);focus rfl)|((with_reducible first|refine QT 27 (l:=?_) ?_ ?_|refine QF 27 (l:=?_) ?_ ?_);rotate_left 1;focus (simp only [Zu,Nat.reduceSub,Nat.reduceBEq];with_reducible rfl))|((with_reducible first|refine QS (cfg_ok 55) Tab.none (s':=?_) ?_ ?_|refine QC (b:=?_) ?_ ?_);rotate_left 1;focus ((with_reducible refine QW ?_);simp only [Zg,seval,if_true,if_false,reduceCtorEq,Nat.reduceEqDiff,hYl,hbm,hb0,Int.toNat_zero];with_reducible rfl))|((with_reducible refine QD (cfg_ok 55) Tab.none mixed_ok (tr:=?_) (s':=?_) ?_ ?_ ?_);rotate_left 2;(focus ((with_reducible refine QW ?_);simp only [Zg,Zd,seval,if_true,if_false,reduceCtorEq,Nat.reduceEqDiff,hYl,hbm,hb0,Int.toNat_zero];with_reducible rfl));focus ((with_reducible refine QK ?_);simp only [Zk];kernel_rfl)))
 refine RunK.loop (β:=Nat) (γ:=Unit) (fun i => ⟨[(1,.c (.val (.sl 1 (a.map eI)))),(2,.c (.val (.sl 1 (b.map eI)))),(7,.c (.own 7 (i + 1))),(18,.c (.val (.sl 1 Y))),(19,.c (.val (.int 37))),(20,.c (.val (.int i)))],[(7,.row 1 ((b.getD 0 0 :: (T6.take i).map fun t => rowV a b (cutsM t)).map eI) true)]⟩) (fun i => i ≤ 37) (fun i => 37 - i)
  (fun _ => ⟨[(7,.c (.own 7 38))],[(7,.row 1 ((cvM a b).map eI) true)]⟩) (fun _ => True) 0 (Nat.zero_le _) ?_ ?_ ?_
 ·(repeat' (first|with_reducible refine Qn|((with_reducible refine Qr ?_ ?_);focus (first|with_reducible rfl|(simp only [Zz,Nat.reduceBEq,List.take_zero,List.map_nil,Int.natCast_zero,List.map_cons,eI];done)|rfl))|((with_reducible refine Qj (o':=?_) ?_ ?_ ?_);rotate_left 1;focus rfl)|((with_reducible refine Qw ?_ ?_);(focus (first|with_reducible rfl|(simp only [Zv,List.take_zero,List.map_nil,Int.natCast_zero,List.map_cons,eI];done)));focus (first|exact id|exact (fun h => nomatch h)|exact (fun _ => rfl)))))
 ·intro i hi
  have hi:i ≤ 37:=hi
  have hw:=w64_succ (n:=i) (by omega)
  by_cases hi37:i < 37
  ·have i1:((i:Int) < 37) = True:=eq_true (by omega)
   have i2:((0:Int) ≤ (i:Int)) = True:=eq_true (by omega)
   have hiT:i < T6.length:=by rw [T6_len];exact hi37
   obtain ⟨t,ht⟩:∃ t,t = T6[i]:=⟨_,rfl⟩
   have htm:t ∈ T6:=by rw [ht];exact List.getElem_mem _
   have hg:Y[i]? = some [.sl 3 ((cutsM t).map eM)]:=by rw [hY,List.map_map,map_get hiT,← ht];rfl
   have hat:(b.getD 0 0 :: (T6.take i).map fun t => rowV a b (cutsM t)) ++ [rowV a b (cutsM t)] = b.getD 0 0 :: (T6.take (i + 1)).map fun t => rowV a b (cutsM t):=by
    rw [ht,List.take_succ_eq_append_getElem hiT,List.map_append];rfl
   obtain ⟨R,hR⟩:∃ R,R = b.getD 0 0 :: (T6.take i).map fun t => rowV a b (cutsM t):=⟨_,rfl⟩
   have hRm:(R.map eI).length = i + 1:=by rw [List.length_map,hR,List.length_cons,List.length_map,List.length_take];omega
   rw [← hR] at hat ⊢
   obtain ⟨hLn,hLok⟩:=cutsM_ok htm
   obtain ⟨L,hL⟩:∃ L,L = cutsM t:=⟨_,rfl⟩
   rw [← hL] at hg hat hLn hLok
   have hLm:(L.map eM).length = L.length:=List.length_map _
   repeat' (first|with_reducible (first|refine Q1 ?_|refine Q2 ?_|refine Q3 ?_|refine Q4 ?_|refine Q5 ?_|refine Q6 ?_|refine Q7 ?_|refine Q8 ?_|refine Q9 ?_|refine Qa ?_|refine Qb ?_|refine Qc ?_|refine Qd ?_|refine Qe ?_|refine Qf ?_)|((with_reducible refine Qo ?_ ?_);focus rfl)|((with_reducible first|refine QT 27 (l:=?_) ?_ ?_|refine QF 27 (l:=?_) ?_ ?_);rotate_left 1;focus (simp only [Zu,Nat.reduceSub,Nat.reduceBEq];with_reducible rfl))|((with_reducible first|refine QS (cfg_ok 55) Tab.none (s':=?_) ?_ ?_|refine QC (b:=?_) ?_ ?_);rotate_left 1;focus ((with_reducible refine QW ?_);simp only [Zg,seval,if_true,if_false,reduceCtorEq,Nat.reduceEqDiff,i1,i2,hg,hYl,hLm,Int.toNat_natCast];with_reducible rfl))|((with_reducible refine QD (cfg_ok 55) Tab.none mixed_ok (tr:=?_) (s':=?_) ?_ ?_ ?_);rotate_left 2;(focus ((with_reducible refine QW ?_);simp only [Zg,Zd,seval,if_true,if_false,reduceCtorEq,Nat.reduceEqDiff,i1,i2,hg,hYl,hLm,Int.toNat_natCast];with_reducible rfl));focus ((with_reducible refine QK ?_);simp only [Zk];kernel_rfl)))
   refine RunK.loop (β:=Nat) (γ:=Unit) (fun j => ⟨[(1,.c (.val (.sl 1 (a.map eI)))),(2,.c (.val (.sl 1 (b.map eI)))),(7,.c (.own 7 (i + 1))),(10,.c (.val (.int ((L.take j).map (cutV a b)).sum))),(18,.c (.val (.sl 1 Y))),(19,.c (.val (.int 37))),(20,.c (.val (.int i))),(24,.c (.val (.sl 3 (L.map eM)))),(25,.c (.val (.int L.length))),(26,.c (.val (.int j)))],[(7,.row 1 (R.map eI) true)]⟩) (fun j => j ≤ L.length) (fun j => L.length - j)
    (fun _ => ⟨[(1,.c (.val (.sl 1 (a.map eI)))),(2,.c (.val (.sl 1 (b.map eI)))),(7,.c (.own 7 (i + 1))),(10,.c (.val (.int (L.map (cutV a b)).sum))),(18,.c (.val (.sl 1 Y))),(19,.c (.val (.int 37))),(20,.c (.val (.int i)))],[(7,.row 1 (R.map eI) true)]⟩) (fun _ => True) 0 (Nat.zero_le _) ?_ ?_ ?_
   ·(repeat' (first|with_reducible refine Qn|((with_reducible refine Qr ?_ ?_);focus (first|with_reducible rfl|(simp only [Zz,Nat.reduceBEq,List.take_zero,List.map_nil,Int.natCast_zero,List.sum_nil];done)|rfl))|((with_reducible refine Qj (o':=?_) ?_ ?_ ?_);rotate_left 1;focus rfl)|((with_reducible refine Qw ?_ ?_);(focus (first|with_reducible rfl|(simp only [Zv,List.take_zero,List.map_nil,Int.natCast_zero,List.sum_nil];done)));focus (first|exact id|exact (fun h => nomatch h)|exact (fun _ => rfl)))))
   ·intro j hj
    have hj:j ≤ L.length:=hj
    have hwj:=w64_succ (n:=j) (by omega)
    by_cases hjL:j < L.length
    ·have j1:((j:Int) < (L.length:Int)) = True:=eq_true (by omega)
     have j2:((0:Int) ≤ (j:Int)) = True:=eq_true (by omega)
     obtain ⟨m,hm⟩:∃ m,m = L[j]:=⟨_,rfl⟩
     have hmg:(L.map eM)[j]? = some [.int m.1,.sl 1 (m.2.1.map eI),.int m.2.2]:=by rw [map_get hjL,hm];rfl
     obtain ⟨m1,m2,m3,m4,m5⟩:=hLok L[j] (List.getElem_mem _)
     rw [← hm] at m1 m2 m3 m4 m5
     have hst:((L.take (j + 1)).map (cutV a b)).sum = ((L.take j).map (cutV a b)).sum + cutV a b m:=by
      rw [List.take_succ_eq_append_getElem hjL,sumV_snoc,← hm]
     have hsb:=sumV_bd a b (L.take j)
     have htl:(L.take j).length ≤ 256:=by rw [List.length_take];omega
     obtain ⟨n,ps,z⟩:=m
     simp only at hmg m1 m2 m3 m4 m5
     obtain ⟨q,rfl⟩:∃ q:Nat,z = q:=⟨z.toNat,by omega⟩
     have hq:q < b.length:=by omega
     have k1:((q:Int) < 38) = True:=eq_true (by omega)
     have k2:((0:Int) ≤ (q:Int)) = True:=eq_true (by omega)
     have hbg:(b.map eI)[q]? = some [.int (b.getD q 0)]:=by rw [map_get hq,getD_at hq];rfl
     have hv:=a_valueOf a ps ha (fun p hp => by have:=m2 p hp;omega) (by omega)
     simp only [eL] at hv
     have hvb:=valM_bd a ps
     have hm1:=mul_bdM hvb (hbb q)
     have hw1:w64 (valM a ps * b.getD q 0) = valM a ps * b.getD q 0:=w64_eq (by omega)
     have hm2:=mul_bdM (a:=n) (by omega) (mP_bd (valM a ps * b.getD q 0))
     have hw2:w64 (n * mP (valM a ps * b.getD q 0)) = n * mP (valM a ps * b.getD q 0):=w64_eq (by omega)
     have hcv:cutV a b (n,ps,(q:Int)) = mP (n * mP (valM a ps * b.getD q 0)):=rfl
     have hcb:=cutV_bd a b (n,ps,(q:Int))
     have hw3:w64 (((L.take j).map (cutV a b)).sum + mP (n * mP (valM a ps * b.getD q 0))) = ((L.take j).map (cutV a b)).sum + mP (n * mP (valM a ps * b.getD q 0)):=w64_eq (by rw [← hcv];omega)
     rw [hcv] at hst
     repeat' (first|with_reducible (first|refine Q1 ?_|refine Q2 ?_|refine Q3 ?_|refine Q4 ?_|refine Q5 ?_|refine Q6 ?_|refine Q7 ?_|refine Q8 ?_|refine Q9 ?_|refine Qa ?_|refine Qb ?_|refine Qc ?_|refine Qd ?_|refine Qe ?_|refine Qf ?_)|((with_reducible refine Qo ?_ ?_);focus rfl)|((with_reducible first|refine QT 27 (l:=?_) ?_ ?_|refine QF 27 (l:=?_) ?_ ?_);rotate_left 1;focus (simp only [Zu,Nat.reduceSub,Nat.reduceBEq];with_reducible rfl))|((with_reducible first|refine QS (cfg_ok 55) ((TNm.at' 56 hv)) (s':=?_) ?_ ?_|refine QC (b:=?_) ?_ ?_);rotate_left 1;focus ((with_reducible refine QW ?_);simp only [Zg,seval,if_true,if_false,reduceCtorEq,Nat.reduceEqDiff,TNm,j1,j2,hmg,hLm,hbm,hbg,k1,k2,hw1,hw2,hw3,hwj,Int.toNat_natCast];with_reducible rfl))|((with_reducible refine QD (cfg_ok 55) ((TNm.at' 56 hv)) mixed_ok (tr:=?_) (s':=?_) ?_ ?_ ?_);rotate_left 2;(focus ((with_reducible refine QW ?_);simp only [Zg,Zd,seval,if_true,if_false,reduceCtorEq,Nat.reduceEqDiff,TNm,j1,j2,hmg,hLm,hbm,hbg,k1,k2,hw1,hw2,hw3,hwj,Int.toNat_natCast];with_reducible rfl));focus ((with_reducible refine QK ?_);simp only [Zk];kernel_rfl)))
     refine roundK.on (j + 1) ⟨hjL,by omega⟩ ?_
     rw [hst]
     (repeat' (first|with_reducible refine Qn|((with_reducible refine Qr ?_ ?_);focus (first|with_reducible rfl|(simp only [Zz,Nat.reduceBEq];done)|rfl))|((with_reducible refine Qj (o':=?_) ?_ ?_ ?_);rotate_left 1;focus rfl)|((with_reducible refine Qw ?_ ?_);(focus (first|with_reducible rfl|(simp only [Zv];done)));focus (first|exact id|exact (fun h => nomatch h)|exact (fun _ => rfl)))))
    ·have j1:((j:Int) < (L.length:Int)) = False:=eq_false (by omega)
     obtain rfl:j = L.length:=by omega
     repeat' (first|with_reducible (first|refine Q1 ?_|refine Q2 ?_|refine Q3 ?_|refine Q4 ?_|refine Q5 ?_|refine Q6 ?_|refine Q7 ?_|refine Q8 ?_|refine Q9 ?_|refine Qa ?_|refine Qb ?_|refine Qc ?_|refine Qd ?_|refine Qe ?_|refine Qf ?_)|((with_reducible refine Qo ?_ ?_);focus rfl)|((with_reducible first|refine QT 27 (l:=?_) ?_ ?_|refine QF 27 (l:=?_) ?_ ?_);rotate_left 1;focus (simp only [Zu,Nat.reduceSub,Nat.reduceBEq];with_reducible rfl))|((with_reducible first|refine QS (cfg_ok 55) Tab.none (s':=?_) ?_ ?_|refine QC (b:=?_) ?_ ?_);rotate_left 1;focus ((with_reducible refine QW ?_);simp only [Zg,seval,if_true,if_false,reduceCtorEq,Nat.reduceEqDiff,j1];with_reducible rfl))|((with_reducible refine QD (cfg_ok 55) Tab.none mixed_ok (tr:=?_) (s':=?_) ?_ ?_ ?_);rotate_left 2;(focus ((with_reducible refine QW ?_);simp only [Zg,Zd,seval,if_true,if_false,reduceCtorEq,Nat.reduceEqDiff,j1];with_reducible rfl));focus ((with_reducible refine QK ?_);simp only [Zk];kernel_rfl)))
     refine roundK.out () trivial ?_
     rw [List.take_length]
     (repeat' (first|with_reducible refine Qn|((with_reducible refine Qr ?_ ?_);focus (first|with_reducible rfl|(simp only [Zz,Nat.reduceBEq];done)|rfl))|((with_reducible refine Qj (o':=?_) ?_ ?_ ?_);rotate_left 1;focus rfl)|((with_reducible refine Qw ?_ ?_);(focus (first|with_reducible rfl|(simp only [Zv];done)));focus (first|exact id|exact (fun h => nomatch h)|exact (fun _ => rfl)))))
   ·rintro _ _
    have q1:=big_le (n:=i + 1 + 1) (by omega)
    have q2:=big_mul (n:=i + 1 + 1) (c:=8) (by omega) (by omega)
    have q3:(i ≤ 140737488355326) = True:=eq_true (by omega)
    repeat' (first|with_reducible (first|refine Q1 ?_|refine Q2 ?_|refine Q3 ?_|refine Q4 ?_|refine Q5 ?_|refine Q6 ?_|refine Q7 ?_|refine Q8 ?_|refine Q9 ?_|refine Qa ?_|refine Qb ?_|refine Qc ?_|refine Qd ?_|refine Qe ?_|refine Qf ?_)|((with_reducible refine Qo ?_ ?_);focus rfl)|((with_reducible first|refine QT 27 (l:=?_) ?_ ?_|refine QF 27 (l:=?_) ?_ ?_);rotate_left 1;focus (simp only [Zu,Nat.reduceSub,Nat.reduceBEq];with_reducible rfl))|((with_reducible first|refine QS (cfg_ok 55) TNm (s':=?_) ?_ ?_|refine QC (b:=?_) ?_ ?_);rotate_left 1;focus ((with_reducible refine QW ?_);simp only [Zg,seval,if_true,if_false,reduceCtorEq,Nat.reduceEqDiff,TNm,TNm,hRm,q1,q2,q3,hw];with_reducible rfl))|((with_reducible refine QD (cfg_ok 55) TNm mixed_ok (tr:=?_) (s':=?_) ?_ ?_ ?_);rotate_left 2;(focus ((with_reducible refine QW ?_);simp only [Zg,Zd,seval,if_true,if_false,reduceCtorEq,Nat.reduceEqDiff,TNm,TNm,hRm,q1,q2,q3,hw];with_reducible rfl));focus ((with_reducible refine QK ?_);simp only [Zk];kernel_rfl)))
    refine roundK.on (i + 1) ⟨by omega,by omega⟩ ?_
    rw [← hat,List.map_append]
    (repeat' (first|with_reducible refine Qn|((with_reducible refine Qr ?_ ?_);focus (first|with_reducible rfl|(simp only [Zz,Nat.reduceBEq,List.map_cons,List.map_nil,eI,rowV];done)|rfl))|((with_reducible refine Qj (o':=?_) ?_ ?_ ?_);rotate_left 1;focus rfl)|((with_reducible refine Qw ?_ ?_);(focus (first|with_reducible rfl|(simp only [Zv,List.map_cons,List.map_nil,eI,rowV];done)));focus (first|exact id|exact (fun h => nomatch h)|exact (fun _ => rfl)))))
  ·have i1:((i:Int) < 37) = False:=eq_false (by omega)
   obtain rfl:i = 37:=by omega
   repeat' (first|with_reducible (first|refine Q1 ?_|refine Q2 ?_|refine Q3 ?_|refine Q4 ?_|refine Q5 ?_|refine Q6 ?_|refine Q7 ?_|refine Q8 ?_|refine Q9 ?_|refine Qa ?_|refine Qb ?_|refine Qc ?_|refine Qd ?_|refine Qe ?_|refine Qf ?_)|((with_reducible refine Qo ?_ ?_);focus rfl)|((with_reducible first|refine QT 27 (l:=?_) ?_ ?_|refine QF 27 (l:=?_) ?_ ?_);rotate_left 1;focus (simp only [Zu,Nat.reduceSub,Nat.reduceBEq];with_reducible rfl))|((with_reducible first|refine QS (cfg_ok 55) Tab.none (s':=?_) ?_ ?_|refine QC (b:=?_) ?_ ?_);rotate_left 1;focus ((with_reducible refine QW ?_);simp only [Zg,seval,if_true,if_false,reduceCtorEq,Nat.reduceEqDiff,i1];with_reducible rfl))|((with_reducible refine QD (cfg_ok 55) Tab.none mixed_ok (tr:=?_) (s':=?_) ?_ ?_ ?_);rotate_left 2;(focus ((with_reducible refine QW ?_);simp only [Zg,Zd,seval,if_true,if_false,reduceCtorEq,Nat.reduceEqDiff,i1];with_reducible rfl));focus ((with_reducible refine QK ?_);simp only [Zk];kernel_rfl)))
   refine roundK.out () trivial ?_
   rw [List.take_of_length_le (by rw [T6_len];omega)]
   (repeat' (first|with_reducible refine Qn|((with_reducible refine Qr ?_ ?_);focus (first|with_reducible rfl|(simp only [Zz,Nat.reduceBEq];done)|rfl))|((with_reducible refine Qj (o':=?_) ?_ ?_ ?_);rotate_left 1;focus rfl)|((with_reducible refine Qw ?_ ?_);(focus (first|with_reducible rfl|(simp only [Zv];done)));focus (first|exact id|exact (fun h => nomatch h)|exact (fun _ => rfl)))))
   all_goals exact ⟨rfl,rfl,id⟩
 ·rintro _ _
  repeat' (first|with_reducible (first|refine Q1 ?_|refine Q2 ?_|refine Q3 ?_|refine Q4 ?_|refine Q5 ?_|refine Q6 ?_|refine Q7 ?_|refine Q8 ?_|refine Q9 ?_|refine Qa ?_|refine Qb ?_|refine Qc ?_|refine Qd ?_|refine Qe ?_|refine Qf ?_)|((with_reducible refine Qo ?_ ?_);focus rfl)|((with_reducible first|refine QT 27 (l:=?_) ?_ ?_|refine QF 27 (l:=?_) ?_ ?_);rotate_left 1;focus (simp only [Zu,Nat.reduceSub,Nat.reduceBEq];with_reducible rfl))|((with_reducible first|refine QS (cfg_ok 55) Tab.none (s':=?_) ?_ ?_|refine QC (b:=?_) ?_ ?_);rotate_left 1;focus ((with_reducible refine QW ?_);simp only [Zg,seval,if_true,if_false,reduceCtorEq,Nat.reduceEqDiff];with_reducible rfl))|((with_reducible refine QD (cfg_ok 55) Tab.none mixed_ok (tr:=?_) (s':=?_) ?_ ?_ ?_);rotate_left 2;(focus ((with_reducible refine QW ?_);simp only [Zg,Zd,seval,if_true,if_false,reduceCtorEq,Nat.reduceEqDiff];with_reducible rfl));focus ((with_reducible refine QK ?_);simp only [Zk];kernel_rfl)))
  (refine Ends.mk (by simp) (rs:=?_) (ks:=?_) hres hrts ?_ ?_ ?_;rotate_left 2;(focus (simp only [Ze,Zg,seval,if_true,if_false,reduceCtorEq,Nat.reduceEqDiff];with_reducible rfl));(focus simp);focus (first|with_reducible rfl|(simp only [Zv];done)))
end Go.Proofs.YtfhmonacgmakbaaGreat
namespace Go.Proofs.YtfhmonacgmakbaaGreat
open Go.RowKit
theorem mP_mul_r (a b:Int):mP (a * mP b) = mP (a * b):=by rw [Int.mul_comm,mP_mul,Int.mul_comm]
theorem crown_step (x V y:Int):mP (mP (x * V) * y) = mP (x * mP (V * y)):=by rw [mP_mul,mP_mul_r,Int.mul_assoc]
theorem cutV_eq (a b:List Int) (n:Int) (ps:List Int) (q:Nat):mP (n * b.getD q 0 * valM a ps) = cutV a b (n,ps,(q:Int)):=by
 show _ = mP (n * mP (valM a ps * b.getD q 0))
 rw [mP_mul_r,Int.mul_assoc,Int.mul_comm (b.getD q 0)]
set_option maxRecDepth 20000 in
set_option maxHeartbeats 16000000 in
theorem a_l07Conv (n:Nat) (hn:n ≤ 37) (a b:List Int) (ha:isMap a = true) (hb:isMap b = true):AFn Tryz.prog 58 [[.sl 1 ([.sl 3 []] :: ((T6.take n).map cutsM).map eMs)],eL a,eL b] (· = [.own 1 ((mP (a.getD 0 0 * b.getD 0 0) :: (T6.take n).map fun t => rowV a b (cutsM t)).map eI) true]):=by
 obtain ⟨hal,hab⟩:=isMap_bd ha
 obtain ⟨hbl,hbb⟩:=isMap_bd hb
 obtain ⟨T,hT⟩:∃ T,T = T6.take n:=⟨_,rfl⟩
 have hTl:T.length = n:=by rw [hT,List.length_take,T6_len];omega
 have hT6:∀ t ∈ T,t ∈ T6:=fun t ht => by rw [hT] at ht;exact List.mem_of_mem_take ht
 rw [← hT]
 obtain ⟨Y,hY⟩:∃ Y,Y = [D.sl 3 []] :: (T.map cutsM).map eMs:=⟨_,rfl⟩
 have hYl:Y.length = n + 1:=by rw [hY,List.length_cons,List.length_map,List.length_map,hTl]
 have hbm:(b.map eI).length = 38:=by rw [List.length_map,hbl]
 have ham:(a.map eI).length = 38:=by rw [List.length_map,hal]
 have hb0:(b.map eI)[0]? = some [.int (b.getD 0 0)]:=by rw [map_get (by omega),getD_at (by omega)];rfl
 have ha0:(a.map eI)[0]? = some [.int (a.getD 0 0)]:=by rw [map_get (by omega),getD_at (by omega)];rfl
 have h00:=mul_bdM (hab 0) (hbb 0)
 have hmul0:=a_l01Mul (a.getD 0 0) (b.getD 0 0) (by omega)
 simp only [eI] at hmul0
 rw [← hY]
 refine AFn.of_runs (cfg_ok 93) Tryz.func58 rfl rfl rfl (by simp only [List.length_cons,List.length_nil];decide) ?_
 have hres:Tryz.f58.results.toList = [.tmp 6]:=rfl
 have hrts:Tryz.f58.resultTypes.toList = [22]:=rfl
 simp only [argRegs,argAV1,eL,eI,eLL,eB,Nat.zero_add,Nat.reduceAdd]
 intro M
 refine RunK.of ?_
 repeat' (first|with_reducible (first|refine Q1 ?_|refine Q2 ?_|refine Q3 ?_|refine Q4 ?_|refine Q5 ?_|refine Q6 ?_|refine Q7 ?_|refine Q8 ?_|refine Q9 ?_|refine Qa ?_|refine Qb ?_|refine Qc ?_|refine Qd ?_|refine Qe ?_|refine Qf ?_)|((with_reducible refine Qo ?_ ?_);focus rfl)|((with_reducible first|refine QT 13 (l:=?_) ?_ ?_|refine QF 13 (l:=?_) ?_ ?_);rotate_left 1;focus (simp only [Zu,Nat.reduceSub,Nat.reduceBEq];with_reducible rfl))|((with_reducible first|refine QS (cfg_ok 93) (Tab.none.at' 51 hmul0) (s':=?_) ?_ ?_|refine QC (b:=?_) ?_ ?_);rotate_left 1;focus ((with_reducible refine QW ?_);simp only [Zg,seval,if_true,if_false,reduceCtorEq,Nat.reduceEqDiff,hbm,ham,hb0,ha0,Int.toNat_zero];with_reducible rfl))|((with_reducible refine QD (cfg_ok 93) (Tab.none.at' 51 hmul0) mixed_ok (tr:=?_) (s':=?_) ?_ ?_ ?_);rotate_left 2;(focus ((with_reducible refine QW ?_);simp only [Zg,Zd,seval,if_true,if_false,reduceCtorEq,Nat.reduceEqDiff,hbm,ham,hb0,ha0,Int.toNat_zero];with_reducible rfl));focus ((with_reducible refine QK ?_);simp only [Zk];kernel_rfl)))
 obtain ⟨r0,hr0⟩:∃ r0,r0 = mP (a.getD 0 0 * b.getD 0 0):=⟨_,rfl⟩
 rw [← hr0]
 refine RunK.loop (β:=Nat) (γ:=Unit) (fun i => ⟨[(0,.c (.val (.sl 1 Y))),(1,.c (.val (.sl 1 (a.map eI)))),(2,.c (.val (.sl 1 (b.map eI)))),(7,.c (.own 7 (i + 1))),(8,.c (.val (.int ((i + 1:Nat):Int))))],[(7,.row 1 ((r0 :: (T.take i).map fun t => rowV a b (cutsM t)).map eI) true)]⟩) (fun i => i ≤ n) (fun i => n - i)
  (fun _ => ⟨[(7,.c (.own 7 (n + 1)))],[(7,.row 1 ((r0 :: T.map fun t => rowV a b (cutsM t)).map eI) true)]⟩) (fun _ => True) 0 (Nat.zero_le _) ?_ ?_ ?_
 ·(repeat' (first|with_reducible refine Qn|((with_reducible refine Qr ?_ ?_);focus (first|with_reducible rfl|(simp only [Zz,Nat.reduceBEq,List.take_zero,List.map_nil,Int.natCast_one,List.map_cons,eI];done)|rfl))|((with_reducible refine Qj (o':=?_) ?_ ?_ ?_);rotate_left 1;focus rfl)|((with_reducible refine Qw ?_ ?_);(focus (first|with_reducible rfl|(simp only [Zv,List.take_zero,List.map_nil,Int.natCast_one,List.map_cons,eI];done)));focus (first|exact id|exact (fun h => nomatch h)|exact (fun _ => rfl)))))
 ·intro i hi
  have hi:i ≤ n:=hi
  have hw:=w64_succ (n:=i + 1) (by omega)
  by_cases hin:i < n
  ·have i1:(((i + 1:Nat):Int) < ((n + 1:Nat):Int)) = True:=eq_true (by omega)
   have i2:((0:Int) ≤ ((i + 1:Nat):Int)) = True:=eq_true (by omega)
   have hiT:i < T.length:=by omega
   obtain ⟨t,ht⟩:∃ t,t = T[i]:=⟨_,rfl⟩
   have htm:t ∈ T6:=by rw [ht];exact hT6 _ (List.getElem_mem _)
   have hg:Y[i + 1]? = some [.sl 3 ((cutsM t).map eM)]:=by rw [hY,List.getElem?_cons_succ,List.map_map,map_get hiT,← ht];rfl
   have hat:(r0 :: (T.take i).map fun t => rowV a b (cutsM t)) ++ [rowV a b (cutsM t)] = r0 :: (T.take (i + 1)).map fun t => rowV a b (cutsM t):=by
    rw [ht,List.take_succ_eq_append_getElem hiT,List.map_append];rfl
   obtain ⟨R,hR⟩:∃ R,R = r0 :: (T.take i).map fun t => rowV a b (cutsM t):=⟨_,rfl⟩
   have hRm:(R.map eI).length = i + 1:=by rw [List.length_map,hR,List.length_cons,List.length_map,List.length_take];omega
   rw [← hR] at hat ⊢
   obtain ⟨hLn,hLok⟩:=cutsM_ok htm
   obtain ⟨L,hL⟩:∃ L,L = cutsM t:=⟨_,rfl⟩
   rw [← hL] at hg hat hLn hLok
   have hLm:(L.map eM).length = L.length:=List.length_map _
   repeat' (first|with_reducible (first|refine Q1 ?_|refine Q2 ?_|refine Q3 ?_|refine Q4 ?_|refine Q5 ?_|refine Q6 ?_|refine Q7 ?_|refine Q8 ?_|refine Q9 ?_|refine Qa ?_|refine Qb ?_|refine Qc ?_|refine Qd ?_|refine Qe ?_|refine Qf ?_)|((with_reducible refine Qo ?_ ?_);focus rfl)|((with_reducible first|refine QT 13 (l:=?_) ?_ ?_|refine QF 13 (l:=?_) ?_ ?_);rotate_left 1;focus (simp only [Zu,Nat.reduceSub,Nat.reduceBEq];with_reducible rfl))|((with_reducible first|refine QS (cfg_ok 93) Tab.none (s':=?_) ?_ ?_|refine QC (b:=?_) ?_ ?_);rotate_left 1;focus ((with_reducible refine QW ?_);simp only [Zg,seval,if_true,if_false,reduceCtorEq,Nat.reduceEqDiff,i1,hYl];with_reducible rfl))|((with_reducible refine QD (cfg_ok 93) Tab.none mixed_ok (tr:=?_) (s':=?_) ?_ ?_ ?_);rotate_left 2;(focus ((with_reducible refine QW ?_);simp only [Zg,Zd,seval,if_true,if_false,reduceCtorEq,Nat.reduceEqDiff,i1,hYl];with_reducible rfl));focus ((with_reducible refine QK ?_);simp only [Zk];kernel_rfl)))
   refine RunK.loop (β:=Nat) (γ:=Unit) (fun j => ⟨[(0,.c (.val (.sl 1 Y))),(1,.c (.val (.sl 1 (a.map eI)))),(2,.c (.val (.sl 1 (b.map eI)))),(7,.c (.own 7 (i + 1))),(8,.c (.val (.int ((i + 1:Nat):Int)))),(9,.c (.val (.int (mP ((L.take j).map (cutV a b)).sum)))),(10,.c (.val (.int j)))],[(7,.row 1 (R.map eI) true)]⟩) (fun j => j ≤ L.length) (fun j => L.length - j)
    (fun _ => ⟨[(0,.c (.val (.sl 1 Y))),(1,.c (.val (.sl 1 (a.map eI)))),(2,.c (.val (.sl 1 (b.map eI)))),(7,.c (.own 7 (i + 1))),(8,.c (.val (.int ((i + 1:Nat):Int)))),(9,.c (.val (.int (mP (L.map (cutV a b)).sum))))],[(7,.row 1 (R.map eI) true)]⟩) (fun _ => True) 0 (Nat.zero_le _) ?_ ?_ ?_
   ·(repeat' (first|with_reducible refine Qn|((with_reducible refine Qr ?_ ?_);focus (first|with_reducible rfl|(simp only [Zz,Nat.reduceBEq,List.take_zero,List.map_nil,Int.natCast_zero,List.sum_nil,show mP 0 = 0 from rfl];done)|rfl))|((with_reducible refine Qj (o':=?_) ?_ ?_ ?_);rotate_left 1;focus rfl)|((with_reducible refine Qw ?_ ?_);(focus (first|with_reducible rfl|(simp only [Zv,List.take_zero,List.map_nil,Int.natCast_zero,List.sum_nil,show mP 0 = 0 from rfl];done)));focus (first|exact id|exact (fun h => nomatch h)|exact (fun _ => rfl)))))
   ·intro j hj
    have hj:j ≤ L.length:=hj
    have hwj:=w64_succ (n:=j) (by omega)
    by_cases hjL:j < L.length
    ·have j1:((j:Int) < (L.length:Int)) = True:=eq_true (by omega)
     have j2:((0:Int) ≤ (j:Int)) = True:=eq_true (by omega)
     obtain ⟨m,hm⟩:∃ m,m = L[j]:=⟨_,rfl⟩
     have hmg:(L.map eM)[j]? = some [.int m.1,.sl 1 (m.2.1.map eI),.int m.2.2]:=by rw [map_get hjL,hm];rfl
     obtain ⟨m1,m2,m3,m4,m5⟩:=hLok L[j] (List.getElem_mem _)
     rw [← hm] at m1 m2 m3 m4 m5
     have hst:mP ((L.take (j + 1)).map (cutV a b)).sum = mP (mP ((L.take j).map (cutV a b)).sum + cutV a b m):=by
      rw [mP_mP_add,List.take_succ_eq_append_getElem hjL,sumV_snoc,← hm]
     obtain ⟨S,hS⟩:∃ S,S = mP ((L.take j).map (cutV a b)).sum:=⟨_,rfl⟩
     have hSb:0 ≤ S∧S < 10007:=by rw [hS];exact mP_bd _
     rw [← hS] at hst ⊢
     obtain ⟨c,ps,z⟩:=m
     simp only at hmg m1 m2 m3 m4 m5
     obtain ⟨q,rfl⟩:∃ q:Nat,z = q:=⟨z.toNat,by omega⟩
     have hq:q < b.length:=by omega
     have k1:((q:Int) < 38) = True:=eq_true (by omega)
     have k2:((0:Int) ≤ (q:Int)) = True:=eq_true (by omega)
     have hbg:(b.map eI)[q]? = some [.int (b.getD q 0)]:=by rw [map_get hq,getD_at hq];rfl
     have hcb:=mul_bdM (a:=c) (by omega) (hbb q)
     have hmu:=a_l01Mul c (b.getD q 0) (by omega)
     simp only [eI] at hmu
     have hpm:(ps.map eI).length = ps.length:=List.length_map _
     repeat' (first|with_reducible (first|refine Q1 ?_|refine Q2 ?_|refine Q3 ?_|refine Q4 ?_|refine Q5 ?_|refine Q6 ?_|refine Q7 ?_|refine Q8 ?_|refine Q9 ?_|refine Qa ?_|refine Qb ?_|refine Qc ?_|refine Qd ?_|refine Qe ?_|refine Qf ?_)|((with_reducible refine Qo ?_ ?_);focus rfl)|((with_reducible first|refine QT 13 (l:=?_) ?_ ?_|refine QF 13 (l:=?_) ?_ ?_);rotate_left 1;focus (simp only [Zu,Nat.reduceSub,Nat.reduceBEq];with_reducible rfl))|((with_reducible first|refine QS (cfg_ok 93) (Tab.none.at' 51 hmu) (s':=?_) ?_ ?_|refine QC (b:=?_) ?_ ?_);rotate_left 1;focus ((with_reducible refine QW ?_);simp only [Zg,seval,if_true,if_false,reduceCtorEq,Nat.reduceEqDiff,i1,i2,j1,j2,hg,hmg,hYl,hLm,hbm,hbg,k1,k2,Int.toNat_natCast];with_reducible rfl))|((with_reducible refine QD (cfg_ok 93) (Tab.none.at' 51 hmu) mixed_ok (tr:=?_) (s':=?_) ?_ ?_ ?_);rotate_left 2;(focus ((with_reducible refine QW ?_);simp only [Zg,Zd,seval,if_true,if_false,reduceCtorEq,Nat.reduceEqDiff,i1,i2,j1,j2,hg,hmg,hYl,hLm,hbm,hbg,k1,k2,Int.toNat_natCast];with_reducible rfl));focus ((with_reducible refine QK ?_);simp only [Zk];kernel_rfl)))
     refine RunK.loop (β:=Nat) (γ:=Unit) (fun u => ⟨[(0,.c (.val (.sl 1 Y))),(1,.c (.val (.sl 1 (a.map eI)))),(2,.c (.val (.sl 1 (b.map eI)))),(7,.c (.own 7 (i + 1))),(8,.c (.val (.int ((i + 1:Nat):Int)))),(9,.c (.val (.int S))),(10,.c (.val (.int j))),(11,.c (.val (.int (mP (c * b.getD q 0 * valM a (ps.take u)))))),(12,.c (.val (.int u)))],[(7,.row 1 (R.map eI) true)]⟩) (fun u => u ≤ ps.length) (fun u => ps.length - u)
      (fun _ => ⟨[(0,.c (.val (.sl 1 Y))),(1,.c (.val (.sl 1 (a.map eI)))),(2,.c (.val (.sl 1 (b.map eI)))),(7,.c (.own 7 (i + 1))),(8,.c (.val (.int ((i + 1:Nat):Int)))),(9,.c (.val (.int S))),(10,.c (.val (.int j))),(11,.c (.val (.int (cutV a b (c,ps,(q:Int))))))],[(7,.row 1 (R.map eI) true)]⟩) (fun _ => True) 0 (Nat.zero_le _) ?_ ?_ ?_
     ·(repeat' (first|with_reducible refine Qn|((with_reducible refine Qr ?_ ?_);focus (first|with_reducible rfl|(simp only [Zz,Nat.reduceBEq,List.take_zero,Int.natCast_zero,show valM a [] = 1 from rfl,Int.mul_one];done)|rfl))|((with_reducible refine Qj (o':=?_) ?_ ?_ ?_);rotate_left 1;focus rfl)|((with_reducible refine Qw ?_ ?_);(focus (first|with_reducible rfl|(simp only [Zv,List.take_zero,Int.natCast_zero,show valM a [] = 1 from rfl,Int.mul_one];done)));focus (first|exact id|exact (fun h => nomatch h)|exact (fun _ => rfl)))))
     ·intro u hu
      have hu:u ≤ ps.length:=hu
      have hwu:=w64_succ (n:=u) (by omega)
      by_cases hup:u < ps.length
      ·have u1:((u:Int) < (ps.length:Int)) = True:=eq_true (by omega)
       have u2:((0:Int) ≤ (u:Int)) = True:=eq_true (by omega)
       obtain ⟨p,hp⟩:∃ p,p = ps[u]:=⟨_,rfl⟩
       have hp1:=m2 ps[u] (List.getElem_mem _)
       rw [← hp] at hp1
       obtain ⟨p,rfl⟩:∃ p':Nat,p = p':=⟨p.toNat,by omega⟩
       have hpg:(ps.map eI)[u]? = some [.int (p:Int)]:=by rw [map_get hup,← hp];rfl
       have hpa:p < a.length:=by omega
       have hag:(a.map eI)[p]? = some [.int (a.getD p 0)]:=by rw [map_get hpa,getD_at hpa];rfl
       have p1:((p:Int) < 38) = True:=eq_true (by omega)
       have p2:((0:Int) ≤ (p:Int)) = True:=eq_true (by omega)
       have hst2:mP (c * b.getD q 0 * valM a (ps.take (u + 1))) = mP (mP (c * b.getD q 0 * valM a (ps.take u)) * a.getD p 0):=by
        rw [List.take_succ_eq_append_getElem hup,valM_snoc,← hp,crown_step];rfl
       obtain ⟨V,hV⟩:∃ V,V = mP (c * b.getD q 0 * valM a (ps.take u)):=⟨_,rfl⟩
       have hVb:0 ≤ V∧V < 10007:=by rw [hV];exact mP_bd _
       rw [← hV] at hst2 ⊢
       have hvb:=mul_bdM hVb (hab p)
       have hmv:=a_l01Mul V (a.getD p 0) (by omega)
       simp only [eI] at hmv
       repeat' (first|with_reducible (first|refine Q1 ?_|refine Q2 ?_|refine Q3 ?_|refine Q4 ?_|refine Q5 ?_|refine Q6 ?_|refine Q7 ?_|refine Q8 ?_|refine Q9 ?_|refine Qa ?_|refine Qb ?_|refine Qc ?_|refine Qd ?_|refine Qe ?_|refine Qf ?_)|((with_reducible refine Qo ?_ ?_);focus rfl)|((with_reducible first|refine QT 13 (l:=?_) ?_ ?_|refine QF 13 (l:=?_) ?_ ?_);rotate_left 1;focus (simp only [Zu,Nat.reduceSub,Nat.reduceBEq];with_reducible rfl))|((with_reducible first|refine QS (cfg_ok 93) (Tab.none.at' 51 hmv) (s':=?_) ?_ ?_|refine QC (b:=?_) ?_ ?_);rotate_left 1;focus ((with_reducible refine QW ?_);simp only [Zg,seval,if_true,if_false,reduceCtorEq,Nat.reduceEqDiff,i1,i2,j1,j2,u1,u2,hg,hmg,hpg,hag,hYl,hLm,hpm,ham,p1,p2,hwu,Int.toNat_natCast];with_reducible rfl))|((with_reducible refine QD (cfg_ok 93) (Tab.none.at' 51 hmv) mixed_ok (tr:=?_) (s':=?_) ?_ ?_ ?_);rotate_left 2;(focus ((with_reducible refine QW ?_);simp only [Zg,Zd,seval,if_true,if_false,reduceCtorEq,Nat.reduceEqDiff,i1,i2,j1,j2,u1,u2,hg,hmg,hpg,hag,hYl,hLm,hpm,ham,p1,p2,hwu,Int.toNat_natCast];with_reducible rfl));focus ((with_reducible refine QK ?_);simp only [Zk];kernel_rfl)))
       refine roundK.on (u + 1) ⟨hup,by omega⟩ ?_
       rw [hst2]
       (repeat' (first|with_reducible refine Qn|((with_reducible refine Qr ?_ ?_);focus (first|with_reducible rfl|(simp only [Zz,Nat.reduceBEq];done)|rfl))|((with_reducible refine Qj (o':=?_) ?_ ?_ ?_);rotate_left 1;focus rfl)|((with_reducible refine Qw ?_ ?_);(focus (first|with_reducible rfl|(simp only [Zv];done)));focus (first|exact id|exact (fun h => nomatch h)|exact (fun _ => rfl)))))
      ·have u1:((u:Int) < (ps.length:Int)) = False:=eq_false (by omega)
       obtain rfl:u = ps.length:=by omega
       repeat' (first|with_reducible (first|refine Q1 ?_|refine Q2 ?_|refine Q3 ?_|refine Q4 ?_|refine Q5 ?_|refine Q6 ?_|refine Q7 ?_|refine Q8 ?_|refine Q9 ?_|refine Qa ?_|refine Qb ?_|refine Qc ?_|refine Qd ?_|refine Qe ?_|refine Qf ?_)|((with_reducible refine Qo ?_ ?_);focus rfl)|((with_reducible first|refine QT 13 (l:=?_) ?_ ?_|refine QF 13 (l:=?_) ?_ ?_);rotate_left 1;focus (simp only [Zu,Nat.reduceSub,Nat.reduceBEq];with_reducible rfl))|((with_reducible first|refine QS (cfg_ok 93) Tab.none (s':=?_) ?_ ?_|refine QC (b:=?_) ?_ ?_);rotate_left 1;focus ((with_reducible refine QW ?_);simp only [Zg,seval,if_true,if_false,reduceCtorEq,Nat.reduceEqDiff,i1,i2,j1,j2,u1,hg,hmg,hYl,hLm,hpm,Int.toNat_natCast];with_reducible rfl))|((with_reducible refine QD (cfg_ok 93) Tab.none mixed_ok (tr:=?_) (s':=?_) ?_ ?_ ?_);rotate_left 2;(focus ((with_reducible refine QW ?_);simp only [Zg,Zd,seval,if_true,if_false,reduceCtorEq,Nat.reduceEqDiff,i1,i2,j1,j2,u1,hg,hmg,hYl,hLm,hpm,Int.toNat_natCast];with_reducible rfl));focus ((with_reducible refine QK ?_);simp only [Zk];kernel_rfl)))
       refine roundK.out () trivial ?_
       rw [List.take_length,cutV_eq]
       (repeat' (first|with_reducible refine Qn|((with_reducible refine Qr ?_ ?_);focus (first|with_reducible rfl|(simp only [Zz,Nat.reduceBEq];done)|rfl))|((with_reducible refine Qj (o':=?_) ?_ ?_ ?_);rotate_left 1;focus rfl)|((with_reducible refine Qw ?_ ?_);(focus (first|with_reducible rfl|(simp only [Zv];done)));focus (first|exact id|exact (fun h => nomatch h)|exact (fun _ => rfl)))))
     ·rintro _ _
      have hcv:=cutV_bd a b (c,ps,(q:Int))
      have hadd:=a_l01Add S (cutV a b (c,ps,(q:Int))) (by omega)
      simp only [eI] at hadd
      repeat' (first|with_reducible (first|refine Q1 ?_|refine Q2 ?_|refine Q3 ?_|refine Q4 ?_|refine Q5 ?_|refine Q6 ?_|refine Q7 ?_|refine Q8 ?_|refine Q9 ?_|refine Qa ?_|refine Qb ?_|refine Qc ?_|refine Qd ?_|refine Qe ?_|refine Qf ?_)|((with_reducible refine Qo ?_ ?_);focus rfl)|((with_reducible first|refine QT 13 (l:=?_) ?_ ?_|refine QF 13 (l:=?_) ?_ ?_);rotate_left 1;focus (simp only [Zu,Nat.reduceSub,Nat.reduceBEq];with_reducible rfl))|((with_reducible first|refine QS (cfg_ok 93) (Tab.none.at' 109 hadd) (s':=?_) ?_ ?_|refine QC (b:=?_) ?_ ?_);rotate_left 1;focus ((with_reducible refine QW ?_);simp only [Zg,seval,if_true,if_false,reduceCtorEq,Nat.reduceEqDiff,hwj];with_reducible rfl))|((with_reducible refine QD (cfg_ok 93) (Tab.none.at' 109 hadd) mixed_ok (tr:=?_) (s':=?_) ?_ ?_ ?_);rotate_left 2;(focus ((with_reducible refine QW ?_);simp only [Zg,Zd,seval,if_true,if_false,reduceCtorEq,Nat.reduceEqDiff,hwj];with_reducible rfl));focus ((with_reducible refine QK ?_);simp only [Zk];kernel_rfl)))
      refine roundK.on (j + 1) ⟨hjL,by omega⟩ ?_
      rw [hst]
      (repeat' (first|with_reducible refine Qn|((with_reducible refine Qr ?_ ?_);focus (first|with_reducible rfl|(simp only [Zz,Nat.reduceBEq];done)|rfl))|((with_reducible refine Qj (o':=?_) ?_ ?_ ?_);rotate_left 1;focus rfl)|((with_reducible refine Qw ?_ ?_);(focus (first|with_reducible rfl|(simp only [Zv];done)));focus (first|exact id|exact (fun h => nomatch h)|exact (fun _ => rfl)))))
    ·have j1:((j:Int) < (L.length:Int)) = False:=eq_false (by omega)
     obtain rfl:j = L.length:=by omega
     repeat' (first|with_reducible (first|refine Q1 ?_|refine Q2 ?_|refine Q3 ?_|refine Q4 ?_|refine Q5 ?_|refine Q6 ?_|refine Q7 ?_|refine Q8 ?_|refine Q9 ?_|refine Qa ?_|refine Qb ?_|refine Qc ?_|refine Qd ?_|refine Qe ?_|refine Qf ?_)|((with_reducible refine Qo ?_ ?_);focus rfl)|((with_reducible first|refine QT 13 (l:=?_) ?_ ?_|refine QF 13 (l:=?_) ?_ ?_);rotate_left 1;focus (simp only [Zu,Nat.reduceSub,Nat.reduceBEq];with_reducible rfl))|((with_reducible first|refine QS (cfg_ok 93) Tab.none (s':=?_) ?_ ?_|refine QC (b:=?_) ?_ ?_);rotate_left 1;focus ((with_reducible refine QW ?_);simp only [Zg,seval,if_true,if_false,reduceCtorEq,Nat.reduceEqDiff,i1,i2,j1,hg,hYl,hLm,Int.toNat_natCast];with_reducible rfl))|((with_reducible refine QD (cfg_ok 93) Tab.none mixed_ok (tr:=?_) (s':=?_) ?_ ?_ ?_);rotate_left 2;(focus ((with_reducible refine QW ?_);simp only [Zg,Zd,seval,if_true,if_false,reduceCtorEq,Nat.reduceEqDiff,i1,i2,j1,hg,hYl,hLm,Int.toNat_natCast];with_reducible rfl));focus ((with_reducible refine QK ?_);simp only [Zk];kernel_rfl)))
     refine roundK.out () trivial ?_
     rw [List.take_length]
     (repeat' (first|with_reducible refine Qn|((with_reducible refine Qr ?_ ?_);focus (first|with_reducible rfl|(simp only [Zz,Nat.reduceBEq];done)|rfl))|((with_reducible refine Qj (o':=?_) ?_ ?_ ?_);rotate_left 1;focus rfl)|((with_reducible refine Qw ?_ ?_);(focus (first|with_reducible rfl|(simp only [Zv];done)));focus (first|exact id|exact (fun h => nomatch h)|exact (fun _ => rfl)))))
   ·rintro _ _
    have q1:=big_le (n:=i + 1 + 1) (by omega)
    have q2:=big_mul (n:=i + 1 + 1) (c:=8) (by omega) (by omega)
    have q3:(i ≤ 140737488355326) = True:=eq_true (by omega)
    repeat' (first|with_reducible (first|refine Q1 ?_|refine Q2 ?_|refine Q3 ?_|refine Q4 ?_|refine Q5 ?_|refine Q6 ?_|refine Q7 ?_|refine Q8 ?_|refine Q9 ?_|refine Qa ?_|refine Qb ?_|refine Qc ?_|refine Qd ?_|refine Qe ?_|refine Qf ?_)|((with_reducible refine Qo ?_ ?_);focus rfl)|((with_reducible first|refine QT 13 (l:=?_) ?_ ?_|refine QF 13 (l:=?_) ?_ ?_);rotate_left 1;focus (simp only [Zu,Nat.reduceSub,Nat.reduceBEq];with_reducible rfl))|((with_reducible first|refine QS (cfg_ok 93) Tab.none (s':=?_) ?_ ?_|refine QC (b:=?_) ?_ ?_);rotate_left 1;focus ((with_reducible refine QW ?_);simp only [Zg,seval,if_true,if_false,reduceCtorEq,Nat.reduceEqDiff,hRm,q1,q2,q3,hw];with_reducible rfl))|((with_reducible refine QD (cfg_ok 93) Tab.none mixed_ok (tr:=?_) (s':=?_) ?_ ?_ ?_);rotate_left 2;(focus ((with_reducible refine QW ?_);simp only [Zg,Zd,seval,if_true,if_false,reduceCtorEq,Nat.reduceEqDiff,hRm,q1,q2,q3,hw];with_reducible rfl));focus ((with_reducible refine QK ?_);simp only [Zk];kernel_rfl)))
    refine roundK.on (i + 1) ⟨by omega,by omega⟩ ?_
    rw [← hat,List.map_append]
    (repeat' (first|with_reducible refine Qn|((with_reducible refine Qr ?_ ?_);focus (first|with_reducible rfl|(simp only [Zz,Nat.reduceBEq,List.map_cons,List.map_nil,eI,rowV];done)|rfl))|((with_reducible refine Qj (o':=?_) ?_ ?_ ?_);rotate_left 1;focus rfl)|((with_reducible refine Qw ?_ ?_);(focus (first|with_reducible rfl|(simp only [Zv,List.map_cons,List.map_nil,eI,rowV];done)));focus (first|exact id|exact (fun h => nomatch h)|exact (fun _ => rfl)))))
  ·have i1:(((i + 1:Nat):Int) < ((n + 1:Nat):Int)) = False:=eq_false (by omega)
   obtain rfl:i = n:=by omega
   repeat' (first|with_reducible (first|refine Q1 ?_|refine Q2 ?_|refine Q3 ?_|refine Q4 ?_|refine Q5 ?_|refine Q6 ?_|refine Q7 ?_|refine Q8 ?_|refine Q9 ?_|refine Qa ?_|refine Qb ?_|refine Qc ?_|refine Qd ?_|refine Qe ?_|refine Qf ?_)|((with_reducible refine Qo ?_ ?_);focus rfl)|((with_reducible first|refine QT 13 (l:=?_) ?_ ?_|refine QF 13 (l:=?_) ?_ ?_);rotate_left 1;focus (simp only [Zu,Nat.reduceSub,Nat.reduceBEq];with_reducible rfl))|((with_reducible first|refine QS (cfg_ok 93) Tab.none (s':=?_) ?_ ?_|refine QC (b:=?_) ?_ ?_);rotate_left 1;focus ((with_reducible refine QW ?_);simp only [Zg,seval,if_true,if_false,reduceCtorEq,Nat.reduceEqDiff,i1,hYl];with_reducible rfl))|((with_reducible refine QD (cfg_ok 93) Tab.none mixed_ok (tr:=?_) (s':=?_) ?_ ?_ ?_);rotate_left 2;(focus ((with_reducible refine QW ?_);simp only [Zg,Zd,seval,if_true,if_false,reduceCtorEq,Nat.reduceEqDiff,i1,hYl];with_reducible rfl));focus ((with_reducible refine QK ?_);simp only [Zk];kernel_rfl)))
   refine roundK.out () trivial ?_
   rw [List.take_of_length_le (by omega)]
   (repeat' (first|with_reducible refine Qn|((with_reducible refine Qr ?_ ?_);focus (first|with_reducible rfl|(simp only [Zz,Nat.reduceBEq];done)|rfl))|((with_reducible refine Qj (o':=?_) ?_ ?_ ?_);rotate_left 1;focus rfl)|((with_reducible refine Qw ?_ ?_);(focus (first|with_reducible rfl|(simp only [Zv];done)));focus (first|exact id|exact (fun h => nomatch h)|exact (fun _ => rfl)))))
   all_goals exact ⟨rfl,rfl,id⟩
 ·rintro _ _
  repeat' (first|with_reducible (first|refine Q1 ?_|refine Q2 ?_|refine Q3 ?_|refine Q4 ?_|refine Q5 ?_|refine Q6 ?_|refine Q7 ?_|refine Q8 ?_|refine Q9 ?_|refine Qa ?_|refine Qb ?_|refine Qc ?_|refine Qd ?_|refine Qe ?_|refine Qf ?_)|((with_reducible refine Qo ?_ ?_);focus rfl)|((with_reducible first|refine QT 13 (l:=?_) ?_ ?_|refine QF 13 (l:=?_) ?_ ?_);rotate_left 1;focus (simp only [Zu,Nat.reduceSub,Nat.reduceBEq];with_reducible rfl))|((with_reducible first|refine QS (cfg_ok 93) Tab.none (s':=?_) ?_ ?_|refine QC (b:=?_) ?_ ?_);rotate_left 1;focus ((with_reducible refine QW ?_);simp only [Zg,seval,if_true,if_false,reduceCtorEq,Nat.reduceEqDiff];with_reducible rfl))|((with_reducible refine QD (cfg_ok 93) Tab.none mixed_ok (tr:=?_) (s':=?_) ?_ ?_ ?_);rotate_left 2;(focus ((with_reducible refine QW ?_);simp only [Zg,Zd,seval,if_true,if_false,reduceCtorEq,Nat.reduceEqDiff];with_reducible rfl));focus ((with_reducible refine QK ?_);simp only [Zk];kernel_rfl)))
  (refine Ends.mk (by simp) (rs:=?_) (ks:=?_) hres hrts ?_ ?_ ?_;rotate_left 2;(focus (simp only [Ze,Zg,seval,if_true,if_false,reduceCtorEq,Nat.reduceEqDiff];with_reducible rfl));(focus simp);focus (first|with_reducible rfl|(simp only [Zv];done)))
end Go.Proofs.YtfhmonacgmakbaaGreat
namespace Go.Proofs.YtfhmonacgmakbaaGreat
open Go.RowKit
theorem isMap_get0 {a:List Int} (h:isMap a = true):(a.map eI).length = 38∧(a.map eI)[0]? = some [.int (a.getD 0 0)]:=by
 obtain ⟨h1,_⟩:=isMap_bd h
 exact ⟨by rw [List.length_map,h1],by rw [map_get (by omega),getD_at (by omega)];rfl⟩
noncomputable def TSm:Tab Tryz.prog:=Tab.none.add 42 (tab1 codL fun x => some [.val (.bool (isMap x))]) (tab1_ok fun x rs h => by cases h;exact a_spec_l07Is x)
def cdM (a b:List Int):Int:=if isMap a = true∧isMap b = true then (if a.getD 0 0 = 1 then 0 else 5) else 1
theorem a_l07Code (a b:List Int):AFn Tryz.prog 57 [eL a,eL b] (· = [.val (.int (cdM a b))]):=by
 unfold cdM
 by_cases h1:isMap a = true
 rotate_left
 ·have h1':isMap a = false:=by simpa using h1
  rw [if_neg (fun h => h1 h.1)]
  refine AFn.of_runs (cfg_ok 19) Tryz.func57 rfl rfl rfl (by simp only [List.length_cons,List.length_nil];decide) ?_
  have hres:Tryz.f57.results.toList = [.tmp 4]:=rfl
  have hrts:Tryz.f57.resultTypes.toList = [2]:=rfl
  simp only [argRegs,argAV1,eL,eI,eLL,eB,Nat.zero_add,Nat.reduceAdd]
  intro M
  refine RunK.of ?_
  repeat' (first|with_reducible (first|refine Q1 ?_|refine Q2 ?_|refine Q3 ?_|refine Q4 ?_|refine Q5 ?_|refine Q6 ?_|refine Q7 ?_|refine Q8 ?_|refine Q9 ?_|refine Qa ?_|refine Qb ?_|refine Qc ?_|refine Qd ?_|refine Qe ?_|refine Qf ?_)|((with_reducible refine Qo ?_ ?_);focus rfl)|((with_reducible first|refine QT 5 (l:=?_) ?_ ?_|refine QF 5 (l:=?_) ?_ ?_);rotate_left 1;focus (simp only [Zu,Nat.reduceSub,Nat.reduceBEq];with_reducible rfl))|((with_reducible first|refine QS (cfg_ok 19) TSm (s':=?_) ?_ ?_|refine QC (b:=?_) ?_ ?_);rotate_left 1;focus ((with_reducible refine QW ?_);simp only [Zg,seval,if_true,if_false,reduceCtorEq,Nat.reduceEqDiff,TSm,TSm,codL_d,h1'];with_reducible rfl)))
  (refine Ends.mk (by simp) (rs:=?_) (ks:=?_) hres hrts ?_ ?_ ?_;rotate_left 2;(focus (simp only [Ze,Zg,seval,if_true,if_false,reduceCtorEq,Nat.reduceEqDiff];with_reducible rfl));(focus simp);focus (first|with_reducible rfl|(simp only [Zv];done)))
 by_cases h2:isMap b = true
 rotate_left
 ·have h2':isMap b = false:=by simpa using h2
  rw [if_neg (fun h => h2 h.2)]
  refine AFn.of_runs (cfg_ok 19) Tryz.func57 rfl rfl rfl (by simp only [List.length_cons,List.length_nil];decide) ?_
  have hres:Tryz.f57.results.toList = [.tmp 4]:=rfl
  have hrts:Tryz.f57.resultTypes.toList = [2]:=rfl
  simp only [argRegs,argAV1,eL,eI,eLL,eB,Nat.zero_add,Nat.reduceAdd]
  intro M
  refine RunK.of ?_
  repeat' (first|with_reducible (first|refine Q1 ?_|refine Q2 ?_|refine Q3 ?_|refine Q4 ?_|refine Q5 ?_|refine Q6 ?_|refine Q7 ?_|refine Q8 ?_|refine Q9 ?_|refine Qa ?_|refine Qb ?_|refine Qc ?_|refine Qd ?_|refine Qe ?_|refine Qf ?_)|((with_reducible refine Qo ?_ ?_);focus rfl)|((with_reducible first|refine QT 5 (l:=?_) ?_ ?_|refine QF 5 (l:=?_) ?_ ?_);rotate_left 1;focus (simp only [Zu,Nat.reduceSub,Nat.reduceBEq];with_reducible rfl))|((with_reducible first|refine QS (cfg_ok 19) TSm (s':=?_) ?_ ?_|refine QC (b:=?_) ?_ ?_);rotate_left 1;focus ((with_reducible refine QW ?_);simp only [Zg,seval,if_true,if_false,reduceCtorEq,Nat.reduceEqDiff,TSm,TSm,codL_d,h1,h2'];with_reducible rfl)))
  (refine Ends.mk (by simp) (rs:=?_) (ks:=?_) hres hrts ?_ ?_ ?_;rotate_left 2;(focus (simp only [Ze,Zg,seval,if_true,if_false,reduceCtorEq,Nat.reduceEqDiff];with_reducible rfl));(focus simp);focus (first|with_reducible rfl|(simp only [Zv];done)))
 rw [if_pos ⟨h1,h2⟩]
 obtain ⟨g1,g2⟩:=isMap_get0 h1
 by_cases h3:a.getD 0 0 = 1
 ·have i1:(a.getD 0 0 != 1) = false:=by simpa using h3
  rw [if_pos h3]
  refine AFn.of_runs (cfg_ok 19) Tryz.func57 rfl rfl rfl (by simp only [List.length_cons,List.length_nil];decide) ?_
  have hres:Tryz.f57.results.toList = [.tmp 4]:=rfl
  have hrts:Tryz.f57.resultTypes.toList = [2]:=rfl
  simp only [argRegs,argAV1,eL,eI,eLL,eB,Nat.zero_add,Nat.reduceAdd]
  intro M
  refine RunK.of ?_
  repeat' (first|with_reducible (first|refine Q1 ?_|refine Q2 ?_|refine Q3 ?_|refine Q4 ?_|refine Q5 ?_|refine Q6 ?_|refine Q7 ?_|refine Q8 ?_|refine Q9 ?_|refine Qa ?_|refine Qb ?_|refine Qc ?_|refine Qd ?_|refine Qe ?_|refine Qf ?_)|((with_reducible refine Qo ?_ ?_);focus rfl)|((with_reducible first|refine QT 5 (l:=?_) ?_ ?_|refine QF 5 (l:=?_) ?_ ?_);rotate_left 1;focus (simp only [Zu,Nat.reduceSub,Nat.reduceBEq];with_reducible rfl))|((with_reducible first|refine QS (cfg_ok 19) TSm (s':=?_) ?_ ?_|refine QC (b:=?_) ?_ ?_);rotate_left 1;focus ((with_reducible refine QW ?_);simp only [Zg,seval,if_true,if_false,reduceCtorEq,Nat.reduceEqDiff,TSm,TSm,codL_d,h1,h2,g1,g2,i1,Int.toNat_zero];with_reducible rfl)))
  (refine Ends.mk (by simp) (rs:=?_) (ks:=?_) hres hrts ?_ ?_ ?_;rotate_left 2;(focus (simp only [Ze,Zg,seval,if_true,if_false,reduceCtorEq,Nat.reduceEqDiff];with_reducible rfl));(focus simp);focus (first|with_reducible rfl|(simp only [Zv];done)))
 ·have i1:(a.getD 0 0 != 1) = true:=by simpa using h3
  rw [if_neg h3]
  refine AFn.of_runs (cfg_ok 19) Tryz.func57 rfl rfl rfl (by simp only [List.length_cons,List.length_nil];decide) ?_
  have hres:Tryz.f57.results.toList = [.tmp 4]:=rfl
  have hrts:Tryz.f57.resultTypes.toList = [2]:=rfl
  simp only [argRegs,argAV1,eL,eI,eLL,eB,Nat.zero_add,Nat.reduceAdd]
  intro M
  refine RunK.of ?_
  repeat' (first|with_reducible (first|refine Q1 ?_|refine Q2 ?_|refine Q3 ?_|refine Q4 ?_|refine Q5 ?_|refine Q6 ?_|refine Q7 ?_|refine Q8 ?_|refine Q9 ?_|refine Qa ?_|refine Qb ?_|refine Qc ?_|refine Qd ?_|refine Qe ?_|refine Qf ?_)|((with_reducible refine Qo ?_ ?_);focus rfl)|((with_reducible first|refine QT 5 (l:=?_) ?_ ?_|refine QF 5 (l:=?_) ?_ ?_);rotate_left 1;focus (simp only [Zu,Nat.reduceSub,Nat.reduceBEq];with_reducible rfl))|((with_reducible first|refine QS (cfg_ok 19) TSm (s':=?_) ?_ ?_|refine QC (b:=?_) ?_ ?_);rotate_left 1;focus ((with_reducible refine QW ?_);simp only [Zg,seval,if_true,if_false,reduceCtorEq,Nat.reduceEqDiff,TSm,TSm,codL_d,h1,h2,g1,g2,i1,Int.toNat_zero];with_reducible rfl)))
  (refine Ends.mk (by simp) (rs:=?_) (ks:=?_) hres hrts ?_ ?_ ?_;rotate_left 2;(focus (simp only [Ze,Zg,seval,if_true,if_false,reduceCtorEq,Nat.reduceEqDiff];with_reducible rfl));(focus simp);focus (first|with_reducible rfl|(simp only [Zv];done)))
end Go.Proofs.YtfhmonacgmakbaaGreat
