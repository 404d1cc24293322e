/- Lemmas (16). -/
import Derived.Test.YtfhmonacgmakbaaGreatZD6
import Derived.Test.YtfhmonacgmakbaaGreatZD15
set_option linter.unusedSimpArgs false
set_option linter.unusedVariables false
namespace Go.Proofs.YtfhmonacgmakbaaGreat
open Go.RowKit
theorem cvM_map {a b:List Int} (hb:isMap b = true):isMap (cvM a b) = true:=by
 obtain ⟨hbl,hbb⟩:=isMap_bd hb
 refine isMap_of ?_ fun x hx => ?_
 ·unfold cvM;rw [List.length_cons,List.length_map,T6_len]
 ·unfold cvM at hx
  rcases List.mem_cons.1 hx with rfl|hx
  ·exact hbb 0
  ·obtain ⟨t,_,rfl⟩:=List.mem_map.1 hx
   exact mP_bd _
theorem unit_map:isMap unitMap = true:=by decide
def pwM (b:List Int):Nat→List Int
 | 0 => unitMap
 | n + 1 => cvM (pwM b n) b
theorem pwM_map {b:List Int} (hb:isMap b = true):∀ n,isMap (pwM b n) = true
 | 0 => unit_map
 | n + 1 => cvM_map hb
theorem pwM_one {b:List Int} (h1:b.getD 0 0 = 1):∀ n,(pwM b n).getD 0 0 = 1
 | 0 => rfl
 | n + 1 => h1
theorem pwM_len {b:List Int} (hb:isMap b = true) (n:Nat):((pwM b n).map eI).length = 38:=by rw [List.length_map,(isMap_bd (pwM_map hb n)).1]
def pwB (a:List Int) (k:Int):List Int:=if k < 0 then invM a else a
def pwK (a:List Int) (k:Int):List Int:=pwM (pwB a k) k.natAbs
def pwOf (a:List Int) (k:Int):List Int × Int:=if isMap a = true then (if inR k (-100) 100 = true then (if a.getD 0 0 = 1 then (pwK a k,0) else ([],5)) else ([],2)) else ([],1)
theorem pwB_map {a:List Int} (ha:isMap a = true) (k:Int):isMap (pwB a k) = true:=by
 unfold pwB;split
 ·exact invM_map a
 ·exact ha
theorem pwB_one {a:List Int} (h1:a.getD 0 0 = 1) (k:Int):(pwB a k).getD 0 0 = 1:=by
 unfold pwB;split
 ·exact invM_one a
 ·exact h1
theorem pwOf_cnt (a:List Int) (k:Int):cnt_I (pwOf a k).1 ≤ 1048576:=by
 unfold pwOf
 split
 ·rename_i h
  split
  ·split
   ·show (pwK a k).length ≤ 1048576
    unfold pwK
    rw [(isMap_bd (pwM_map (pwB_map h k) _)).1];decide
   ·simp [cnt_I]
  ·simp [cnt_I]
 ·simp [cnt_I]
theorem inR_bd {k a b:Int} (h:inR k a b = true):a ≤ k∧k ≤ b:=by
 unfold inR at h
 simpa using h
theorem a_pwConv (b:List Int) (hb:isMap b = true) (h1:b.getD 0 0 = 1) (n:Nat):AFn Tryz.prog 58 [[.sl 1 ([.sl 3 []] :: (T6.map cutsM).map eMs)],[.sl 1 ((pwM b n).map eI)],[.sl 1 (b.map eI)]] (· = [.own 1 ((pwM b (n + 1)).map eI) true]):=by
 have hr:=a_l07Conv 37 (Nat.le_refl _) (pwM b n) b (pwM_map hb n) hb
 have ht:T6.take 37 = T6:=List.take_of_length_le (by rw [T6_len];omega)
 rw [ht,pwM_one h1,h1] at hr
 have e:(mP (1 * 1) :: T6.map fun t => rowV (pwM b n) b (cutsM t)) = pwM b (n + 1):=by
  show _ = b.getD 0 0 :: _
  rw [h1];rfl
 rw [e] at hr
 exact hr
set_option maxRecDepth 20000 in
set_option maxHeartbeats 16000000 in
theorem a_l07Power (a:List Int) (ha:isMap a = true) (h1:a.getD 0 0 = 1) (k:Int) (hk:-100 ≤ k∧k ≤ 100):AFn Tryz.prog 65 [[.sl 1 ([.sl 3 []] :: (T6.map cutsM).map eMs)],eL a,eI k] (· = [.own 1 ((pwK a k).map eI) true]):=by
 have hu:=a_l07Unit
 have hul:(unitMap.map eI).length = 38:=rfl
 have hbm:=pwB_map ha k
 have hb1:=pwB_one h1 k
 have hcv:=a_pwConv (pwB a k) hbm hb1
 have hpl:=pwM_len hbm
 have hinv:=a_l07Inverse a ha
 rw [invM_J] at hinv
 simp only [eL] at hinv
 obtain ⟨Y,hY⟩:∃ Y,Y = [D.sl 3 []] :: (T6.map cutsM).map eMs:=⟨_,rfl⟩
 rw [← hY] at hcv hinv ⊢
 obtain ⟨n,hn⟩:∃ n,n = k.natAbs:=⟨_,rfl⟩
 have hpk:pwK a k = pwM (pwB a k) n:=by rw [hn];rfl
 rw [hpk]
 by_cases hneg:k < 0
 ·have e:pwB a k = invM a:=if_pos hneg
  have i0:(k < 0) = True:=eq_true hneg
  have hwn:w64 (0 - k) = (n:Int):=by rw [w64_eq (by omega)];omega
  have hil:((invM a).map eI).length = 38:=by rw [List.length_map,(isMap_bd (invM_map a)).1]
  rw [e] at hbm hb1 hcv hpl ⊢
  refine AFn.of_runs (cfg_ok 25) Tryz.func65 rfl rfl rfl (by simp only [List.length_cons,List.length_nil];decide) ?_
  have hres:Tryz.f65.results.toList = [.tmp 6]:=rfl
  have hrts:Tryz.f65.resultTypes.toList = [22]:=rfl
  simp only [argRegs,argAV1,eL,eI,eLL,eB,Nat.zero_add,Nat.reduceAdd]
  intro M
  refine RunK.of ?_
  repeat' (first|with_reducible (first|refine Q1 ?_|refine Q2 ?_|refine Q3 ?_|refine Q4 ?_|refine Q5 ?_|refine Q6 ?_|refine Q7 ?_|refine Q8 ?_|refine Q9 ?_|refine Qa ?_|refine Qb ?_|refine Qc ?_|refine Qd ?_|refine Qe ?_|refine Qf ?_)|((with_reducible refine Qo ?_ ?_);focus rfl)|((with_reducible first|refine QT 8 (l:=?_) ?_ ?_|refine QF 8 (l:=?_) ?_ ?_);rotate_left 1;focus (simp only [Zu,Nat.reduceSub,Nat.reduceBEq];with_reducible rfl))|((with_reducible first|refine QS (cfg_ok 25) ((Tab.none.at' 111 hu).at' 61 hinv) (s':=?_) ?_ ?_|refine QC (b:=?_) ?_ ?_);rotate_left 1;focus ((with_reducible refine QW ?_);simp only [Zg,seval,if_true,if_false,reduceCtorEq,Nat.reduceEqDiff,i0,hwn,hul,hil];with_reducible rfl)))
  refine RunK.frz 1 ?_
  refine RunK.fits (s0:=⟨[(0,.c (.val (.sl 1 Y))),(1,.c (.val (.sl 1 ((invM a).map eI)))),(2,.c (.val (.int n))),(7,.c (.own 7 38))],[(7,.row 1 (unitMap.map eI) true)]⟩) ?_ ?_
  ·(repeat' (first|with_reducible refine Qn|((with_reducible refine Qr ?_ ?_);focus (first|with_reducible rfl|(simp only [Zz,Nat.reduceBEq,St.frz,frzR,frzH,look,AV.frz,AC.frz,Obj.frz,drop];done)|rfl))|((with_reducible refine Qj (o':=?_) ?_ ?_ ?_);rotate_left 1;focus rfl)|((with_reducible refine Qw ?_ ?_);(focus (first|with_reducible rfl|(simp only [Zv,St.frz,frzR,frzH,look,AV.frz,AC.frz,Obj.frz,drop];done)));focus (first|exact id|exact (fun h => nomatch h)|exact (fun _ => rfl)))))
   all_goals first|exact ⟨rfl,rfl⟩|exact ⟨rfl,rfl,id⟩
  refine RunK.loop (β:=Nat) (γ:=Unit) (fun i => ⟨[(0,.c (.val (.sl 1 Y))),(1,.c (.val (.sl 1 ((invM a).map eI)))),(2,.c (.val (.int ((n - i:Nat):Int)))),(7,.c (.own 7 38))],[(7,.row 1 ((pwM (invM a) i).map eI) true)]⟩) (fun i => i ≤ n) (fun i => n - i)
   (fun _ => ⟨[(7,.c (.own 7 38))],[(7,.row 1 ((pwM (invM a) n).map eI) true)]⟩) (fun _ => True) 0 (Nat.zero_le _) ?_ ?_ ?_
  ·(repeat' (first|with_reducible refine Qn|((with_reducible refine Qr ?_ ?_);focus (first|with_reducible rfl|(simp only [Zz,Nat.reduceBEq,Nat.sub_zero,show pwM (invM a) 0 = unitMap from rfl];done)|rfl))|((with_reducible refine Qj (o':=?_) ?_ ?_ ?_);rotate_left 1;focus rfl)|((with_reducible refine Qw ?_ ?_);(focus (first|with_reducible rfl|(simp only [Zv,Nat.sub_zero,show pwM (invM a) 0 = unitMap from rfl];done)));focus (first|exact id|exact (fun h => nomatch h)|exact (fun _ => rfl)))))
  ·intro i hi
   have hi:i ≤ n:=hi
   by_cases hin:i < n
   ·have i1:(((n - i:Nat):Int) > 0) = True:=eq_true (by omega)
    have hw:w64 (((n - i:Nat):Int) - 1) = ((n - (i + 1):Nat):Int):=by rw [w64_eq (by omega)];omega
    have hci:=hcv i
    have hpi:=hpl i
    have hpj:=hpl (i + 1)
    repeat' (first|with_reducible (first|refine Q1 ?_|refine Q2 ?_|refine Q3 ?_|refine Q4 ?_|refine Q5 ?_|refine Q6 ?_|refine Q7 ?_|refine Q8 ?_|refine Q9 ?_|refine Qa ?_|refine Qb ?_|refine Qc ?_|refine Qd ?_|refine Qe ?_|refine Qf ?_)|((with_reducible refine Qo ?_ ?_);focus rfl)|((with_reducible first|refine QT 8 (l:=?_) ?_ ?_|refine QF 8 (l:=?_) ?_ ?_);rotate_left 1;focus (simp only [Zu,Nat.reduceSub,Nat.reduceBEq];with_reducible rfl))|((with_reducible first|refine QS (cfg_ok 25) (Tab.none.at' 58 hci) (s':=?_) ?_ ?_|refine QC (b:=?_) ?_ ?_);rotate_left 1;focus ((with_reducible refine QW ?_);simp only [Zg,seval,if_true,if_false,reduceCtorEq,Nat.reduceEqDiff,i1,hw,hpi,hpj];with_reducible rfl)))
    refine roundK.on (i + 1) ⟨hin,by omega⟩ ?_
    (repeat' (first|with_reducible refine Qn|((with_reducible refine Qr ?_ ?_);focus (first|with_reducible rfl|(simp only [Zz,Nat.reduceBEq];done)|rfl))|((with_reducible refine Qj (o':=?_) ?_ ?_ ?_);rotate_left 1;focus rfl)|((with_reducible refine Qw ?_ ?_);(focus (first|with_reducible rfl|(simp only [Zv];done)));focus (first|exact id|exact (fun h => nomatch h)|exact (fun _ => rfl)))))
   ·obtain rfl:i = n:=by omega
    have i1:(((i - i:Nat):Int) > 0) = False:=eq_false (by omega)
    repeat' (first|with_reducible (first|refine Q1 ?_|refine Q2 ?_|refine Q3 ?_|refine Q4 ?_|refine Q5 ?_|refine Q6 ?_|refine Q7 ?_|refine Q8 ?_|refine Q9 ?_|refine Qa ?_|refine Qb ?_|refine Qc ?_|refine Qd ?_|refine Qe ?_|refine Qf ?_)|((with_reducible refine Qo ?_ ?_);focus rfl)|((with_reducible first|refine QT 8 (l:=?_) ?_ ?_|refine QF 8 (l:=?_) ?_ ?_);rotate_left 1;focus (simp only [Zu,Nat.reduceSub,Nat.reduceBEq];with_reducible rfl))|((with_reducible first|refine QS (cfg_ok 25) Tab.none (s':=?_) ?_ ?_|refine QC (b:=?_) ?_ ?_);rotate_left 1;focus ((with_reducible refine QW ?_);simp only [Zg,seval,if_true,if_false,reduceCtorEq,Nat.reduceEqDiff,i1];with_reducible rfl)))
    refine roundK.out () trivial ?_
    (repeat' (first|with_reducible refine Qn|((with_reducible refine Qr ?_ ?_);focus (first|with_reducible rfl|(simp only [Zz,Nat.reduceBEq];done)|rfl))|((with_reducible refine Qj (o':=?_) ?_ ?_ ?_);rotate_left 1;focus rfl)|((with_reducible refine Qw ?_ ?_);(focus (first|with_reducible rfl|(simp only [Zv];done)));focus (first|exact id|exact (fun h => nomatch h)|exact (fun _ => rfl)))))
  ·rintro _ _
   repeat' (first|with_reducible (first|refine Q1 ?_|refine Q2 ?_|refine Q3 ?_|refine Q4 ?_|refine Q5 ?_|refine Q6 ?_|refine Q7 ?_|refine Q8 ?_|refine Q9 ?_|refine Qa ?_|refine Qb ?_|refine Qc ?_|refine Qd ?_|refine Qe ?_|refine Qf ?_)|((with_reducible refine Qo ?_ ?_);focus rfl)|((with_reducible first|refine QT 8 (l:=?_) ?_ ?_|refine QF 8 (l:=?_) ?_ ?_);rotate_left 1;focus (simp only [Zu,Nat.reduceSub,Nat.reduceBEq];with_reducible rfl))|((with_reducible first|refine QS (cfg_ok 25) Tab.none (s':=?_) ?_ ?_|refine QC (b:=?_) ?_ ?_);rotate_left 1;focus ((with_reducible refine QW ?_);simp only [Zg,seval,if_true,if_false,reduceCtorEq,Nat.reduceEqDiff];with_reducible rfl)))
   (refine Ends.mk (by simp) (rs:=?_) (ks:=?_) hres hrts ?_ ?_ ?_;rotate_left 2;(focus (simp only [Ze,Zg,seval,if_true,if_false,reduceCtorEq,Nat.reduceEqDiff];with_reducible rfl));(focus simp);focus (first|with_reducible rfl|(simp only [Zv];done)))
 ·have e:pwB a k = a:=if_neg hneg
  have i0:(k < 0) = False:=eq_false hneg
  have hkn:k = (n:Int):=by omega
  rw [e] at hbm hb1 hcv hpl ⊢
  subst hkn
  refine AFn.of_runs (cfg_ok 25) Tryz.func65 rfl rfl rfl (by simp only [List.length_cons,List.length_nil];decide) ?_
  have hres:Tryz.f65.results.toList = [.tmp 6]:=rfl
  have hrts:Tryz.f65.resultTypes.toList = [22]:=rfl
  simp only [argRegs,argAV1,eL,eI,eLL,eB,Nat.zero_add,Nat.reduceAdd]
  intro M
  refine RunK.of ?_
  repeat' (first|with_reducible (first|refine Q1 ?_|refine Q2 ?_|refine Q3 ?_|refine Q4 ?_|refine Q5 ?_|refine Q6 ?_|refine Q7 ?_|refine Q8 ?_|refine Q9 ?_|refine Qa ?_|refine Qb ?_|refine Qc ?_|refine Qd ?_|refine Qe ?_|refine Qf ?_)|((with_reducible refine Qo ?_ ?_);focus rfl)|((with_reducible first|refine QT 8 (l:=?_) ?_ ?_|refine QF 8 (l:=?_) ?_ ?_);rotate_left 1;focus (simp only [Zu,Nat.reduceSub,Nat.reduceBEq];with_reducible rfl))|((with_reducible first|refine QS (cfg_ok 25) (Tab.none.at' 111 hu) (s':=?_) ?_ ?_|refine QC (b:=?_) ?_ ?_);rotate_left 1;focus ((with_reducible refine QW ?_);simp only [Zg,seval,if_true,if_false,reduceCtorEq,Nat.reduceEqDiff,i0,hul];with_reducible rfl)))
  refine RunK.loop (β:=Nat) (γ:=Unit) (fun i => ⟨[(0,.c (.val (.sl 1 Y))),(1,.c (.val (.sl 1 ((a).map eI)))),(2,.c (.val (.int ((n - i:Nat):Int)))),(7,.c (.own 7 38))],[(7,.row 1 ((pwM (a) i).map eI) true)]⟩) (fun i => i ≤ n) (fun i => n - i)
   (fun _ => ⟨[(7,.c (.own 7 38))],[(7,.row 1 ((pwM (a) n).map eI) true)]⟩) (fun _ => True) 0 (Nat.zero_le _) ?_ ?_ ?_
  ·(repeat' (first|with_reducible refine Qn|((with_reducible refine Qr ?_ ?_);focus (first|with_reducible rfl|(simp only [Zz,Nat.reduceBEq,Nat.sub_zero,show pwM (a) 0 = unitMap from rfl];done)|rfl))|((with_reducible refine Qj (o':=?_) ?_ ?_ ?_);rotate_left 1;focus rfl)|((with_reducible refine Qw ?_ ?_);(focus (first|with_reducible rfl|(simp only [Zv,Nat.sub_zero,show pwM (a) 0 = unitMap from rfl];done)));focus (first|exact id|exact (fun h => nomatch h)|exact (fun _ => rfl)))))
  ·intro i hi
   have hi:i ≤ n:=hi
   by_cases hin:i < n
   ·have i1:(((n - i:Nat):Int) > 0) = True:=eq_true (by omega)
    have hw:w64 (((n - i:Nat):Int) - 1) = ((n - (i + 1):Nat):Int):=by rw [w64_eq (by omega)];omega
    have hci:=hcv i
    have hpi:=hpl i
    have hpj:=hpl (i + 1)
    repeat' (first|with_reducible (first|refine Q1 ?_|refine Q2 ?_|refine Q3 ?_|refine Q4 ?_|refine Q5 ?_|refine Q6 ?_|refine Q7 ?_|refine Q8 ?_|refine Q9 ?_|refine Qa ?_|refine Qb ?_|refine Qc ?_|refine Qd ?_|refine Qe ?_|refine Qf ?_)|((with_reducible refine Qo ?_ ?_);focus rfl)|((with_reducible first|refine QT 8 (l:=?_) ?_ ?_|refine QF 8 (l:=?_) ?_ ?_);rotate_left 1;focus (simp only [Zu,Nat.reduceSub,Nat.reduceBEq];with_reducible rfl))|((with_reducible first|refine QS (cfg_ok 25) (Tab.none.at' 58 hci) (s':=?_) ?_ ?_|refine QC (b:=?_) ?_ ?_);rotate_left 1;focus ((with_reducible refine QW ?_);simp only [Zg,seval,if_true,if_false,reduceCtorEq,Nat.reduceEqDiff,i1,hw,hpi,hpj];with_reducible rfl)))
    refine roundK.on (i + 1) ⟨hin,by omega⟩ ?_
    (repeat' (first|with_reducible refine Qn|((with_reducible refine Qr ?_ ?_);focus (first|with_reducible rfl|(simp only [Zz,Nat.reduceBEq];done)|rfl))|((with_reducible refine Qj (o':=?_) ?_ ?_ ?_);rotate_left 1;focus rfl)|((with_reducible refine Qw ?_ ?_);(focus (first|with_reducible rfl|(simp only [Zv];done)));focus (first|exact id|exact (fun h => nomatch h)|exact (fun _ => rfl)))))
   ·obtain rfl:i = n:=by omega
    have i1:(((i - i:Nat):Int) > 0) = False:=eq_false (by omega)
    repeat' (first|with_reducible (first|refine Q1 ?_|refine Q2 ?_|refine Q3 ?_|refine Q4 ?_|refine Q5 ?_|refine Q6 ?_|refine Q7 ?_|refine Q8 ?_|refine Q9 ?_|refine Qa ?_|refine Qb ?_|refine Qc ?_|refine Qd ?_|refine Qe ?_|refine Qf ?_)|((with_reducible refine Qo ?_ ?_);focus rfl)|((with_reducible first|refine QT 8 (l:=?_) ?_ ?_|refine QF 8 (l:=?_) ?_ ?_);rotate_left 1;focus (simp only [Zu,Nat.reduceSub,Nat.reduceBEq];with_reducible rfl))|((with_reducible first|refine QS (cfg_ok 25) Tab.none (s':=?_) ?_ ?_|refine QC (b:=?_) ?_ ?_);rotate_left 1;focus ((with_reducible refine QW ?_);simp only [Zg,seval,if_true,if_false,reduceCtorEq,Nat.reduceEqDiff,i1];with_reducible rfl)))
    refine roundK.out () trivial ?_
    (repeat' (first|with_reducible refine Qn|((with_reducible refine Qr ?_ ?_);focus (first|with_reducible rfl|(simp only [Zz,Nat.reduceBEq];done)|rfl))|((with_reducible refine Qj (o':=?_) ?_ ?_ ?_);rotate_left 1;focus rfl)|((with_reducible refine Qw ?_ ?_);(focus (first|with_reducible rfl|(simp only [Zv];done)));focus (first|exact id|exact (fun h => nomatch h)|exact (fun _ => rfl)))))
  ·rintro _ _
   repeat' (first|with_reducible (first|refine Q1 ?_|refine Q2 ?_|refine Q3 ?_|refine Q4 ?_|refine Q5 ?_|refine Q6 ?_|refine Q7 ?_|refine Q8 ?_|refine Q9 ?_|refine Qa ?_|refine Qb ?_|refine Qc ?_|refine Qd ?_|refine Qe ?_|refine Qf ?_)|((with_reducible refine Qo ?_ ?_);focus rfl)|((with_reducible first|refine QT 8 (l:=?_) ?_ ?_|refine QF 8 (l:=?_) ?_ ?_);rotate_left 1;focus (simp only [Zu,Nat.reduceSub,Nat.reduceBEq];with_reducible rfl))|((with_reducible first|refine QS (cfg_ok 25) Tab.none (s':=?_) ?_ ?_|refine QC (b:=?_) ?_ ?_);rotate_left 1;focus ((with_reducible refine QW ?_);simp only [Zg,seval,if_true,if_false,reduceCtorEq,Nat.reduceEqDiff];with_reducible rfl)))
   (refine Ends.mk (by simp) (rs:=?_) (ks:=?_) hres hrts ?_ ?_ ?_;rotate_left 2;(focus (simp only [Ze,Zg,seval,if_true,if_false,reduceCtorEq,Nat.reduceEqDiff];with_reducible rfl));(focus simp);focus (first|with_reducible rfl|(simp only [Zv];done)))
set_option maxHeartbeats 4000000 in
theorem a_spec_PowerOfMap (a:List Int) (k:Int):AFn Tryz.prog 25 [eL a,eI k] (· = [.own 1 ((pwOf a k).1.map eI) true,.val (.int (pwOf a k).2)]):=by
 have hm:=a_spec_l07Is a
 have hin:=a_spec_l01In k (-100) 100
 simp only [eL,eI] at hm hin
 unfold pwOf
 by_cases h1:isMap a = true
 rotate_left
 ·have h1':isMap a = false:=by simpa using h1
  rw [h1'] at hm
  rw [if_neg h1]
  refine AFn.of_runs (cfg_ok 23) Tryz.func25 rfl rfl rfl (by simp only [List.length_cons,List.length_nil];decide) ?_
  have hres:Tryz.f25.results.toList = [.tmp 4,.tmp 5]:=rfl
  have hrts:Tryz.f25.resultTypes.toList = [22,2]:=rfl
  simp only [argRegs,argAV1,eL,eI,eLL,eB,Nat.zero_add,Nat.reduceAdd]
  intro M
  refine RunK.of ?_
  repeat' (first|with_reducible (first|refine Q1 ?_|refine Q2 ?_|refine Q3 ?_|refine Q4 ?_|refine Q5 ?_|refine Q6 ?_|refine Q7 ?_|refine Q8 ?_|refine Q9 ?_|refine Qa ?_|refine Qb ?_|refine Qc ?_|refine Qd ?_|refine Qe ?_|refine Qf ?_)|((with_reducible refine Qo ?_ ?_);focus rfl)|((with_reducible first|refine QT 6 (l:=?_) ?_ ?_|refine QF 6 (l:=?_) ?_ ?_);rotate_left 1;focus (simp only [Zu,Nat.reduceSub,Nat.reduceBEq];with_reducible rfl))|((with_reducible first|refine QS (cfg_ok 23) (Tab.none.at' 42 hm) (s':=?_) ?_ ?_|refine QC (b:=?_) ?_ ?_);rotate_left 1;focus ((with_reducible refine QW ?_);simp only [Zg,seval,if_true,if_false,reduceCtorEq,Nat.reduceEqDiff];with_reducible rfl)))
  (refine Ends.mk (by simp) (rs:=?_) (ks:=?_) hres hrts ?_ ?_ ?_;rotate_left 2;(focus (simp only [Ze,Zg,seval,if_true,if_false,reduceCtorEq,Nat.reduceEqDiff];with_reducible rfl));(focus simp);focus (first|with_reducible rfl|(simp only [Zv];done)))
 rw [h1] at hm
 rw [if_pos h1]
 obtain ⟨g1,g2⟩:=isMap_get0 h1
 by_cases h2:inR k (-100) 100 = true
 rotate_left
 ·have h2':inR k (-100) 100 = false:=by simpa using h2
  rw [h2'] at hin
  rw [if_neg h2]
  refine AFn.of_runs (cfg_ok 23) Tryz.func25 rfl rfl rfl (by simp only [List.length_cons,List.length_nil];decide) ?_
  have hres:Tryz.f25.results.toList = [.tmp 4,.tmp 5]:=rfl
  have hrts:Tryz.f25.resultTypes.toList = [22,2]:=rfl
  simp only [argRegs,argAV1,eL,eI,eLL,eB,Nat.zero_add,Nat.reduceAdd]
  intro M
  refine RunK.of ?_
  repeat' (first|with_reducible (first|refine Q1 ?_|refine Q2 ?_|refine Q3 ?_|refine Q4 ?_|refine Q5 ?_|refine Q6 ?_|refine Q7 ?_|refine Q8 ?_|refine Q9 ?_|refine Qa ?_|refine Qb ?_|refine Qc ?_|refine Qd ?_|refine Qe ?_|refine Qf ?_)|((with_reducible refine Qo ?_ ?_);focus rfl)|((with_reducible first|refine QT 6 (l:=?_) ?_ ?_|refine QF 6 (l:=?_) ?_ ?_);rotate_left 1;focus (simp only [Zu,Nat.reduceSub,Nat.reduceBEq];with_reducible rfl))|((with_reducible first|refine QS (cfg_ok 23) ((Tab.none.at' 42 hm).at' 64 hin) (s':=?_) ?_ ?_|refine QC (b:=?_) ?_ ?_);rotate_left 1;focus ((with_reducible refine QW ?_);simp only [Zg,seval,if_true,if_false,reduceCtorEq,Nat.reduceEqDiff];with_reducible rfl)))
  (refine Ends.mk (by simp) (rs:=?_) (ks:=?_) hres hrts ?_ ?_ ?_;rotate_left 2;(focus (simp only [Ze,Zg,seval,if_true,if_false,reduceCtorEq,Nat.reduceEqDiff];with_reducible rfl));(focus simp);focus (first|with_reducible rfl|(simp only [Zv];done)))
 rw [h2] at hin
 rw [if_pos h2]
 by_cases h3:a.getD 0 0 = 1
 ·have i1:(a.getD 0 0 != 1) = false:=by simpa using h3
  rw [if_pos h3]
  have hr:=a_l07Power a h1 h3 k (inR_bd h2)
  simp only [eL,eI] at hr
  have hcu:=AFn.val1 a_l07Cuts
  refine AFn.of_runs (cfg_ok 23) Tryz.func25 rfl rfl rfl (by simp only [List.length_cons,List.length_nil];decide) ?_
  have hres:Tryz.f25.results.toList = [.tmp 4,.tmp 5]:=rfl
  have hrts:Tryz.f25.resultTypes.toList = [22,2]:=rfl
  simp only [argRegs,argAV1,eL,eI,eLL,eB,Nat.zero_add,Nat.reduceAdd]
  intro M
  refine RunK.of ?_
  repeat' (first|with_reducible (first|refine Q1 ?_|refine Q2 ?_|refine Q3 ?_|refine Q4 ?_|refine Q5 ?_|refine Q6 ?_|refine Q7 ?_|refine Q8 ?_|refine Q9 ?_|refine Qa ?_|refine Qb ?_|refine Qc ?_|refine Qd ?_|refine Qe ?_|refine Qf ?_)|((with_reducible refine Qo ?_ ?_);focus rfl)|((with_reducible first|refine QT 6 (l:=?_) ?_ ?_|refine QF 6 (l:=?_) ?_ ?_);rotate_left 1;focus (simp only [Zu,Nat.reduceSub,Nat.reduceBEq];with_reducible rfl))|((with_reducible first|refine QS (cfg_ok 23) ((((Tab.none.at' 42 hm).at' 64 hin).at' 59 hcu).at' 65 hr) (s':=?_) ?_ ?_|refine QC (b:=?_) ?_ ?_);rotate_left 1;focus ((with_reducible refine QW ?_);simp only [Zg,seval,if_true,if_false,reduceCtorEq,Nat.reduceEqDiff,g1,g2,i1,Int.toNat_zero];with_reducible rfl)))
  (refine Ends.mk (by simp) (rs:=?_) (ks:=?_) hres hrts ?_ ?_ ?_;rotate_left 2;(focus (simp only [Ze,Zg,seval,if_true,if_false,reduceCtorEq,Nat.reduceEqDiff];with_reducible rfl));(focus simp);focus (first|with_reducible rfl|(simp only [Zv];done)))
 ·have i1:(a.getD 0 0 != 1) = true:=by simpa using h3
  rw [if_neg h3]
  refine AFn.of_runs (cfg_ok 23) Tryz.func25 rfl rfl rfl (by simp only [List.length_cons,List.length_nil];decide) ?_
  have hres:Tryz.f25.results.toList = [.tmp 4,.tmp 5]:=rfl
  have hrts:Tryz.f25.resultTypes.toList = [22,2]:=rfl
  simp only [argRegs,argAV1,eL,eI,eLL,eB,Nat.zero_add,Nat.reduceAdd]
  intro M
  refine RunK.of ?_
  repeat' (first|with_reducible (first|refine Q1 ?_|refine Q2 ?_|refine Q3 ?_|refine Q4 ?_|refine Q5 ?_|refine Q6 ?_|refine Q7 ?_|refine Q8 ?_|refine Q9 ?_|refine Qa ?_|refine Qb ?_|refine Qc ?_|refine Qd ?_|refine Qe ?_|refine Qf ?_)|((with_reducible refine Qo ?_ ?_);focus rfl)|((with_reducible first|refine QT 6 (l:=?_) ?_ ?_|refine QF 6 (l:=?_) ?_ ?_);rotate_left 1;focus (simp only [Zu,Nat.reduceSub,Nat.reduceBEq];with_reducible rfl))|((with_reducible first|refine QS (cfg_ok 23) ((Tab.none.at' 42 hm).at' 64 hin) (s':=?_) ?_ ?_|refine QC (b:=?_) ?_ ?_);rotate_left 1;focus ((with_reducible refine QW ?_);simp only [Zg,seval,if_true,if_false,reduceCtorEq,Nat.reduceEqDiff,g1,g2,i1,Int.toNat_zero];with_reducible rfl)))
  (refine Ends.mk (by simp) (rs:=?_) (ks:=?_) hres hrts ?_ ?_ ?_;rotate_left 2;(focus (simp only [Ze,Zg,seval,if_true,if_false,reduceCtorEq,Nat.reduceEqDiff];with_reducible rfl));(focus simp);focus (first|with_reducible rfl|(simp only [Zv];done)))
theorem k_spec_PowerOfMap (v:Value) (k:Int) (a:List Int) (w:World) (h:Rd (RS RI) w [v] a) (hk:In64 k):Calls Tryz.prog 25 #[v,.int .i64 k] w (RetGI (RS RI) w (pwOf a k).1 (pwOf a k).2) :=
 AFn.gi encI (.inl rfl) (a_spec_PowerOfMap a k) (args2 (arg_L h) (arg_I hk))
end Go.Proofs.YtfhmonacgmakbaaGreat
namespace Go.Proofs.YtfhmonacgmakbaaGreat
open Go.RowKit
set_option maxRecDepth 20000 in
set_option maxHeartbeats 16000000 in
theorem a_impl_PowerOfMap (a:List Int) (k:Int):AFn Tryz.prog 26 [eL a,eI k] (· = [.own 1 ((pwOf a k).1.map eI) true,.val (.int (pwOf a k).2)]):=by
 have hm:=a_impl_IsMap a
 have hin:=a_impl_inRange k (-100) 100
 simp only [eL,eI] at hm hin
 unfold pwOf
 by_cases h1:isMap a = true
 rotate_left
 ·have h1':isMap a = false:=by simpa using h1
  rw [h1'] at hm
  rw [if_neg h1]
  refine AFn.of_runs (cfg_ok 39) Tryz.func26 rfl rfl rfl (by simp only [List.length_cons,List.length_nil];decide) ?_
  have hres:Tryz.f26.results.toList = [.tmp 4,.tmp 5]:=rfl
  have hrts:Tryz.f26.resultTypes.toList = [22,2]:=rfl
  simp only [argRegs,argAV1,eL,eI,eLL,eB,Nat.zero_add,Nat.reduceAdd]
  intro M
  refine RunK.of ?_
  repeat' (first|with_reducible (first|refine Q1 ?_|refine Q2 ?_|refine Q3 ?_|refine Q4 ?_|refine Q5 ?_|refine Q6 ?_|refine Q7 ?_|refine Q8 ?_|refine Q9 ?_|refine Qa ?_|refine Qb ?_|refine Qc ?_|refine Qd ?_|refine Qe ?_|refine Qf ?_)|((with_reducible refine Qo ?_ ?_);focus rfl)|((with_reducible first|refine QT 32 (l:=?_) ?_ ?_|refine QF 32 (l:=?_) ?_ ?_);rotate_left 1;focus (simp only [Zu,Nat.reduceSub,Nat.reduceBEq];with_reducible rfl))|((with_reducible first|refine QS (cfg_ok 39) (Tab.none.at' 44 hm) (s':=?_) ?_ ?_|refine QC (b:=?_) ?_ ?_);rotate_left 1;focus ((with_reducible refine QW ?_);simp only [Zg,seval,if_true,if_false,reduceCtorEq,Nat.reduceEqDiff];with_reducible rfl)))
  (refine Ends.mk (by simp) (rs:=?_) (ks:=?_) hres hrts ?_ ?_ ?_;rotate_left 2;(focus (simp only [Ze,Zg,seval,if_true,if_false,reduceCtorEq,Nat.reduceEqDiff];with_reducible rfl));(focus simp);focus (first|with_reducible rfl|(simp only [Zv];done)))
 rw [h1] at hm
 rw [if_pos h1]
 obtain ⟨g1,g2⟩:=isMap_get0 h1
 by_cases h2:inR k (-100) 100 = true
 rotate_left
 ·have h2':inR k (-100) 100 = false:=by simpa using h2
  rw [h2'] at hin
  rw [if_neg h2]
  refine AFn.of_runs (cfg_ok 39) Tryz.func26 rfl rfl rfl (by simp only [List.length_cons,List.length_nil];decide) ?_
  have hres:Tryz.f26.results.toList = [.tmp 4,.tmp 5]:=rfl
  have hrts:Tryz.f26.resultTypes.toList = [22,2]:=rfl
  simp only [argRegs,argAV1,eL,eI,eLL,eB,Nat.zero_add,Nat.reduceAdd]
  intro M
  refine RunK.of ?_
  repeat' (first|with_reducible (first|refine Q1 ?_|refine Q2 ?_|refine Q3 ?_|refine Q4 ?_|refine Q5 ?_|refine Q6 ?_|refine Q7 ?_|refine Q8 ?_|refine Q9 ?_|refine Qa ?_|refine Qb ?_|refine Qc ?_|refine Qd ?_|refine Qe ?_|refine Qf ?_)|((with_reducible refine Qo ?_ ?_);focus rfl)|((with_reducible first|refine QT 32 (l:=?_) ?_ ?_|refine QF 32 (l:=?_) ?_ ?_);rotate_left 1;focus (simp only [Zu,Nat.reduceSub,Nat.reduceBEq];with_reducible rfl))|((with_reducible first|refine QS (cfg_ok 39) ((Tab.none.at' 44 hm).at' 66 hin) (s':=?_) ?_ ?_|refine QC (b:=?_) ?_ ?_);rotate_left 1;focus ((with_reducible refine QW ?_);simp only [Zg,seval,if_true,if_false,reduceCtorEq,Nat.reduceEqDiff];with_reducible rfl)))
  (refine Ends.mk (by simp) (rs:=?_) (ks:=?_) hres hrts ?_ ?_ ?_;rotate_left 2;(focus (simp only [Ze,Zg,seval,if_true,if_false,reduceCtorEq,Nat.reduceEqDiff];with_reducible rfl));(focus simp);focus (first|with_reducible rfl|(simp only [Zv];done)))
 rw [h2] at hin
 rw [if_pos h2]
 by_cases h3:a.getD 0 0 = 1
 rotate_left
 ·have i1:(a.getD 0 0 != 1) = true:=by simpa using h3
  rw [if_neg h3]
  refine AFn.of_runs (cfg_ok 39) Tryz.func26 rfl rfl rfl (by simp only [List.length_cons,List.length_nil];decide) ?_
  have hres:Tryz.f26.results.toList = [.tmp 4,.tmp 5]:=rfl
  have hrts:Tryz.f26.resultTypes.toList = [22,2]:=rfl
  simp only [argRegs,argAV1,eL,eI,eLL,eB,Nat.zero_add,Nat.reduceAdd]
  intro M
  refine RunK.of ?_
  repeat' (first|with_reducible (first|refine Q1 ?_|refine Q2 ?_|refine Q3 ?_|refine Q4 ?_|refine Q5 ?_|refine Q6 ?_|refine Q7 ?_|refine Q8 ?_|refine Q9 ?_|refine Qa ?_|refine Qb ?_|refine Qc ?_|refine Qd ?_|refine Qe ?_|refine Qf ?_)|((with_reducible refine Qo ?_ ?_);focus rfl)|((with_reducible first|refine QT 32 (l:=?_) ?_ ?_|refine QF 32 (l:=?_) ?_ ?_);rotate_left 1;focus (simp only [Zu,Nat.reduceSub,Nat.reduceBEq];with_reducible rfl))|((with_reducible first|refine QS (cfg_ok 39) ((Tab.none.at' 44 hm).at' 66 hin) (s':=?_) ?_ ?_|refine QC (b:=?_) ?_ ?_);rotate_left 1;focus ((with_reducible refine QW ?_);simp only [Zg,seval,if_true,if_false,reduceCtorEq,Nat.reduceEqDiff,g1,g2,i1,Int.toNat_zero];with_reducible rfl)))
  (refine Ends.mk (by simp) (rs:=?_) (ks:=?_) hres hrts ?_ ?_ ?_;rotate_left 2;(focus (simp only [Ze,Zg,seval,if_true,if_false,reduceCtorEq,Nat.reduceEqDiff];with_reducible rfl));(focus simp);focus (first|with_reducible rfl|(simp only [Zv];done)))
 have ia:(a.getD 0 0 != 1) = false:=by simpa using h3
 rw [if_pos h3]
 have hkb:=inR_bd h2
 have hu:=a_UnitMap
 have hul:(unitMap.map eI).length = 38:=rfl
 have hbm:=pwB_map h1 k
 have hcv:=fun (i:Nat) => a_convolve (T6.map eL) (pwM (pwB a k) i) (pwB a k) (pwM_map hbm i) hbm
 have hpl:=pwM_len hbm
 have hinv:=a_inverseMap (T6.map eL) a h1
 have e0:invI a (T6.map cutsM) = invM a:=rfl
 rw [e0] at hinv
 simp only [eL] at hinv hcv
 obtain ⟨T,hT⟩:∃ T:List (List D),T = T6.map eL:=⟨_,rfl⟩
 obtain ⟨X,hX⟩:∃ X,X = (T6.map cutsM).map eMs:=⟨_,rfl⟩
 have hfr:frmD = [.sl 1 T,.sl 1 X]:=by rw [hT,hX];rfl
 have hnf:=s_newForms
 rw [hfr] at hnf
 rw [← hT,← hX] at hinv
 rw [← hT,← hX] at hcv
 obtain ⟨n,hn⟩:∃ n,n = k.natAbs:=⟨_,rfl⟩
 have hpk:pwK a k = pwM (pwB a k) n:=by rw [hn];rfl
 rw [hpk]
 by_cases hneg:k < 0
 ·have e:pwB a k = invM a:=if_pos hneg
  have i0:(k < 0) = True:=eq_true hneg
  have hwn:w64 (0 - k) = (n:Int):=by rw [w64_eq (by omega)];omega
  have hil:((invM a).map eI).length = 38:=by rw [List.length_map,(isMap_bd (invM_map a)).1]
  rw [e] at hbm hcv hpl ⊢
  refine AFn.of_runs (cfg_ok 39) Tryz.func26 rfl rfl rfl (by simp only [List.length_cons,List.length_nil];decide) ?_
  have hres:Tryz.f26.results.toList = [.tmp 4,.tmp 5]:=rfl
  have hrts:Tryz.f26.resultTypes.toList = [22,2]:=rfl
  simp only [argRegs,argAV1,eL,eI,eLL,eB,Nat.zero_add,Nat.reduceAdd]
  intro M
  refine RunK.of ?_
  ((repeat' (first|with_reducible (first|refine Q1 ?_|refine Q2 ?_|refine Q3 ?_|refine Q4 ?_|refine Q5 ?_|refine Q6 ?_|refine Q7 ?_|refine Q8 ?_|refine Q9 ?_|refine Qa ?_|refine Qb ?_|refine Qc ?_|refine Qd ?_|refine Qe ?_|refine Qf ?_)|((with_reducible refine Qo ?_ ?_);focus rfl)|((with_reducible first|refine QT 32 (l:=?_) ?_ ?_|refine QF 32 (l:=?_) ?_ ?_);rotate_left 1;focus (simp only [Zu,Nat.reduceSub,Nat.reduceBEq];with_reducible rfl))|((with_reducible refine QC (b:=?_) ?_ ?_);rotate_left 1;focus ((with_reducible refine QW ?_);simp only [Zg,seval,if_true,if_false,reduceCtorEq,Nat.reduceEqDiff];with_reducible rfl))));((with_reducible refine QS (cfg_ok 39) Tab.none (s':=?_) ?_ ?_);rotate_left 1;focus ((with_reducible refine QW ?_);simp only [Zg,seval,if_true,if_false,reduceCtorEq,Nat.reduceEqDiff];with_reducible rfl));(repeat' (first|with_reducible (first|refine Q1 ?_|refine Q2 ?_|refine Q3 ?_|refine Q4 ?_|refine Q5 ?_|refine Q6 ?_|refine Q7 ?_|refine Q8 ?_|refine Q9 ?_|refine Qa ?_|refine Qb ?_|refine Qc ?_|refine Qd ?_|refine Qe ?_|refine Qf ?_)|((with_reducible refine Qo ?_ ?_);focus rfl)|((with_reducible first|refine QT 32 (l:=?_) ?_ ?_|refine QF 32 (l:=?_) ?_ ?_);rotate_left 1;focus (simp only [Zu,Nat.reduceSub,Nat.reduceBEq];with_reducible rfl))|((with_reducible refine QC (b:=?_) ?_ ?_);rotate_left 1;focus ((with_reducible refine QW ?_);simp only [Zg,seval,if_true,if_false,reduceCtorEq,Nat.reduceEqDiff];with_reducible rfl)))))
  ((repeat' (first|with_reducible (first|refine Q1 ?_|refine Q2 ?_|refine Q3 ?_|refine Q4 ?_|refine Q5 ?_|refine Q6 ?_|refine Q7 ?_|refine Q8 ?_|refine Q9 ?_|refine Qa ?_|refine Qb ?_|refine Qc ?_|refine Qd ?_|refine Qe ?_|refine Qf ?_)|((with_reducible refine Qo ?_ ?_);focus rfl)|((with_reducible first|refine QT 32 (l:=?_) ?_ ?_|refine QF 32 (l:=?_) ?_ ?_);rotate_left 1;focus (simp only [Zu,Nat.reduceSub,Nat.reduceBEq];with_reducible rfl))|((with_reducible refine QC (b:=?_) ?_ ?_);rotate_left 1;focus ((with_reducible refine QW ?_);simp only [Zg,seval,if_true,if_false,reduceCtorEq,Nat.reduceEqDiff];with_reducible rfl))));((with_reducible refine QS (cfg_ok 39) (Tab.none.at' 44 hm) (s':=?_) ?_ ?_);rotate_left 1;focus ((with_reducible refine QW ?_);simp only [Zg,seval,if_true,if_false,reduceCtorEq,Nat.reduceEqDiff];with_reducible rfl));(repeat' (first|with_reducible (first|refine Q1 ?_|refine Q2 ?_|refine Q3 ?_|refine Q4 ?_|refine Q5 ?_|refine Q6 ?_|refine Q7 ?_|refine Q8 ?_|refine Q9 ?_|refine Qa ?_|refine Qb ?_|refine Qc ?_|refine Qd ?_|refine Qe ?_|refine Qf ?_)|((with_reducible refine Qo ?_ ?_);focus rfl)|((with_reducible first|refine QT 32 (l:=?_) ?_ ?_|refine QF 32 (l:=?_) ?_ ?_);rotate_left 1;focus (simp only [Zu,Nat.reduceSub,Nat.reduceBEq];with_reducible rfl))|((with_reducible refine QC (b:=?_) ?_ ?_);rotate_left 1;focus ((with_reducible refine QW ?_);simp only [Zg,seval,if_true,if_false,reduceCtorEq,Nat.reduceEqDiff];with_reducible rfl)))))
  ((repeat' (first|with_reducible (first|refine Q1 ?_|refine Q2 ?_|refine Q3 ?_|refine Q4 ?_|refine Q5 ?_|refine Q6 ?_|refine Q7 ?_|refine Q8 ?_|refine Q9 ?_|refine Qa ?_|refine Qb ?_|refine Qc ?_|refine Qd ?_|refine Qe ?_|refine Qf ?_)|((with_reducible refine Qo ?_ ?_);focus rfl)|((with_reducible first|refine QT 32 (l:=?_) ?_ ?_|refine QF 32 (l:=?_) ?_ ?_);rotate_left 1;focus (simp only [Zu,Nat.reduceSub,Nat.reduceBEq];with_reducible rfl))|((with_reducible refine QC (b:=?_) ?_ ?_);rotate_left 1;focus ((with_reducible refine QW ?_);simp only [Zg,seval,if_true,if_false,reduceCtorEq,Nat.reduceEqDiff];with_reducible rfl))));((with_reducible refine QS (cfg_ok 39) (Tab.none.at' 66 hin) (s':=?_) ?_ ?_);rotate_left 1;focus ((with_reducible refine QW ?_);simp only [Zg,seval,if_true,if_false,reduceCtorEq,Nat.reduceEqDiff];with_reducible rfl));(repeat' (first|with_reducible (first|refine Q1 ?_|refine Q2 ?_|refine Q3 ?_|refine Q4 ?_|refine Q5 ?_|refine Q6 ?_|refine Q7 ?_|refine Q8 ?_|refine Q9 ?_|refine Qa ?_|refine Qb ?_|refine Qc ?_|refine Qd ?_|refine Qe ?_|refine Qf ?_)|((with_reducible refine Qo ?_ ?_);focus rfl)|((with_reducible first|refine QT 32 (l:=?_) ?_ ?_|refine QF 32 (l:=?_) ?_ ?_);rotate_left 1;focus (simp only [Zu,Nat.reduceSub,Nat.reduceBEq];with_reducible rfl))|((with_reducible refine QC (b:=?_) ?_ ?_);rotate_left 1;focus ((with_reducible refine QW ?_);simp only [Zg,seval,if_true,if_false,reduceCtorEq,Nat.reduceEqDiff];with_reducible rfl)))))
  ((repeat' (first|with_reducible (first|refine Q1 ?_|refine Q2 ?_|refine Q3 ?_|refine Q4 ?_|refine Q5 ?_|refine Q6 ?_|refine Q7 ?_|refine Q8 ?_|refine Q9 ?_|refine Qa ?_|refine Qb ?_|refine Qc ?_|refine Qd ?_|refine Qe ?_|refine Qf ?_)|((with_reducible refine Qo ?_ ?_);focus rfl)|((with_reducible first|refine QT 32 (l:=?_) ?_ ?_|refine QF 32 (l:=?_) ?_ ?_);rotate_left 1;focus (simp only [Zu,Nat.reduceSub,Nat.reduceBEq];with_reducible rfl))|((with_reducible refine QC (b:=?_) ?_ ?_);rotate_left 1;focus ((with_reducible refine QW ?_);simp only [Zg,seval,if_true,if_false,reduceCtorEq,Nat.reduceEqDiff,g1,g2,ia,Int.toNat_zero];with_reducible rfl))));((with_reducible refine QS (cfg_ok 39) Tab.none (s':=?_) ?_ ?_);rotate_left 1;focus ((with_reducible refine QW ?_);simp only [Zg,seval,if_true,if_false,reduceCtorEq,Nat.reduceEqDiff,g1,g2,ia,Int.toNat_zero];with_reducible rfl));(repeat' (first|with_reducible (first|refine Q1 ?_|refine Q2 ?_|refine Q3 ?_|refine Q4 ?_|refine Q5 ?_|refine Q6 ?_|refine Q7 ?_|refine Q8 ?_|refine Q9 ?_|refine Qa ?_|refine Qb ?_|refine Qc ?_|refine Qd ?_|refine Qe ?_|refine Qf ?_)|((with_reducible refine Qo ?_ ?_);focus rfl)|((with_reducible first|refine QT 32 (l:=?_) ?_ ?_|refine QF 32 (l:=?_) ?_ ?_);rotate_left 1;focus (simp only [Zu,Nat.reduceSub,Nat.reduceBEq];with_reducible rfl))|((with_reducible refine QC (b:=?_) ?_ ?_);rotate_left 1;focus ((with_reducible refine QW ?_);simp only [Zg,seval,if_true,if_false,reduceCtorEq,Nat.reduceEqDiff,g1,g2,ia,Int.toNat_zero];with_reducible rfl)))))
  ((repeat' (first|with_reducible (first|refine Q1 ?_|refine Q2 ?_|refine Q3 ?_|refine Q4 ?_|refine Q5 ?_|refine Q6 ?_|refine Q7 ?_|refine Q8 ?_|refine Q9 ?_|refine Qa ?_|refine Qb ?_|refine Qc ?_|refine Qd ?_|refine Qe ?_|refine Qf ?_)|((with_reducible refine Qo ?_ ?_);focus rfl)|((with_reducible first|refine QT 32 (l:=?_) ?_ ?_|refine QF 32 (l:=?_) ?_ ?_);rotate_left 1;focus (simp only [Zu,Nat.reduceSub,Nat.reduceBEq];with_reducible rfl))|((with_reducible refine QC (b:=?_) ?_ ?_);rotate_left 1;focus ((with_reducible refine QW ?_);simp only [Zg,seval,if_true,if_false,reduceCtorEq,Nat.reduceEqDiff];with_reducible rfl))));(with_reducible refine RunK.regCut (cfg_ok 39) Tab.none 0 (s1:=?_) ?_ ?_);rotate_left 1;(focus ((with_reducible refine QW ?_);simp only [Zg,seval,if_true,if_false,reduceCtorEq,Nat.reduceEqDiff];with_reducible rfl));simp only [List.toList_toArray,List.drop_succ_cons,List.drop_zero])
  refine ROps.callS (cfg_ok 39) rfl (d:=21) rfl (by decide) rfl rfl rfl rfl hnf ?_
  (refine ROps.opsT (cfg_ok 39) (T:=Tab.none.at' 67 hu) (s':=?_) ?_ ?_;rotate_left 1;focus (simp only [Zg,seval,if_true,if_false,reduceCtorEq,Nat.reduceEqDiff,hul,List.map_cons,List.map_nil];with_reducible rfl))
  repeat' (first|with_reducible (first|refine Q1 ?_|refine Q2 ?_|refine Q3 ?_|refine Q4 ?_|refine Q5 ?_|refine Q6 ?_|refine Q7 ?_|refine Q8 ?_|refine Q9 ?_|refine Qa ?_|refine Qb ?_|refine Qc ?_|refine Qd ?_|refine Qe ?_|refine Qf ?_)|((with_reducible refine Qo ?_ ?_);focus rfl)|((with_reducible first|refine QT 32 (l:=?_) ?_ ?_|refine QF 32 (l:=?_) ?_ ?_);rotate_left 1;focus (simp only [Zu,Nat.reduceSub,Nat.reduceBEq];with_reducible rfl))|((with_reducible first|refine QS (cfg_ok 39) (Tab.none.at' 63 hinv) (s':=?_) ?_ ?_|refine QC (b:=?_) ?_ ?_);rotate_left 1;focus ((with_reducible refine QW ?_);simp only [Zg,seval,if_true,if_false,reduceCtorEq,Nat.reduceEqDiff,i0,hwn,hul,hil];with_reducible rfl)))
  refine RunK.frz 0 ?_
  refine RunK.fits (s0:=⟨[(0,.c (.val (.sl 1 ((invM a).map eI)))),(6,.optr 6 0 0),(7,.c (.own 7 38)),(30,.c (.val (.int n))),(31,.c (.val (.int 0)))],[(6,.row 2 [[.sl 1 T,.sl 1 X]] false),(7,.row 1 (unitMap.map eI) true)]⟩) ?_ ?_
  ·(repeat' (first|with_reducible refine Qn|((with_reducible refine Qr ?_ ?_);focus (first|with_reducible rfl|(simp only [Zz,Nat.reduceBEq,St.frz,frzR,frzH,look,AV.frz,AC.frz,Obj.frz,drop];done)|rfl))|((with_reducible refine Qj (o':=?_) ?_ ?_ ?_);rotate_left 1;focus rfl)|((with_reducible refine Qw ?_ ?_);(focus (first|with_reducible rfl|(simp only [Zv,St.frz,frzR,frzH,look,AV.frz,AC.frz,Obj.frz,drop];done)));focus (first|exact id|exact (fun h => nomatch h)|exact (fun _ => rfl)))))
   all_goals first|exact ⟨rfl,rfl⟩|exact ⟨rfl,rfl,id⟩
  refine RunK.loop (β:=Nat) (γ:=Unit) (fun i => ⟨[(0,.c (.val (.sl 1 ((invM a).map eI)))),(6,.optr 6 0 0),(7,.c (.own 7 38)),(30,.c (.val (.int n))),(31,.c (.val (.int i)))],[(6,.row 2 [[.sl 1 T,.sl 1 X]] false),(7,.row 1 ((pwM (invM a) i).map eI) true)]⟩) (fun i => i ≤ n) (fun i => n - i)
   (fun _ => ⟨[(7,.c (.own 7 38))],[(7,.row 1 ((pwM (invM a) n).map eI) true)]⟩) (fun _ => True) 0 (Nat.zero_le _) ?_ ?_ ?_
  ·(repeat' (first|with_reducible refine Qn|((with_reducible refine Qr ?_ ?_);focus (first|with_reducible rfl|(simp only [Zz,Nat.reduceBEq,Int.natCast_zero,show pwM (invM a) 0 = unitMap from rfl];done)|rfl))|((with_reducible refine Qj (o':=?_) ?_ ?_ ?_);rotate_left 1;focus rfl)|((with_reducible refine Qw ?_ ?_);(focus (first|with_reducible rfl|(simp only [Zv,Int.natCast_zero,show pwM (invM a) 0 = unitMap from rfl];done)));focus (first|exact id|exact (fun h => nomatch h)|exact (fun _ => rfl)))))
  ·intro i hi
   have hi:i ≤ n:=hi
   have hw:=w64_succ (n:=i) (by omega)
   by_cases hin:i < n
   ·have i1:((i:Int) < (n:Int)) = True:=eq_true (by omega)
    have hci:AFn Tryz.prog 60 [[.sl 1 T,.sl 1 X],[.sl 1 ((pwM (invM a) i).map eI)],[.sl 1 ((invM a).map eI)]] (· = [.own 1 ((pwM (invM a) (i + 1)).map eI) true]):=hcv i
    have hpi:=hpl i
    have hpj:=hpl (i + 1)
    repeat' (first|with_reducible (first|refine Q1 ?_|refine Q2 ?_|refine Q3 ?_|refine Q4 ?_|refine Q5 ?_|refine Q6 ?_|refine Q7 ?_|refine Q8 ?_|refine Q9 ?_|refine Qa ?_|refine Qb ?_|refine Qc ?_|refine Qd ?_|refine Qe ?_|refine Qf ?_)|((with_reducible refine Qo ?_ ?_);focus rfl)|((with_reducible first|refine QT 32 (l:=?_) ?_ ?_|refine QF 32 (l:=?_) ?_ ?_);rotate_left 1;focus (simp only [Zu,Nat.reduceSub,Nat.reduceBEq];with_reducible rfl))|((with_reducible first|refine QS (cfg_ok 39) (Tab.none.at' 60 hci) (s':=?_) ?_ ?_|refine QC (b:=?_) ?_ ?_);rotate_left 1;focus ((with_reducible refine QW ?_);simp only [Zg,seval,if_true,if_false,reduceCtorEq,Nat.reduceEqDiff,i1,hw,hpi,hpj];with_reducible rfl)))
    refine roundK.on (i + 1) ⟨hin,by omega⟩ ?_
    (repeat' (first|with_reducible refine Qn|((with_reducible refine Qr ?_ ?_);focus (first|with_reducible rfl|(simp only [Zz,Nat.reduceBEq];done)|rfl))|((with_reducible refine Qj (o':=?_) ?_ ?_ ?_);rotate_left 1;focus rfl)|((with_reducible refine Qw ?_ ?_);(focus (first|with_reducible rfl|(simp only [Zv];done)));focus (first|exact id|exact (fun h => nomatch h)|exact (fun _ => rfl)))))
   ·obtain rfl:i = n:=by omega
    have i1:((i:Int) < (i:Int)) = False:=eq_false (by omega)
    repeat' (first|with_reducible (first|refine Q1 ?_|refine Q2 ?_|refine Q3 ?_|refine Q4 ?_|refine Q5 ?_|refine Q6 ?_|refine Q7 ?_|refine Q8 ?_|refine Q9 ?_|refine Qa ?_|refine Qb ?_|refine Qc ?_|refine Qd ?_|refine Qe ?_|refine Qf ?_)|((with_reducible refine Qo ?_ ?_);focus rfl)|((with_reducible first|refine QT 32 (l:=?_) ?_ ?_|refine QF 32 (l:=?_) ?_ ?_);rotate_left 1;focus (simp only [Zu,Nat.reduceSub,Nat.reduceBEq];with_reducible rfl))|((with_reducible first|refine QS (cfg_ok 39) Tab.none (s':=?_) ?_ ?_|refine QC (b:=?_) ?_ ?_);rotate_left 1;focus ((with_reducible refine QW ?_);simp only [Zg,seval,if_true,if_false,reduceCtorEq,Nat.reduceEqDiff,i1];with_reducible rfl)))
    refine roundK.out () trivial ?_
    (repeat' (first|with_reducible refine Qn|((with_reducible refine Qr ?_ ?_);focus (first|with_reducible rfl|(simp only [Zz,Nat.reduceBEq];done)|rfl))|((with_reducible refine Qj (o':=?_) ?_ ?_ ?_);rotate_left 1;focus rfl)|((with_reducible refine Qw ?_ ?_);(focus (first|with_reducible rfl|(simp only [Zv];done)));focus (first|exact id|exact (fun h => nomatch h)|exact (fun _ => rfl)))))
  ·rintro _ _
   repeat' (first|with_reducible (first|refine Q1 ?_|refine Q2 ?_|refine Q3 ?_|refine Q4 ?_|refine Q5 ?_|refine Q6 ?_|refine Q7 ?_|refine Q8 ?_|refine Q9 ?_|refine Qa ?_|refine Qb ?_|refine Qc ?_|refine Qd ?_|refine Qe ?_|refine Qf ?_)|((with_reducible refine Qo ?_ ?_);focus rfl)|((with_reducible first|refine QT 32 (l:=?_) ?_ ?_|refine QF 32 (l:=?_) ?_ ?_);rotate_left 1;focus (simp only [Zu,Nat.reduceSub,Nat.reduceBEq];with_reducible rfl))|((with_reducible first|refine QS (cfg_ok 39) Tab.none (s':=?_) ?_ ?_|refine QC (b:=?_) ?_ ?_);rotate_left 1;focus ((with_reducible refine QW ?_);simp only [Zg,seval,if_true,if_false,reduceCtorEq,Nat.reduceEqDiff];with_reducible rfl)))
   (refine Ends.mk (by simp) (rs:=?_) (ks:=?_) hres hrts ?_ ?_ ?_;rotate_left 2;(focus (simp only [Ze,Zg,seval,if_true,if_false,reduceCtorEq,Nat.reduceEqDiff];with_reducible rfl));(focus simp);focus (first|with_reducible rfl|(simp only [Zv];done)))
 ·have e:pwB a k = a:=if_neg hneg
  have i0:(k < 0) = False:=eq_false hneg
  have hkn:k = (n:Int):=by omega
  rw [e] at hbm hcv hpl ⊢
  subst hkn
  refine AFn.of_runs (cfg_ok 39) Tryz.func26 rfl rfl rfl (by simp only [List.length_cons,List.length_nil];decide) ?_
  have hres:Tryz.f26.results.toList = [.tmp 4,.tmp 5]:=rfl
  have hrts:Tryz.f26.resultTypes.toList = [22,2]:=rfl
  simp only [argRegs,argAV1,eL,eI,eLL,eB,Nat.zero_add,Nat.reduceAdd]
  intro M
  refine RunK.of ?_
  ((repeat' (first|with_reducible (first|refine Q1 ?_|refine Q2 ?_|refine Q3 ?_|refine Q4 ?_|refine Q5 ?_|refine Q6 ?_|refine Q7 ?_|refine Q8 ?_|refine Q9 ?_|refine Qa ?_|refine Qb ?_|refine Qc ?_|refine Qd ?_|refine Qe ?_|refine Qf ?_)|((with_reducible refine Qo ?_ ?_);focus rfl)|((with_reducible first|refine QT 32 (l:=?_) ?_ ?_|refine QF 32 (l:=?_) ?_ ?_);rotate_left 1;focus (simp only [Zu,Nat.reduceSub,Nat.reduceBEq];with_reducible rfl))|((with_reducible refine QC (b:=?_) ?_ ?_);rotate_left 1;focus ((with_reducible refine QW ?_);simp only [Zg,seval,if_true,if_false,reduceCtorEq,Nat.reduceEqDiff];with_reducible rfl))));((with_reducible refine QS (cfg_ok 39) Tab.none (s':=?_) ?_ ?_);rotate_left 1;focus ((with_reducible refine QW ?_);simp only [Zg,seval,if_true,if_false,reduceCtorEq,Nat.reduceEqDiff];with_reducible rfl));(repeat' (first|with_reducible (first|refine Q1 ?_|refine Q2 ?_|refine Q3 ?_|refine Q4 ?_|refine Q5 ?_|refine Q6 ?_|refine Q7 ?_|refine Q8 ?_|refine Q9 ?_|refine Qa ?_|refine Qb ?_|refine Qc ?_|refine Qd ?_|refine Qe ?_|refine Qf ?_)|((with_reducible refine Qo ?_ ?_);focus rfl)|((with_reducible first|refine QT 32 (l:=?_) ?_ ?_|refine QF 32 (l:=?_) ?_ ?_);rotate_left 1;focus (simp only [Zu,Nat.reduceSub,Nat.reduceBEq];with_reducible rfl))|((with_reducible refine QC (b:=?_) ?_ ?_);rotate_left 1;focus ((with_reducible refine QW ?_);simp only [Zg,seval,if_true,if_false,reduceCtorEq,Nat.reduceEqDiff];with_reducible rfl)))))
  ((repeat' (first|with_reducible (first|refine Q1 ?_|refine Q2 ?_|refine Q3 ?_|refine Q4 ?_|refine Q5 ?_|refine Q6 ?_|refine Q7 ?_|refine Q8 ?_|refine Q9 ?_|refine Qa ?_|refine Qb ?_|refine Qc ?_|refine Qd ?_|refine Qe ?_|refine Qf ?_)|((with_reducible refine Qo ?_ ?_);focus rfl)|((with_reducible first|refine QT 32 (l:=?_) ?_ ?_|refine QF 32 (l:=?_) ?_ ?_);rotate_left 1;focus (simp only [Zu,Nat.reduceSub,Nat.reduceBEq];with_reducible rfl))|((with_reducible refine QC (b:=?_) ?_ ?_);rotate_left 1;focus ((with_reducible refine QW ?_);simp only [Zg,seval,if_true,if_false,reduceCtorEq,Nat.reduceEqDiff];with_reducible rfl))));((with_reducible refine QS (cfg_ok 39) (Tab.none.at' 44 hm) (s':=?_) ?_ ?_);rotate_left 1;focus ((with_reducible refine QW ?_);simp only [Zg,seval,if_true,if_false,reduceCtorEq,Nat.reduceEqDiff];with_reducible rfl));(repeat' (first|with_reducible (first|refine Q1 ?_|refine Q2 ?_|refine Q3 ?_|refine Q4 ?_|refine Q5 ?_|refine Q6 ?_|refine Q7 ?_|refine Q8 ?_|refine Q9 ?_|refine Qa ?_|refine Qb ?_|refine Qc ?_|refine Qd ?_|refine Qe ?_|refine Qf ?_)|((with_reducible refine Qo ?_ ?_);focus rfl)|((with_reducible first|refine QT 32 (l:=?_) ?_ ?_|refine QF 32 (l:=?_) ?_ ?_);rotate_left 1;focus (simp only [Zu,Nat.reduceSub,Nat.reduceBEq];with_reducible rfl))|((with_reducible refine QC (b:=?_) ?_ ?_);rotate_left 1;focus ((with_reducible refine QW ?_);simp only [Zg,seval,if_true,if_false,reduceCtorEq,Nat.reduceEqDiff];with_reducible rfl)))))
  ((repeat' (first|with_reducible (first|refine Q1 ?_|refine Q2 ?_|refine Q3 ?_|refine Q4 ?_|refine Q5 ?_|refine Q6 ?_|refine Q7 ?_|refine Q8 ?_|refine Q9 ?_|refine Qa ?_|refine Qb ?_|refine Qc ?_|refine Qd ?_|refine Qe ?_|refine Qf ?_)|((with_reducible refine Qo ?_ ?_);focus rfl)|((with_reducible first|refine QT 32 (l:=?_) ?_ ?_|refine QF 32 (l:=?_) ?_ ?_);rotate_left 1;focus (simp only [Zu,Nat.reduceSub,Nat.reduceBEq];with_reducible rfl))|((with_reducible refine QC (b:=?_) ?_ ?_);rotate_left 1;focus ((with_reducible refine QW ?_);simp only [Zg,seval,if_true,if_false,reduceCtorEq,Nat.reduceEqDiff];with_reducible rfl))));((with_reducible refine QS (cfg_ok 39) (Tab.none.at' 66 hin) (s':=?_) ?_ ?_);rotate_left 1;focus ((with_reducible refine QW ?_);simp only [Zg,seval,if_true,if_false,reduceCtorEq,Nat.reduceEqDiff];with_reducible rfl));(repeat' (first|with_reducible (first|refine Q1 ?_|refine Q2 ?_|refine Q3 ?_|refine Q4 ?_|refine Q5 ?_|refine Q6 ?_|refine Q7 ?_|refine Q8 ?_|refine Q9 ?_|refine Qa ?_|refine Qb ?_|refine Qc ?_|refine Qd ?_|refine Qe ?_|refine Qf ?_)|((with_reducible refine Qo ?_ ?_);focus rfl)|((with_reducible first|refine QT 32 (l:=?_) ?_ ?_|refine QF 32 (l:=?_) ?_ ?_);rotate_left 1;focus (simp only [Zu,Nat.reduceSub,Nat.reduceBEq];with_reducible rfl))|((with_reducible refine QC (b:=?_) ?_ ?_);rotate_left 1;focus ((with_reducible refine QW ?_);simp only [Zg,seval,if_true,if_false,reduceCtorEq,Nat.reduceEqDiff];with_reducible rfl)))))
  ((repeat' (first|with_reducible (first|refine Q1 ?_|refine Q2 ?_|refine Q3 ?_|refine Q4 ?_|refine Q5 ?_|refine Q6 ?_|refine Q7 ?_|refine Q8 ?_|refine Q9 ?_|refine Qa ?_|refine Qb ?_|refine Qc ?_|refine Qd ?_|refine Qe ?_|refine Qf ?_)|((with_reducible refine Qo ?_ ?_);focus rfl)|((with_reducible first|refine QT 32 (l:=?_) ?_ ?_|refine QF 32 (l:=?_) ?_ ?_);rotate_left 1;focus (simp only [Zu,Nat.reduceSub,Nat.reduceBEq];with_reducible rfl))|((with_reducible refine QC (b:=?_) ?_ ?_);rotate_left 1;focus ((with_reducible refine QW ?_);simp only [Zg,seval,if_true,if_false,reduceCtorEq,Nat.reduceEqDiff,g1,g2,ia,Int.toNat_zero];with_reducible rfl))));((with_reducible refine QS (cfg_ok 39) Tab.none (s':=?_) ?_ ?_);rotate_left 1;focus ((with_reducible refine QW ?_);simp only [Zg,seval,if_true,if_false,reduceCtorEq,Nat.reduceEqDiff,g1,g2,ia,Int.toNat_zero];with_reducible rfl));(repeat' (first|with_reducible (first|refine Q1 ?_|refine Q2 ?_|refine Q3 ?_|refine Q4 ?_|refine Q5 ?_|refine Q6 ?_|refine Q7 ?_|refine Q8 ?_|refine Q9 ?_|refine Qa ?_|refine Qb ?_|refine Qc ?_|refine Qd ?_|refine Qe ?_|refine Qf ?_)|((with_reducible refine Qo ?_ ?_);focus rfl)|((with_reducible first|refine QT 32 (l:=?_) ?_ ?_|refine QF 32 (l:=?_) ?_ ?_);rotate_left 1;focus (simp only [Zu,Nat.reduceSub,Nat.reduceBEq];with_reducible rfl))|((with_reducible refine QC (b:=?_) ?_ ?_);rotate_left 1;focus ((with_reducible refine QW ?_);simp only [Zg,seval,if_true,if_false,reduceCtorEq,Nat.reduceEqDiff,g1,g2,ia,Int.toNat_zero];with_reducible rfl)))))
  ((repeat' (first|with_reducible (first|refine Q1 ?_|refine Q2 ?_|refine Q3 ?_|refine Q4 ?_|refine Q5 ?_|refine Q6 ?_|refine Q7 ?_|refine Q8 ?_|refine Q9 ?_|refine Qa ?_|refine Qb ?_|refine Qc ?_|refine Qd ?_|refine Qe ?_|refine Qf ?_)|((with_reducible refine Qo ?_ ?_);focus rfl)|((with_reducible first|refine QT 32 (l:=?_) ?_ ?_|refine QF 32 (l:=?_) ?_ ?_);rotate_left 1;focus (simp only [Zu,Nat.reduceSub,Nat.reduceBEq];with_reducible rfl))|((with_reducible refine QC (b:=?_) ?_ ?_);rotate_left 1;focus ((with_reducible refine QW ?_);simp only [Zg,seval,if_true,if_false,reduceCtorEq,Nat.reduceEqDiff];with_reducible rfl))));(with_reducible refine RunK.regCut (cfg_ok 39) Tab.none 0 (s1:=?_) ?_ ?_);rotate_left 1;(focus ((with_reducible refine QW ?_);simp only [Zg,seval,if_true,if_false,reduceCtorEq,Nat.reduceEqDiff];with_reducible rfl));simp only [List.toList_toArray,List.drop_succ_cons,List.drop_zero])
  refine ROps.callS (cfg_ok 39) rfl (d:=21) rfl (by decide) rfl rfl rfl rfl hnf ?_
  (refine ROps.opsT (cfg_ok 39) (T:=Tab.none.at' 67 hu) (s':=?_) ?_ ?_;rotate_left 1;focus (simp only [Zg,seval,if_true,if_false,reduceCtorEq,Nat.reduceEqDiff,hul,List.map_cons,List.map_nil];with_reducible rfl))
  repeat' (first|with_reducible (first|refine Q1 ?_|refine Q2 ?_|refine Q3 ?_|refine Q4 ?_|refine Q5 ?_|refine Q6 ?_|refine Q7 ?_|refine Q8 ?_|refine Q9 ?_|refine Qa ?_|refine Qb ?_|refine Qc ?_|refine Qd ?_|refine Qe ?_|refine Qf ?_)|((with_reducible refine Qo ?_ ?_);focus rfl)|((with_reducible first|refine QT 32 (l:=?_) ?_ ?_|refine QF 32 (l:=?_) ?_ ?_);rotate_left 1;focus (simp only [Zu,Nat.reduceSub,Nat.reduceBEq];with_reducible rfl))|((with_reducible first|refine QS (cfg_ok 39) Tab.none (s':=?_) ?_ ?_|refine QC (b:=?_) ?_ ?_);rotate_left 1;focus ((with_reducible refine QW ?_);simp only [Zg,seval,if_true,if_false,reduceCtorEq,Nat.reduceEqDiff,i0,hul];with_reducible rfl)))
  refine RunK.loop (β:=Nat) (γ:=Unit) (fun i => ⟨[(0,.c (.val (.sl 1 ((a).map eI)))),(6,.optr 6 0 0),(7,.c (.own 7 38)),(30,.c (.val (.int n))),(31,.c (.val (.int i)))],[(6,.row 2 [[.sl 1 T,.sl 1 X]] false),(7,.row 1 ((pwM (a) i).map eI) true)]⟩) (fun i => i ≤ n) (fun i => n - i)
   (fun _ => ⟨[(7,.c (.own 7 38))],[(7,.row 1 ((pwM (a) n).map eI) true)]⟩) (fun _ => True) 0 (Nat.zero_le _) ?_ ?_ ?_
  ·(repeat' (first|with_reducible refine Qn|((with_reducible refine Qr ?_ ?_);focus (first|with_reducible rfl|(simp only [Zz,Nat.reduceBEq,Int.natCast_zero,show pwM (a) 0 = unitMap from rfl];done)|rfl))|((with_reducible refine Qj (o':=?_) ?_ ?_ ?_);rotate_left 1;focus rfl)|((with_reducible refine Qw ?_ ?_);(focus (first|with_reducible rfl|(simp only [Zv,Int.natCast_zero,show pwM (a) 0 = unitMap from rfl];done)));focus (first|exact id|exact (fun h => nomatch h)|exact (fun _ => rfl)))))
  ·intro i hi
   have hi:i ≤ n:=hi
   have hw:=w64_succ (n:=i) (by omega)
   by_cases hin:i < n
   ·have i1:((i:Int) < (n:Int)) = True:=eq_true (by omega)
    have hci:AFn Tryz.prog 60 [[.sl 1 T,.sl 1 X],[.sl 1 ((pwM (a) i).map eI)],[.sl 1 ((a).map eI)]] (· = [.own 1 ((pwM (a) (i + 1)).map eI) true]):=hcv i
    have hpi:=hpl i
    have hpj:=hpl (i + 1)
    repeat' (first|with_reducible (first|refine Q1 ?_|refine Q2 ?_|refine Q3 ?_|refine Q4 ?_|refine Q5 ?_|refine Q6 ?_|refine Q7 ?_|refine Q8 ?_|refine Q9 ?_|refine Qa ?_|refine Qb ?_|refine Qc ?_|refine Qd ?_|refine Qe ?_|refine Qf ?_)|((with_reducible refine Qo ?_ ?_);focus rfl)|((with_reducible first|refine QT 32 (l:=?_) ?_ ?_|refine QF 32 (l:=?_) ?_ ?_);rotate_left 1;focus (simp only [Zu,Nat.reduceSub,Nat.reduceBEq];with_reducible rfl))|((with_reducible first|refine QS (cfg_ok 39) (Tab.none.at' 60 hci) (s':=?_) ?_ ?_|refine QC (b:=?_) ?_ ?_);rotate_left 1;focus ((with_reducible refine QW ?_);simp only [Zg,seval,if_true,if_false,reduceCtorEq,Nat.reduceEqDiff,i1,hw,hpi,hpj];with_reducible rfl)))
    refine roundK.on (i + 1) ⟨hin,by omega⟩ ?_
    (repeat' (first|with_reducible refine Qn|((with_reducible refine Qr ?_ ?_);focus (first|with_reducible rfl|(simp only [Zz,Nat.reduceBEq];done)|rfl))|((with_reducible refine Qj (o':=?_) ?_ ?_ ?_);rotate_left 1;focus rfl)|((with_reducible refine Qw ?_ ?_);(focus (first|with_reducible rfl|(simp only [Zv];done)));focus (first|exact id|exact (fun h => nomatch h)|exact (fun _ => rfl)))))
   ·obtain rfl:i = n:=by omega
    have i1:((i:Int) < (i:Int)) = False:=eq_false (by omega)
    repeat' (first|with_reducible (first|refine Q1 ?_|refine Q2 ?_|refine Q3 ?_|refine Q4 ?_|refine Q5 ?_|refine Q6 ?_|refine Q7 ?_|refine Q8 ?_|refine Q9 ?_|refine Qa ?_|refine Qb ?_|refine Qc ?_|refine Qd ?_|refine Qe ?_|refine Qf ?_)|((with_reducible refine Qo ?_ ?_);focus rfl)|((with_reducible first|refine QT 32 (l:=?_) ?_ ?_|refine QF 32 (l:=?_) ?_ ?_);rotate_left 1;focus (simp only [Zu,Nat.reduceSub,Nat.reduceBEq];with_reducible rfl))|((with_reducible first|refine QS (cfg_ok 39) Tab.none (s':=?_) ?_ ?_|refine QC (b:=?_) ?_ ?_);rotate_left 1;focus ((with_reducible refine QW ?_);simp only [Zg,seval,if_true,if_false,reduceCtorEq,Nat.reduceEqDiff,i1];with_reducible rfl)))
    refine roundK.out () trivial ?_
    (repeat' (first|with_reducible refine Qn|((with_reducible refine Qr ?_ ?_);focus (first|with_reducible rfl|(simp only [Zz,Nat.reduceBEq];done)|rfl))|((with_reducible refine Qj (o':=?_) ?_ ?_ ?_);rotate_left 1;focus rfl)|((with_reducible refine Qw ?_ ?_);(focus (first|with_reducible rfl|(simp only [Zv];done)));focus (first|exact id|exact (fun h => nomatch h)|exact (fun _ => rfl)))))
  ·rintro _ _
   repeat' (first|with_reducible (first|refine Q1 ?_|refine Q2 ?_|refine Q3 ?_|refine Q4 ?_|refine Q5 ?_|refine Q6 ?_|refine Q7 ?_|refine Q8 ?_|refine Q9 ?_|refine Qa ?_|refine Qb ?_|refine Qc ?_|refine Qd ?_|refine Qe ?_|refine Qf ?_)|((with_reducible refine Qo ?_ ?_);focus rfl)|((with_reducible first|refine QT 32 (l:=?_) ?_ ?_|refine QF 32 (l:=?_) ?_ ?_);rotate_left 1;focus (simp only [Zu,Nat.reduceSub,Nat.reduceBEq];with_reducible rfl))|((with_reducible first|refine QS (cfg_ok 39) Tab.none (s':=?_) ?_ ?_|refine QC (b:=?_) ?_ ?_);rotate_left 1;focus ((with_reducible refine QW ?_);simp only [Zg,seval,if_true,if_false,reduceCtorEq,Nat.reduceEqDiff];with_reducible rfl)))
   (refine Ends.mk (by simp) (rs:=?_) (ks:=?_) hres hrts ?_ ?_ ?_;rotate_left 2;(focus (simp only [Ze,Zg,seval,if_true,if_false,reduceCtorEq,Nat.reduceEqDiff];with_reducible rfl));(focus simp);focus (first|with_reducible rfl|(simp only [Zv];done)))
theorem k_impl_PowerOfMap (v:Value) (k:Int) (a:List Int) (w:World) (h:Rd (RS RI) w [v] a) (hk:In64 k):Calls Tryz.prog 26 #[v,.int .i64 k] w (RetOC (RS RI) w (pwOf a k).1 (pwOf a k).2) :=
 AFn.oi encI (a_impl_PowerOfMap a k) (args2 (arg_L h) (arg_I hk))
end Go.Proofs.YtfhmonacgmakbaaGreat
namespace Go.Proofs.YtfhmonacgmakbaaGreat
open Go.RowKit
set_option maxHeartbeats 1000000 in
theorem walk_FnExactPowerOfMap (v0:Value) (x1:Int) (x0:List Int) (w:World) (h0:Rd (RS RI) w [v0] x0) (h1:In64 x1):Calls Tryz.prog 7 #[v0,.int .i64 x1] w (RetV w (.bool true)):=by
 obtain ⟨a0,c0,hv0,hl0,hm0⟩:=h0.val
 unfold maxLen at hm0
 by_cases z0:x0.length ≤ 1048576
 rotate_left
 ·subst hv0
  go_enter Tryz.func7,Tryz.ntmps7
  go_wp2_with fail
  go_ret
  exact ⟨rfl,Below.refl _ _⟩
 subst hv0
 go_enter Tryz.func7,Tryz.ntmps7
 go_wp2_with fail
 refine (to_I _ x0 _ h0 z0).mono ?_
 rintro e w1 ⟨u1,rfl,o1,B1⟩
 have s1:=B1.size
 have BB:=B1.mono (B':=w.heap.size) (by omega)
 go_wp2_with fail
 refine (k_spec_PowerOfMap _ x1 x0 _ o1.rd h1).mono ?_
 rintro e w2 ⟨u2,rfl,o2,B2⟩
 have s2:=B2.size
 replace o1:=o1.below B2 (by omega)
 replace BB:=BB.trans (B2.mono (B':=w.heap.size) (by omega))
 go_wp2_with fail
 refine (to_I _ x0 _ (h0.below BB (Nat.le_refl _)) z0).mono ?_
 rintro e w3 ⟨u3,rfl,o3,B3⟩
 have s3:=B3.size
 replace o1:=o1.below B3 (by omega)
 replace o2:=o2.below B3 (by omega)
 replace BB:=BB.trans (B3.mono (B':=w.heap.size) (by omega))
 go_wp2_with fail
 refine (k_impl_PowerOfMap _ x1 x0 _ o3.rd h1).mono ?_
 rintro e w4 ⟨u4,rfl,o4,B4⟩
 have s4:=B4.size
 replace o1:=o1.below B4 (by omega)
 replace o2:=o2.below B4 (by omega)
 replace o3:=o3.below B4 (by omega)
 replace BB:=BB.trans (B4.mono (B':=w.heap.size) (by omega))
 go_wp2_with fail
 refine (eqv_I _ _ (pwOf x0 x1).1 _ o4.rd o2.rd).mono ?_
 rintro e w5 ⟨rfl,B5⟩
 have s5:=B5.size
 replace o1:=o1.below B5 (by omega)
 replace o2:=o2.below B5 (by omega)
 replace o3:=o3.below B5 (by omega)
 replace o4:=o4.below B5 (by omega)
 replace BB:=BB.trans (B5.mono (B':=w.heap.size) (by omega))
 go_wp2_with fail
 refine (to_I _ x0 _ (h0.below BB (Nat.le_refl _)) z0).mono ?_
 rintro e w6 ⟨u6,rfl,o6,B6⟩
 have s6:=B6.size
 replace o1:=o1.below B6 (by omega)
 replace o2:=o2.below B6 (by omega)
 replace o3:=o3.below B6 (by omega)
 replace o4:=o4.below B6 (by omega)
 replace BB:=BB.trans (B6.mono (B':=w.heap.size) (by omega))
 go_wp2_with fail
 refine (eqv_I _ _ x0 _ o3.rd o6.rd).mono ?_
 rintro e w7 ⟨rfl,B7⟩
 have s7:=B7.size
 replace o1:=o1.below B7 (by omega)
 replace o2:=o2.below B7 (by omega)
 replace o3:=o3.below B7 (by omega)
 replace o4:=o4.below B7 (by omega)
 replace o6:=o6.below B7 (by omega)
 replace BB:=BB.trans (B7.mono (B':=w.heap.size) (by omega))
 go_wp2_with fail
 have p8:=cntb_I x0 z0
 refine (mark_I _ x0 _ _ 1 _ o3 (by omega) (by omega)).mono ?_
 rintro e w8 ⟨rfl,o3n,B8⟩
 have s8:=B8.size
 replace o1:=o1.apart B8 (by omega)
 replace o2:=o2.apart B8 (by omega)
 replace o4:=o4.apart B8 (by omega)
 replace o6:=o6.apart B8 (by omega)
 replace o3:=o3n
 clear o3n
 replace BB:=BB.trans (B8.below (B:=w.heap.size) (by omega) (by omega))
 go_wp2_with fail
 refine (eqv_I _ _ (pwOf x0 x1).1 _ o4.rd o2.rd).mono ?_
 rintro e w9 ⟨rfl,B9⟩
 have s9:=B9.size
 replace o1:=o1.below B9 (by omega)
 replace o2:=o2.below B9 (by omega)
 replace o3:=o3.below B9 (by omega)
 replace o4:=o4.below B9 (by omega)
 replace o6:=o6.below B9 (by omega)
 replace BB:=BB.trans (B9.mono (B':=w.heap.size) (by omega))
 go_wp2_with fail
 have p10:=pwOf_cnt x0 x1
 refine (mark_I _ (pwOf x0 x1).1 _ _ 1 _ o4 (by omega) (by omega)).mono ?_
 rintro e w10 ⟨rfl,o4n,B10⟩
 have s10:=B10.size
 replace o1:=o1.apart B10 (by omega)
 replace o2:=o2.apart B10 (by omega)
 replace o3:=o3.apart B10 (by omega)
 replace o6:=o6.apart B10 (by omega)
 replace o4:=o4n
 clear o4n
 replace BB:=BB.trans (B10.below (B:=w.heap.size) (by omega) (by omega))
 go_wp2_with fail
 refine (held_I _ (pwOf x0 x1).1 1 _ o4.rd (by omega) (by omega)).mono ?_
 rintro e w11 ⟨rfl,rfl⟩
 go_wp2_with fail
 refine (to_I _ x0 _ (h0.below BB (Nat.le_refl _)) z0).mono ?_
 rintro e w12 ⟨u12,rfl,o12,B12⟩
 have s12:=B12.size
 replace o1:=o1.below B12 (by omega)
 replace o2:=o2.below B12 (by omega)
 replace o3:=o3.below B12 (by omega)
 replace o4:=o4.below B12 (by omega)
 replace o6:=o6.below B12 (by omega)
 replace BB:=BB.trans (B12.mono (B':=w.heap.size) (by omega))
 go_wp2_with fail
 refine (k_impl_PowerOfMap _ x1 x0 _ o12.rd h1).mono ?_
 rintro e w13 ⟨u13,rfl,o13,B13⟩
 have s13:=B13.size
 replace o1:=o1.below B13 (by omega)
 replace o2:=o2.below B13 (by omega)
 replace o3:=o3.below B13 (by omega)
 replace o4:=o4.below B13 (by omega)
 replace o6:=o6.below B13 (by omega)
 replace o12:=o12.below B13 (by omega)
 replace BB:=BB.trans (B13.mono (B':=w.heap.size) (by omega))
 go_wp2_with fail
 refine (eqv_I _ _ (pwOf x0 x1).1 _ o13.rd o2.rd).mono ?_
 rintro e w14 ⟨rfl,B14⟩
 have s14:=B14.size
 replace o1:=o1.below B14 (by omega)
 replace o2:=o2.below B14 (by omega)
 replace o3:=o3.below B14 (by omega)
 replace o4:=o4.below B14 (by omega)
 replace o6:=o6.below B14 (by omega)
 replace o12:=o12.below B14 (by omega)
 replace o13:=o13.below B14 (by omega)
 replace BB:=BB.trans (B14.mono (B':=w.heap.size) (by omega))
 go_wp2_with fail
 refine (held_I _ (pwOf x0 x1).1 1 _ o4.rd (by omega) (by omega)).mono ?_
 rintro e w15 ⟨rfl,rfl⟩
 go_wp2_with fail
 go_ret
 exact ⟨rfl,BB⟩
end Go.Proofs.YtfhmonacgmakbaaGreat
