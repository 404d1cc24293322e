/- Lemmas (9). -/
import Derived.Laws.Shifts
import Derived.Lib.AppendZeros
import Derived.WalkArith
import Derived.Test.YtfhmonacgmakbaaZA6
import Derived.Test.YtfhmonacgmakbaaZA7
import Derived.Test.YtfhmonacgmakbaaZA8
set_option linter.unusedSimpArgs false
set_option linter.unusedVariables false
namespace Go.Proofs.Ytfhmonacgmakbaa
open Go.RowKit
set_option maxRecDepth 100000 in
set_option maxHeartbeats 400000 in
theorem c_slicesGrowL (n:Nat) (w:World) (hn:n ≤ 1000000000):Calls Try.prog 80 #[.slice none 0 0,.int .i64 n] w (RetO (RS (RS RI)) w []):=by
 by_cases h0:n = 0
 ·subst h0
  go_enter Try.func80,Try.ntmps80
  go_wp2_with fail
  go_ret
  exact ⟨_,rfl,Own.nil _ _,Below.refl _ _⟩
 ·obtain ⟨ht,⟨i,hi,hz,hsz,hby⟩,_,_⟩:=tI64S
  have hr:=Lib.run_append_nil_zeros (P:=Try.prog) w 39 3 39 22 i (.slice none 0 0) .i64 .i64 ht Try.underlying3 hi hz n (by omega) (by omega) (by omega) (by rw [hby];omega)
  have hge:=grownCap_ge w n 0 22
  have hcm:grownCap w n 0 22 ≤ maxLen:=grownCap_le_maxLen w n 0 22 (by unfold maxLen;omega)
  obtain ⟨cp,hcp⟩:∃ cp,cp = grownCap w n 0 22:=⟨_,rfl⟩
  rw [← hcp] at hr hge hcm
  obtain ⟨cur,hcur⟩:∃ cur,cur = Builtin.zeroCells (Value.slice none 0 0).cells n ++ Builtin.zeroCells (Value.slice none 0 0).cells (cp - n):=⟨_,rfl⟩
  have hcs:cur.size = cp * 1:=by
   rw [hcur,Array.size_append,size_zeroCells,size_zeroCells]
   show n * 1 + (cp - n) * 1 = cp * 1
   omega
  rw [← hcur] at hr
  have hrow:Row (w.drew.alloc (.cells cur 22)) (.slice (some ⟨w.heap.size,0,none⟩) 0 cp) 1 0 [] (some w.heap.size) :=
   ⟨rfl,.inr ⟨w.heap.size,cp,cur,22,rfl,rfl,Go.heap_alloc_new w.drew _,Nat.zero_le _,hcm,hcs,by simp⟩⟩
  have hown:Own (RS (RS RI)) w.heap.size (w.drew.alloc (.cells cur 22)).heap.size (w.drew.alloc (.cells cur 22)) [.slice (some ⟨w.heap.size,0,none⟩) 0 cp] [] :=
   Own.mk' (og:=some w.heap.size) (F:=[]) (ds:=[]) hrow ⟨rfl,rfl⟩ (by simp) (fun b hb => by simp at hb;subst hb;simp)
  have hbel:Below w.heap.size w (w.drew.alloc (.cells cur 22)):=⟨rfl,rfl,rfl,by simp,fun k hk => Below.heap_alloc w.drew _ k hk⟩
  have HR:=Lib.hid hr
  have HO:=Lib.hid hown
  have hp:(0:Int) < (n:Int):=by omega
  have hp2:¬ ((n:Int) < 0):=by omega
  unfold maxLen at hcm
  clear hr hown hrow hcp hcur hi hz hsz hby ht hcs
  go_enter Try.func80,Try.ntmps80
  go_wp2_with (at_builtin;refine StopAt (o:=⟨some 22,_,_,_,_,_⟩) ?_)
  refine Stop.go ?_
  refine Lib.wpList_append_run w rfl _ _ _ _ rfl _ _ rfl rfl _ _ HR.out ?_
  go_wp2_with fail
  go_ret
  exact ⟨_,rfl,HO.out,hbel⟩
theorem a_slicesGrowL (n:Nat) (hn:n ≤ 1000000000):AFn Try.prog 80 [[.raw (.slice none 0 0)],eI n] (· = [.own 1 [] true]) :=
 AFn.of_o (xs:=[]) (encS encI) (enters_of Try.func80 rfl rfl) (fun w A vs ⟨v1,_,e1,h1,v2,_,e2,h2,e3⟩ => by
  subst e3;subst e2;subst e1
  rw [arg_int h2,(rdV_raw.1 h1).1]
  exact c_slicesGrowL n w hn)
def eLLL' (x:List (List Int)):List D:=[.sl 1 (x.map eL)]
def cntL (bs:List (List (List Int))):Nat:=(bs.map List.length).sum
theorem cntL_take_succ (bs:List (List (List Int))) (k:Nat) (h:k < bs.length):cntL (bs.take (k + 1)) = cntL (bs.take k) + bs[k].length:=by
 unfold cntL
 rw [List.take_succ_eq_append_getElem h,List.map_append,List.sum_append];simp
theorem cntL_flat (bs:List (List (List Int))):bs.flatten.length = cntL bs:=by simp [cntL,List.length_flatten]
theorem cntL_take (bs:List (List (List Int))) (k:Nat):cntL (bs.take k) ≤ cntL bs:=by
 rw [← cntL_flat,← cntL_flat]
 conv => rhs;rw [← List.take_append_drop k bs]
 rw [List.flatten_append,List.length_append]
 omega
set_option maxHeartbeats 4000000 in
theorem a_slicesConcatL (bs:List (List (List Int))) (hsz:cntL bs ≤ 1000000) (hl:bs.length ≤ 1000000):AFn Try.prog 65 [[.sl 1 (bs.map eLLL')]] (· = [.own 1 (bs.flatten.map eL) false]):=by
 refine AFn.of_runs (cfg_ok 36) Try.func65 rfl rfl rfl (by simp only [List.length_cons,List.length_nil];decide) ?_
 have hres:Try.f65.results.toList = [.tmp 2]:=rfl
 have hrts:Try.f65.resultTypes.toList = [39]:=rfl
 simp only [argRegs,argAV1,eL,eI,eLL,eB,Nat.zero_add,Nat.reduceAdd]
 intro M
 refine RunK.of ?_
 repeat' (first|with_reducible (first|refine Q1 ?_|refine Q2 ?_|refine Q3 ?_|refine Q4 ?_|refine Q5 ?_|refine Q6 ?_|refine Q7 ?_|refine Q8 ?_|refine Q9 ?_|refine Qa ?_|refine Qb ?_|refine Qc ?_|refine Qd ?_|refine Qe ?_|refine Qf ?_)|((with_reducible refine Qo ?_ ?_);focus rfl)|((with_reducible first|refine QT 28 (l:=?_) ?_ ?_|refine QF 28 (l:=?_) ?_ ?_);rotate_left 1;focus (simp only [Zu,Nat.reduceSub,Nat.reduceBEq];with_reducible rfl))|((with_reducible first|refine QS (cfg_ok 36) Tab.none (s':=?_) ?_ ?_|refine QC (b:=?_) ?_ ?_);rotate_left 1;focus ((with_reducible refine QW ?_);simp only [Zg,seval,if_true,if_false,reduceCtorEq,Nat.reduceEqDiff,List.length_map];with_reducible rfl)))
 refine RunK.loop (β:=Nat) (γ:=Unit) (fun i => ⟨[(0,.c (.val (.sl 1 (bs.map eLLL')))),(3,.c (.val (.int (cntL (bs.take i):Nat)))),(9,.c (.val (.sl 1 (bs.map eLLL')))),(10,.c (.val (.int bs.length))),(11,.c (.val (.int i)))],[]⟩) (fun i => i ≤ bs.length) (fun i => bs.length - i)
  (fun _ => ⟨[(0,.c (.val (.sl 1 (bs.map eLLL')))),(3,.c (.val (.int (cntL bs:Nat))))],[]⟩) (fun _ => True) 0 (Nat.zero_le _) ?_ ?_ ?_
 ·(repeat' (first|with_reducible refine Qn|((with_reducible refine Qr ?_ ?_);focus (first|with_reducible rfl|(simp only [Zz,Nat.reduceBEq,List.take_zero,show cntL [] = 0 from rfl,List.length_map];done)|rfl))|((with_reducible refine Qj (o':=?_) ?_ ?_ ?_);rotate_left 1;focus rfl)|((with_reducible refine Qw ?_ ?_);(focus (first|with_reducible rfl|(simp only [Zv,List.take_zero,show cntL [] = 0 from rfl,List.length_map];done)));focus (first|exact id|exact (fun h => nomatch h)|exact (fun _ => rfl)))))
 ·intro i hi
  have hi:i ≤ bs.length:=hi
  have hw:=w64_succ (n:=i) (by omega)
  by_cases h:i < bs.length
  ·have i1:((i:Int) < (bs.length:Int)) = True:=eq_true (by omega)
   have i2:((0:Int) ≤ (i:Int)) = True:=eq_true (by omega)
   obtain ⟨f,hf⟩:∃ f,f = bs[i]:=⟨_,rfl⟩
   have hg:(bs.map eLLL')[i]? = some [.sl 1 (f.map eL)]:=by rw [map_get h,hf];rfl
   have hst:=cntL_take_succ bs i h
   have hle:=cntL_take bs (i + 1)
   rw [← hf] at hst
   have hws:w64 ((cntL (bs.take i):Int) + (f.length:Int)) = ((cntL (bs.take (i + 1)):Nat):Int):=by rw [w64_eq (by omega)];omega
   have j1:(((cntL (bs.take (i + 1)):Nat):Int) < 0) = False:=eq_false (by omega)
   repeat' (first|with_reducible (first|refine Q1 ?_|refine Q2 ?_|refine Q3 ?_|refine Q4 ?_|refine Q5 ?_|refine Q6 ?_|refine Q7 ?_|refine Q8 ?_|refine Q9 ?_|refine Qa ?_|refine Qb ?_|refine Qc ?_|refine Qd ?_|refine Qe ?_|refine Qf ?_)|((with_reducible refine Qo ?_ ?_);focus rfl)|((with_reducible first|refine QT 28 (l:=?_) ?_ ?_|refine QF 28 (l:=?_) ?_ ?_);rotate_left 1;focus (simp only [Zu,Nat.reduceSub,Nat.reduceBEq];with_reducible rfl))|((with_reducible first|refine QS (cfg_ok 36) Tab.none (s':=?_) ?_ ?_|refine QC (b:=?_) ?_ ?_);rotate_left 1;focus ((with_reducible refine QW ?_);simp only [Zg,seval,if_true,if_false,reduceCtorEq,Nat.reduceEqDiff,i1,i2,hg,hw,hws,j1,Int.toNat_natCast,List.length_map];with_reducible rfl)))
   refine roundK.on (i + 1) ⟨h,by omega⟩ ?_
   (repeat' (first|with_reducible refine Qn|((with_reducible refine Qr ?_ ?_);focus (first|with_reducible rfl|(simp only [Zz,Nat.reduceBEq];done)|rfl))|((with_reducible refine Qj (o':=?_) ?_ ?_ ?_);rotate_left 1;focus rfl)|((with_reducible refine Qw ?_ ?_);(focus (first|with_reducible rfl|(simp only [Zv];done)));focus (first|exact id|exact (fun h => nomatch h)|exact (fun _ => rfl)))))
  ·have i1:((i:Int) < (bs.length:Int)) = False:=eq_false (by omega)
   obtain rfl:i = bs.length:=by omega
   rw [List.take_length]
   repeat' (first|with_reducible (first|refine Q1 ?_|refine Q2 ?_|refine Q3 ?_|refine Q4 ?_|refine Q5 ?_|refine Q6 ?_|refine Q7 ?_|refine Q8 ?_|refine Q9 ?_|refine Qa ?_|refine Qb ?_|refine Qc ?_|refine Qd ?_|refine Qe ?_|refine Qf ?_)|((with_reducible refine Qo ?_ ?_);focus rfl)|((with_reducible first|refine QT 28 (l:=?_) ?_ ?_|refine QF 28 (l:=?_) ?_ ?_);rotate_left 1;focus (simp only [Zu,Nat.reduceSub,Nat.reduceBEq];with_reducible rfl))|((with_reducible first|refine QS (cfg_ok 36) Tab.none (s':=?_) ?_ ?_|refine QC (b:=?_) ?_ ?_);rotate_left 1;focus ((with_reducible refine QW ?_);simp only [Zg,seval,if_true,if_false,reduceCtorEq,Nat.reduceEqDiff,i1];with_reducible rfl)))
   refine roundK.out () trivial ?_
   (repeat' (first|with_reducible refine Qn|((with_reducible refine Qr ?_ ?_);focus (first|with_reducible rfl|(simp only [Zz,Nat.reduceBEq];done)|rfl))|((with_reducible refine Qj (o':=?_) ?_ ?_ ?_);rotate_left 1;focus rfl)|((with_reducible refine Qw ?_ ?_);(focus (first|with_reducible rfl|(simp only [Zv];done)));focus (first|exact id|exact (fun h => nomatch h)|exact (fun _ => rfl)))))
 ·rintro _ _
  have hgr:=a_slicesGrowL (cntL bs) (by omega)
  repeat' (first|with_reducible (first|refine Q1 ?_|refine Q2 ?_|refine Q3 ?_|refine Q4 ?_|refine Q5 ?_|refine Q6 ?_|refine Q7 ?_|refine Q8 ?_|refine Q9 ?_|refine Qa ?_|refine Qb ?_|refine Qc ?_|refine Qd ?_|refine Qe ?_|refine Qf ?_)|((with_reducible refine Qo ?_ ?_);focus rfl)|((with_reducible first|refine QT 28 (l:=?_) ?_ ?_|refine QF 28 (l:=?_) ?_ ?_);rotate_left 1;focus (simp only [Zu,Nat.reduceSub,Nat.reduceBEq];with_reducible rfl))|((with_reducible first|refine QS (cfg_ok 36) Tab.none (s':=?_) ?_ ?_|refine QC (b:=?_) ?_ ?_);rotate_left 1;focus ((with_reducible refine QW ?_);simp only [Zg,seval,if_true,if_false,reduceCtorEq,Nat.reduceEqDiff,List.length_map];with_reducible rfl)))
  refine RunK.regCut (cfg_ok 36) Tab.none 1 (s1:=?_) ?_ ?_
  rotate_left 1
  focus (refine Work.mk ?_;simp only [Zg,seval,if_true,if_false,reduceCtorEq,Nat.reduceEqDiff];with_reducible rfl)
  simp only [List.toList_toArray,List.drop_succ_cons,List.drop_zero]
  refine ROps.callNilP (cfg_ok 36) (d:=24) (g:=80) (xs:=[]) (tx:=[]) (pre:=[]) (ys:=[.tmp 23]) (ty:=[3]) (post:=[eI (cntL bs:Nat)]) rfl (by decide) rfl rfl rfl rfl rfl rfl rfl rfl hgr rfl ?_
  refine ROps.opsT (cfg_ok 36) (T:=Tab.none) (s':=?_) ?_ ?_
  rotate_left 1
  focus (simp only [Zg,seval,if_true,if_false,reduceCtorEq,Nat.reduceEqDiff];with_reducible rfl)
  repeat' (first|with_reducible (first|refine Q1 ?_|refine Q2 ?_|refine Q3 ?_|refine Q4 ?_|refine Q5 ?_|refine Q6 ?_|refine Q7 ?_|refine Q8 ?_|refine Q9 ?_|refine Qa ?_|refine Qb ?_|refine Qc ?_|refine Qd ?_|refine Qe ?_|refine Qf ?_)|((with_reducible refine Qo ?_ ?_);focus rfl)|((with_reducible first|refine QT 28 (l:=?_) ?_ ?_|refine QF 28 (l:=?_) ?_ ?_);rotate_left 1;focus (simp only [Zu,Nat.reduceSub,Nat.reduceBEq];with_reducible rfl))|((with_reducible first|refine QS (cfg_ok 36) Tab.none (s':=?_) ?_ ?_|refine QC (b:=?_) ?_ ?_);rotate_left 1;focus ((with_reducible refine QW ?_);simp only [Zg,seval,if_true,if_false,reduceCtorEq,Nat.reduceEqDiff,List.length_map];with_reducible rfl)))
  refine RunK.loop (β:=Nat) (γ:=Unit) (fun i => ⟨[(6,.c (.own 6 (bs.take i).flatten.length)),(25,.c (.val (.sl 1 (bs.map eLLL')))),(26,.c (.val (.int bs.length))),(27,.c (.val (.int i)))],[(6,.row 1 ((bs.take i).flatten.map eL) false)]⟩) (fun i => i ≤ bs.length) (fun i => bs.length - i)
   (fun _ => ⟨[(6,.c (.own 6 bs.flatten.length))],[(6,.row 1 (bs.flatten.map eL) false)]⟩) (fun _ => True) 0 (Nat.zero_le _) ?_ ?_ ?_
  ·(repeat' (first|with_reducible refine Qn|((with_reducible refine Qr ?_ ?_);focus (first|with_reducible rfl|(simp only [Zz,Nat.reduceBEq,List.take_zero,List.flatten_nil,List.map_nil,List.length_map];done)|rfl))|((with_reducible refine Qj (o':=?_) ?_ ?_ ?_);rotate_left 1;focus rfl)|((with_reducible refine Qw ?_ ?_);(focus (first|with_reducible rfl|(simp only [Zv,List.take_zero,List.flatten_nil,List.map_nil,List.length_map];done)));focus (first|exact id|exact (fun h => nomatch h)|exact (fun _ => rfl)))))
  ·intro i hi
   have hi:i ≤ bs.length:=hi
   have hw:=w64_succ (n:=i) (by omega)
   by_cases h:i < bs.length
   ·have i1:((i:Int) < (bs.length:Int)) = True:=eq_true (by omega)
    have i2:((0:Int) ≤ (i:Int)) = True:=eq_true (by omega)
    obtain ⟨f,hf⟩:∃ f,f = bs[i]:=⟨_,rfl⟩
    have hg:(bs.map eLLL')[i]? = some [.sl 1 (f.map eL)]:=by rw [map_get h,hf];rfl
    have hst:=cntL_take_succ bs i h
    have hle:=cntL_take bs (i + 1)
    rw [← hf] at hst
    have hfl:(bs.take (i + 1)).flatten = (bs.take i).flatten ++ f:=by rw [List.take_succ_eq_append_getElem h,List.flatten_append,hf];simp
    have hcl:=cntL_flat (bs.take i)
    have q1:=big_le (n:=(bs.take i).flatten.length + f.length) (by omega)
    have q2:=big_mul (n:=(bs.take i).flatten.length + f.length) (c:=24) (by omega) (by omega)
    repeat' (first|with_reducible (first|refine Q1 ?_|refine Q2 ?_|refine Q3 ?_|refine Q4 ?_|refine Q5 ?_|refine Q6 ?_|refine Q7 ?_|refine Q8 ?_|refine Q9 ?_|refine Qa ?_|refine Qb ?_|refine Qc ?_|refine Qd ?_|refine Qe ?_|refine Qf ?_)|((with_reducible refine Qo ?_ ?_);focus rfl)|((with_reducible first|refine QT 28 (l:=?_) ?_ ?_|refine QF 28 (l:=?_) ?_ ?_);rotate_left 1;focus (simp only [Zu,Nat.reduceSub,Nat.reduceBEq];with_reducible rfl))|((with_reducible first|refine QS (cfg_ok 36) Tab.none (s':=?_) ?_ ?_|refine QC (b:=?_) ?_ ?_);rotate_left 1;focus ((with_reducible refine QW ?_);simp only [Zg,seval,if_true,if_false,reduceCtorEq,Nat.reduceEqDiff,i1,i2,hg,hw,q1,q2,Int.toNat_natCast,List.length_map];with_reducible rfl)))
    refine roundK.on (i + 1) ⟨h,by omega⟩ ?_
    rw [hfl]
    (repeat' (first|with_reducible refine Qn|((with_reducible refine Qr ?_ ?_);focus (first|with_reducible rfl|(simp only [Zz,Nat.reduceBEq];done)|rfl))|((with_reducible refine Qj (o':=?_) ?_ ?_ ?_);rotate_left 1;focus rfl)|((with_reducible refine Qw ?_ ?_);(focus (first|with_reducible rfl|(simp only [Zv];done)));focus (first|exact id|exact (fun h => nomatch h)|exact (fun _ => rfl)))))
   ·have i1:((i:Int) < (bs.length:Int)) = False:=eq_false (by omega)
    obtain rfl:i = bs.length:=by omega
    rw [List.take_length]
    repeat' (first|with_reducible (first|refine Q1 ?_|refine Q2 ?_|refine Q3 ?_|refine Q4 ?_|refine Q5 ?_|refine Q6 ?_|refine Q7 ?_|refine Q8 ?_|refine Q9 ?_|refine Qa ?_|refine Qb ?_|refine Qc ?_|refine Qd ?_|refine Qe ?_|refine Qf ?_)|((with_reducible refine Qo ?_ ?_);focus rfl)|((with_reducible first|refine QT 28 (l:=?_) ?_ ?_|refine QF 28 (l:=?_) ?_ ?_);rotate_left 1;focus (simp only [Zu,Nat.reduceSub,Nat.reduceBEq];with_reducible rfl))|((with_reducible first|refine QS (cfg_ok 36) Tab.none (s':=?_) ?_ ?_|refine QC (b:=?_) ?_ ?_);rotate_left 1;focus ((with_reducible refine QW ?_);simp only [Zg,seval,if_true,if_false,reduceCtorEq,Nat.reduceEqDiff,i1];with_reducible rfl)))
    refine roundK.out () trivial ?_
    (repeat' (first|with_reducible refine Qn|((with_reducible refine Qr ?_ ?_);focus (first|with_reducible rfl|(simp only [Zz,Nat.reduceBEq];done)|rfl))|((with_reducible refine Qj (o':=?_) ?_ ?_ ?_);rotate_left 1;focus rfl)|((with_reducible refine Qw ?_ ?_);(focus (first|with_reducible rfl|(simp only [Zv];done)));focus (first|exact id|exact (fun h => nomatch h)|exact (fun _ => rfl)))))
  ·rintro _ _
   repeat' (first|with_reducible (first|refine Q1 ?_|refine Q2 ?_|refine Q3 ?_|refine Q4 ?_|refine Q5 ?_|refine Q6 ?_|refine Q7 ?_|refine Q8 ?_|refine Q9 ?_|refine Qa ?_|refine Qb ?_|refine Qc ?_|refine Qd ?_|refine Qe ?_|refine Qf ?_)|((with_reducible refine Qo ?_ ?_);focus rfl)|((with_reducible first|refine QT 28 (l:=?_) ?_ ?_|refine QF 28 (l:=?_) ?_ ?_);rotate_left 1;focus (simp only [Zu,Nat.reduceSub,Nat.reduceBEq];with_reducible rfl))|((with_reducible first|refine QS (cfg_ok 36) Tab.none (s':=?_) ?_ ?_|refine QC (b:=?_) ?_ ?_);rotate_left 1;focus ((with_reducible refine QW ?_);simp only [Zg,seval,if_true,if_false,reduceCtorEq,Nat.reduceEqDiff];with_reducible rfl)))
   (refine Ends.mk (by simp) (rs:=?_) (ks:=?_) hres hrts ?_ ?_ ?_;rotate_left 2;(focus (simp only [Ze,Zg,seval,if_true,if_false,reduceCtorEq,Nat.reduceEqDiff];with_reducible rfl));(focus simp);focus (first|with_reducible rfl|(simp only [Zv];done)))
end Go.Proofs.Ytfhmonacgmakbaa
namespace Go.Proofs.Ytfhmonacgmakbaa
open Go.RowKit
def codLLL:Cod (List (List (List Int))):=codS 1 codLL
theorem codLLL_d (f g:List (List Int)):codLLL.d [.sl 1 [[.sl 1 (f.map eL)],[.sl 1 (g.map eL)]]] = some [f,g]:=codLLL.de [f,g]
def cat2:List (List (List Int))→Option (List Res)
 | [f,g] => if SmF f∧SmF g then some [.val (.sl 1 ((f ++ g).map eL))] else none
 | _ => none
theorem cat2_eq (f g:List (List Int)):cat2 [f,g] = if SmF f∧SmF g then some [.val (.sl 1 ((f ++ g).map eL))] else none:=rfl
noncomputable def TCat:Tab Try.prog :=
 Tab.none.add 65 (tab1 codLLL cat2) (tab1_ok fun bs rs h => by
  unfold cat2 at h
  split at h
  ·rename_i f g
   split at h
   ·rename_i hs
    cases h
    have hc:=AFn.val1 (a_slicesConcatL [f,g] (by simp [cntL];have:=hs.1.1;have:=hs.2.1;omega) (by simp))
    simp only [List.flatten_cons,List.flatten_nil,List.append_nil] at hc
    exact hc
   ·cases h
  ·cases h)
theorem a_branchesOf (t:List Int) (h:LevP t) (hl:t.length ≤ 1000):AFn Try.prog 49 [eL t] (· = [.own 1 ((brs t).map eL) true]) :=
 afn_L_oo (enters_of Try.func49 rfl rfl) (fun u w h' => c_impl_branchesOf u t w h' h (by omega))
theorem foldS_snoc (A:List Spl) (Ls:List (List Spl)) (L:List Spl):foldS A (Ls ++ [L]) = (foldS A Ls).flatMap fun s => L.map (catS s):=by unfold foldS;rw [List.foldl_append];rfl
theorem flatS_len (A L:List Spl):(A.flatMap fun s => L.map (catS s)).length = A.length * L.length:=by
 induction A with
 | nil => simp
 | cons a A ih => rw [List.flatMap_cons,List.length_append,ih,List.length_map,List.length_cons,Nat.succ_mul,Nat.add_comm]
set_option maxRecDepth 20000 in
set_option maxHeartbeats 8000000 in
theorem a_splitTree:∀ (n:Nat),n ≤ 8→∀ t:List Int,LevP t→t.length ≤ n→AFn Try.prog 51 [eL t] (· = [.own 3 ((split t).map eS0) false])
 | 0,_,t,h,hn => by have:=h.pos;omega
 | n + 1,hn8,t,h,hn => by
  have hsb:=sumLen_brs h
  have hlev:=brs_lev h
  have hbr:=AFn.valT (a_branchesOf t h (by omega))
  have hbl:(brs t).length ≤ 8:=by have:=brs_few h;omega
  have hca:=AFn.valT (a_canonical13 t h (by omega))
  simp only [eL,eLL] at hbr hca
  have hAg:∀ k,(∀ s ∈ prodS (((brs t).take k).map split),GoodS (sumLen ((brs t).take k)) s)∧(prodS (((brs t).take k).map split)).length ≤ 256∧sumLen ((brs t).take k) ≤ 7:=fun k => by
   have h1:=sumLen_take' (brs t) k
   exact ⟨prod_good (mem_take hlev),prod_len (mem_take hlev) (by omega),by omega⟩
  rw [split_eq h]
  refine AFn.of_runs (cfg_ok 80) Try.func51 rfl rfl rfl (by simp only [List.length_cons,List.length_nil];decide) ?_
  have hres:Try.f51.results.toList = [.tmp 2]:=rfl
  have hrts:Try.f51.resultTypes.toList = [69]:=rfl
  simp only [argRegs,argAV1,eL,eI,eLL,eB,Nat.zero_add,Nat.reduceAdd]
  intro M
  refine RunK.of ?_
  repeat' (first|with_reducible (first|refine Q1 ?_|refine Q2 ?_|refine Q3 ?_|refine Q4 ?_|refine Q5 ?_|refine Q6 ?_|refine Q7 ?_|refine Q8 ?_|refine Q9 ?_|refine Qa ?_|refine Qb ?_|refine Qc ?_|refine Qd ?_|refine Qe ?_|refine Qf ?_)|((with_reducible refine Qo ?_ ?_);focus rfl)|((with_reducible first|refine QT 59 (l:=?_) ?_ ?_|refine QF 59 (l:=?_) ?_ ?_);rotate_left 1;focus (simp only [Zu,Nat.reduceSub,Nat.reduceBEq];with_reducible rfl))|((with_reducible first|refine QS (cfg_ok 80) (Tab.none.at' 49 hbr) (s':=?_) ?_ ?_|refine QC (b:=?_) ?_ ?_);rotate_left 1;focus ((with_reducible refine QW ?_);simp only [Zg,seval,if_true,if_false,reduceCtorEq,Nat.reduceEqDiff,List.length_map];with_reducible rfl))|((with_reducible refine QD (cfg_ok 80) (Tab.none.at' 49 hbr) mixed_ok (tr:=?_) (s':=?_) ?_ ?_ ?_);rotate_left 2;(focus ((with_reducible refine QW ?_);simp only [Zg,Zd,seval,if_true,if_false,reduceCtorEq,Nat.reduceEqDiff,List.length_map];with_reducible rfl));focus ((with_reducible refine QK ?_);simp only [Zk];kernel_rfl)))
  refine RunK.loop (β:=Nat) (γ:=Unit) (fun k => ⟨[(0,.c (.val (.sl 1 (t.map eI)))),(3,.c (.own 3 (prodS (((brs t).take k).map split)).length)),(16,.c (.val (.sl 1 ((brs t).map eL)))),(17,.c (.val (.int (brs t).length))),(18,.c (.val (.int k)))],[(3,.row 3 ((prodS (((brs t).take k).map split)).map eS0) false)]⟩) (fun k => k ≤ (brs t).length) (fun k => (brs t).length - k)
   (fun _ => ⟨[(0,.c (.val (.sl 1 (t.map eI)))),(3,.c (.own 3 (prodS ((brs t).map split)).length))],[(3,.row 3 ((prodS ((brs t).map split)).map eS0) false)]⟩) (fun _ => True) 0 (Nat.zero_le _) ?_ ?_ ?_
  ·(repeat' (first|with_reducible refine Qn|((with_reducible refine Qr ?_ ?_);focus (first|with_reducible rfl|(simp only [Zz,Nat.reduceBEq,List.take_zero,List.map_nil,show prodS [] = [([],[])] from rfl,List.map_cons,eS0,List.length_singleton,Int.natCast_zero];done)|rfl))|((with_reducible refine Qj (o':=?_) ?_ ?_ ?_);rotate_left 1;focus rfl)|((with_reducible refine Qw ?_ ?_);(focus (first|with_reducible rfl|(simp only [Zv,List.take_zero,List.map_nil,show prodS [] = [([],[])] from rfl,List.map_cons,eS0,List.length_singleton,Int.natCast_zero];done)));focus (first|exact id|exact (fun h => nomatch h)|exact (fun _ => rfl)))))
  ·intro k hk
   have hk:k ≤ (brs t).length:=hk
   have hwk:=w64_succ (n:=k) (by omega)
   obtain ⟨g1,g2,g3⟩:=hAg k
   by_cases hkb:k < (brs t).length
   ·have i1:((k:Int) < ((brs t).length:Int)) = True:=eq_true (by omega)
    have i2:((0:Int) ≤ (k:Int)) = True:=eq_true (by omega)
    obtain ⟨b,hb⟩:∃ b,b = (brs t)[k]:=⟨_,rfl⟩
    have hbm:b ∈ brs t:=by rw [hb];exact List.getElem_mem _
    have hg:((brs t).map eL)[k]? = some [.sl 1 (b.map eI)]:=by rw [map_get hkb,hb];rfl
    have hle:((brs t).map eL).length = (brs t).length:=List.length_map _
    have hblen:=brs_short h b hbm
    have hih:=AFn.val1 (a_splitTree n (by omega) b (hlev b hbm) (by omega))
    have hgB:=split_good _ (Nat.le_refl _) (hlev b hbm)
    have hlB:(split b).length ≤ 256:=by
     have h1:=split_len _ (Nat.le_refl _) (hlev b hbm)
     have h2:2 ^ b.length ≤ 2 ^ 8:=Nat.pow_le_pow_right (by decide) (by omega)
     omega
    have htk:prodS (((brs t).take (k + 1)).map split) = (prodS (((brs t).take k).map split)).flatMap fun s => (split b).map (catS s):=by
     rw [hb,List.take_succ_eq_append_getElem hkb,List.map_append];exact foldS_snoc _ _ _
    have hn2:(prodS (((brs t).take (k + 1)).map split)).length ≤ 256:=(hAg (k + 1)).2.1
    obtain ⟨A,hA⟩:∃ A,A = prodS (((brs t).take k).map split):=⟨_,rfl⟩
    obtain ⟨B,hB⟩:∃ B,B = split b:=⟨_,rfl⟩
    rw [← hA] at g1 g2 htk ⊢
    rw [← hB] at hih hgB hlB htk
    rw [htk] at hn2
    simp only [eL] at hih
    have hsA:∀ s ∈ A,SmS s:=fun s hs => ((g1 s hs).ha (by omega)).sm
    have hsB:∀ s ∈ B,SmS s:=fun s hs => ((hgB s hs).ha (by omega)).sm
    have hAl:(A.map eS0).length = A.length:=List.length_map _
    repeat' (first|with_reducible (first|refine Q1 ?_|refine Q2 ?_|refine Q3 ?_|refine Q4 ?_|refine Q5 ?_|refine Q6 ?_|refine Q7 ?_|refine Q8 ?_|refine Q9 ?_|refine Qa ?_|refine Qb ?_|refine Qc ?_|refine Qd ?_|refine Qe ?_|refine Qf ?_)|((with_reducible refine Qo ?_ ?_);focus rfl)|((with_reducible first|refine QT 59 (l:=?_) ?_ ?_|refine QF 59 (l:=?_) ?_ ?_);rotate_left 1;focus (simp only [Zu,Nat.reduceSub,Nat.reduceBEq];with_reducible rfl))|((with_reducible first|refine QS (cfg_ok 80) Tab.none (s':=?_) ?_ ?_|refine QC (b:=?_) ?_ ?_);rotate_left 1;focus ((with_reducible refine QW ?_);simp only [Zg,seval,if_true,if_false,reduceCtorEq,Nat.reduceEqDiff,i1,i2,hg,hle,Int.toNat_natCast,List.length_map];with_reducible rfl))|((with_reducible refine QD (cfg_ok 80) Tab.none mixed_ok (tr:=?_) (s':=?_) ?_ ?_ ?_);rotate_left 2;(focus ((with_reducible refine QW ?_);simp only [Zg,Zd,seval,if_true,if_false,reduceCtorEq,Nat.reduceEqDiff,i1,i2,hg,hle,Int.toNat_natCast,List.length_map];with_reducible rfl));focus ((with_reducible refine QK ?_);simp only [Zk];kernel_rfl)))
    refine RunK.loop (β:=Nat) (γ:=Unit) (fun i => ⟨[(0,.c (.val (.sl 1 (t.map eI)))),(3,.c (.own 3 A.length)),(5,.c (.val (.sl 1 (b.map eI)))),(6,.c (.own 6 ((A.take i).flatMap fun s => B.map (catS s)).length)),(16,.c (.val (.sl 1 ((brs t).map eL)))),(17,.c (.val (.int (brs t).length))),(18,.c (.val (.int k))),(23,.c (.own 3 A.length)),(24,.c (.val (.int A.length))),(25,.c (.val (.int i)))],
      [(3,.row 3 (A.map eS0) false),(6,.row 3 (((A.take i).flatMap fun s => B.map (catS s)).map eS0) false)]⟩) (fun i => i ≤ A.length) (fun i => A.length - i)
     (fun _ => ⟨[(0,.c (.val (.sl 1 (t.map eI)))),(6,.c (.own 6 (A.flatMap fun s => B.map (catS s)).length)),(16,.c (.val (.sl 1 ((brs t).map eL)))),(17,.c (.val (.int (brs t).length))),(18,.c (.val (.int k)))],[(6,.row 3 ((A.flatMap fun s => B.map (catS s)).map eS0) false)]⟩) (fun _ => True) 0 (Nat.zero_le _) ?_ ?_ ?_
    ·(repeat' (first|with_reducible refine Qn|((with_reducible refine Qr ?_ ?_);focus (first|with_reducible rfl|(simp only [Zz,Nat.reduceBEq,List.take_zero,List.flatMap_nil,List.map_nil,List.length_nil,Int.natCast_zero];done)|rfl))|((with_reducible refine Qj (o':=?_) ?_ ?_ ?_);rotate_left 1;focus rfl)|((with_reducible refine Qw ?_ ?_);(focus (first|with_reducible rfl|(simp only [Zv,List.take_zero,List.flatMap_nil,List.map_nil,List.length_nil,Int.natCast_zero];done)));focus (first|exact id|exact (fun h => nomatch h)|exact (fun _ => rfl)))))
    ·intro i hi
     have hi:i ≤ A.length:=hi
     have hwi:=w64_succ (n:=i) (by omega)
     by_cases hiA:i < A.length
     ·have j1:((i:Int) < (A.length:Int)) = True:=eq_true (by omega)
      have j2:((0:Int) ≤ (i:Int)) = True:=eq_true (by omega)
      obtain ⟨s,hs⟩:∃ s,s = A[i]:=⟨_,rfl⟩
      have hsm:=hsA A[i] (List.getElem_mem _)
      have hgs:(A.map eS0)[i]? = some [.sl 1 (s.1.map eL),.sl 1 (s.2.map eL),.int 0]:=by rw [map_get hiA,hs];rfl
      have htkA:(A.take (i + 1)).flatMap (fun s => B.map (catS s)) = ((A.take i).flatMap fun s => B.map (catS s)) ++ B.map (catS s):=by
       rw [hs,List.take_succ_eq_append_getElem hiA,List.flatMap_append];simp
      have hXl:((A.take i).flatMap fun s => B.map (catS s)).length + B.length ≤ 256:=by
       rw [flatS_len] at hn2 ⊢
       rw [List.length_take,Nat.min_eq_left hi]
       have:(i + 1) * B.length ≤ A.length * B.length:=Nat.mul_le_mul_right _ hiA
       rw [Nat.succ_mul] at this;omega
      rw [← hs] at hsm
      obtain ⟨X,hX⟩:∃ X,X = (A.take i).flatMap fun s => B.map (catS s):=⟨_,rfl⟩
      rw [← hX] at htkA hXl ⊢
      have hBl:(B.map eS0).length = B.length:=List.length_map _
      repeat' (first|with_reducible (first|refine Q1 ?_|refine Q2 ?_|refine Q3 ?_|refine Q4 ?_|refine Q5 ?_|refine Q6 ?_|refine Q7 ?_|refine Q8 ?_|refine Q9 ?_|refine Qa ?_|refine Qb ?_|refine Qc ?_|refine Qd ?_|refine Qe ?_|refine Qf ?_)|((with_reducible refine Qo ?_ ?_);focus rfl)|((with_reducible first|refine QT 59 (l:=?_) ?_ ?_|refine QF 59 (l:=?_) ?_ ?_);rotate_left 1;focus (simp only [Zu,Nat.reduceSub,Nat.reduceBEq];with_reducible rfl))|((with_reducible first|refine QS (cfg_ok 80) (Tab.none.at' 51 hih) (s':=?_) ?_ ?_|refine QC (b:=?_) ?_ ?_);rotate_left 1;focus ((with_reducible refine QW ?_);simp only [Zg,seval,if_true,if_false,reduceCtorEq,Nat.reduceEqDiff,j1,j2,hgs,hAl,hBl,Int.toNat_natCast];with_reducible rfl))|((with_reducible refine QD (cfg_ok 80) (Tab.none.at' 51 hih) mixed_ok (tr:=?_) (s':=?_) ?_ ?_ ?_);rotate_left 2;(focus ((with_reducible refine QW ?_);simp only [Zg,Zd,seval,if_true,if_false,reduceCtorEq,Nat.reduceEqDiff,j1,j2,hgs,hAl,hBl,Int.toNat_natCast];with_reducible rfl));focus ((with_reducible refine QK ?_);simp only [Zk];kernel_rfl)))
      refine RunK.loop (β:=Nat) (γ:=Unit) (fun j => ⟨[(0,.c (.val (.sl 1 (t.map eI)))),(3,.c (.own 3 A.length)),(5,.c (.val (.sl 1 (b.map eI)))),(6,.c (.own 6 (X ++ (B.take j).map (catS s)).length)),(8,.optr 8 0 0),(16,.c (.val (.sl 1 ((brs t).map eL)))),(17,.c (.val (.int (brs t).length))),(18,.c (.val (.int k))),(23,.c (.own 3 A.length)),(24,.c (.val (.int A.length))),(25,.c (.val (.int i))),(30,.c (.val (.sl 3 (B.map eS0)))),(31,.c (.val (.int B.length))),(32,.c (.val (.int j)))],
        [(3,.row 3 (A.map eS0) false),(6,.row 3 ((X ++ (B.take j).map (catS s)).map eS0) false),(8,.row 3 [[.sl 1 (s.1.map eL),.sl 1 (s.2.map eL),.int 0]] false)]⟩) (fun j => j ≤ B.length) (fun j => B.length - j)
       (fun _ => ⟨[(0,.c (.val (.sl 1 (t.map eI)))),(3,.c (.own 3 A.length)),(5,.c (.val (.sl 1 (b.map eI)))),(6,.c (.own 6 (X ++ B.map (catS s)).length)),(16,.c (.val (.sl 1 ((brs t).map eL)))),(17,.c (.val (.int (brs t).length))),(18,.c (.val (.int k))),(23,.c (.own 3 A.length)),(24,.c (.val (.int A.length))),(25,.c (.val (.int i)))],
        [(3,.row 3 (A.map eS0) false),(6,.row 3 ((X ++ B.map (catS s)).map eS0) false)]⟩) (fun _ => True) 0 (Nat.zero_le _) ?_ ?_ ?_
      ·(repeat' (first|with_reducible refine Qn|((with_reducible refine Qr ?_ ?_);focus (first|with_reducible rfl|(simp only [Zz,Nat.reduceBEq,List.take_zero,List.map_nil,List.append_nil,Int.natCast_zero];done)|rfl))|((with_reducible refine Qj (o':=?_) ?_ ?_ ?_);rotate_left 1;focus rfl)|((with_reducible refine Qw ?_ ?_);(focus (first|with_reducible rfl|(simp only [Zv,List.take_zero,List.map_nil,List.append_nil,Int.natCast_zero];done)));focus (first|exact id|exact (fun h => nomatch h)|exact (fun _ => rfl)))))
      ·intro j hj
       have hj:j ≤ B.length:=hj
       have hwj:=w64_succ (n:=j) (by omega)
       by_cases hjB:j < B.length
       ·have l1:((j:Int) < (B.length:Int)) = True:=eq_true (by omega)
        have l2:((0:Int) ≤ (j:Int)) = True:=eq_true (by omega)
        obtain ⟨c,hc⟩:∃ c,c = B[j]:=⟨_,rfl⟩
        have hcm:=hsB B[j] (List.getElem_mem _)
        have hgc:(B.map eS0)[j]? = some [.sl 1 (c.1.map eL),.sl 1 (c.2.map eL),.int 0]:=by rw [map_get hjB,hc];rfl
        have htkB:X ++ (B.take (j + 1)).map (catS s) = (X ++ (B.take j).map (catS s)) ++ [catS s c]:=by
         rw [hc,List.take_succ_eq_append_getElem hjB,List.map_append,List.append_assoc];rfl
        rw [← hc] at hcm
        have hYl:(X ++ (B.take j).map (catS s)).length ≤ 256:=by rw [List.length_append,List.length_map,List.length_take];omega
        obtain ⟨Y,hY⟩:∃ Y,Y = X ++ (B.take j).map (catS s):=⟨_,rfl⟩
        rw [← hY] at htkB hYl ⊢
        have q1:=big_le (n:=Y.length + 1) (by omega)
        have q2:=big_mul (n:=Y.length + 1) (c:=56) (by omega) (by omega)
        have hYm:(Y.map eS0).length = Y.length:=List.length_map _
        have e1:=eq_true (And.intro hsm.1 hcm.1)
        have e2:=eq_true (And.intro hsm.2 hcm.2)
        repeat' (first|with_reducible (first|refine Q1 ?_|refine Q2 ?_|refine Q3 ?_|refine Q4 ?_|refine Q5 ?_|refine Q6 ?_|refine Q7 ?_|refine Q8 ?_|refine Q9 ?_|refine Qa ?_|refine Qb ?_|refine Qc ?_|refine Qd ?_|refine Qe ?_|refine Qf ?_)|((with_reducible refine Qo ?_ ?_);focus rfl)|((with_reducible first|refine QT 59 (l:=?_) ?_ ?_|refine QF 59 (l:=?_) ?_ ?_);rotate_left 1;focus (simp only [Zu,Nat.reduceSub,Nat.reduceBEq];with_reducible rfl))|((with_reducible first|refine QS (cfg_ok 80) Tab.none (s':=?_) ?_ ?_|refine QC (b:=?_) ?_ ?_);rotate_left 1;focus ((with_reducible refine QW ?_);simp only [Zg,seval,if_true,if_false,reduceCtorEq,Nat.reduceEqDiff,l1,l2,hgc,hBl,Int.toNat_natCast];with_reducible rfl))|((with_reducible refine QD (cfg_ok 80) Tab.none mixed_ok (tr:=?_) (s':=?_) ?_ ?_ ?_);rotate_left 2;(focus ((with_reducible refine QW ?_);simp only [Zg,Zd,seval,if_true,if_false,reduceCtorEq,Nat.reduceEqDiff,l1,l2,hgc,hBl,Int.toNat_natCast];with_reducible rfl));focus ((with_reducible refine QK ?_);simp only [Zk];kernel_rfl)))
        (((with_reducible refine RunK.wFz (cfg_ok 80) TCat mixed_ok [41,47] (tr:=?_) (s1:=?_) (rest:=?_) ?_ ?_ ?_);rotate_left 3;(focus ((with_reducible refine QW ?_);simp only [Zg,Zd,seval,if_true,if_false,reduceCtorEq,Nat.reduceEqDiff,drunF,devalF,devalB,dregF_mk,List.contains_cons,List.contains_nil,TCat,TCat,codLLL_d,cat2_eq,e1,e2,q1,q2,hYm];with_reducible rfl));focus ((with_reducible refine QK ?_);simp only [Zk];kernel_rfl));(refine ROps.opsT (cfg_ok 80) (T:=TCat) (s':=?_) ?_ ?_;rotate_left 1;focus (simp only [Zg,seval,if_true,if_false,reduceCtorEq,Nat.reduceEqDiff,TCat,TCat,codLLL_d,cat2_eq,e1,e2,q1,q2,hYm];with_reducible rfl)))
        repeat' (first|with_reducible (first|refine Q1 ?_|refine Q2 ?_|refine Q3 ?_|refine Q4 ?_|refine Q5 ?_|refine Q6 ?_|refine Q7 ?_|refine Q8 ?_|refine Q9 ?_|refine Qa ?_|refine Qb ?_|refine Qc ?_|refine Qd ?_|refine Qe ?_|refine Qf ?_)|((with_reducible refine Qo ?_ ?_);focus rfl)|((with_reducible first|refine QT 59 (l:=?_) ?_ ?_|refine QF 59 (l:=?_) ?_ ?_);rotate_left 1;focus (simp only [Zu,Nat.reduceSub,Nat.reduceBEq];with_reducible rfl))|((with_reducible first|refine QS (cfg_ok 80) Tab.none (s':=?_) ?_ ?_|refine QC (b:=?_) ?_ ?_);rotate_left 1;focus ((with_reducible refine QW ?_);simp only [Zg,seval,if_true,if_false,reduceCtorEq,Nat.reduceEqDiff,hwj];with_reducible rfl))|((with_reducible refine QD (cfg_ok 80) Tab.none mixed_ok (tr:=?_) (s':=?_) ?_ ?_ ?_);rotate_left 2;(focus ((with_reducible refine QW ?_);simp only [Zg,Zd,seval,if_true,if_false,reduceCtorEq,Nat.reduceEqDiff,hwj];with_reducible rfl));focus ((with_reducible refine QK ?_);simp only [Zk];kernel_rfl)))
        refine roundK.on (j + 1) ⟨hjB,by omega⟩ ?_
        rw [htkB]
        (repeat' (first|with_reducible refine Qn|((with_reducible refine Qr ?_ ?_);focus (first|with_reducible rfl|(simp only [Zz,Nat.reduceBEq,eS0,catS];done)|rfl))|((with_reducible refine Qj (o':=?_) ?_ ?_ ?_);rotate_left 1;focus rfl)|((with_reducible refine Qw ?_ ?_);(focus (first|with_reducible rfl|(simp only [Zv,eS0,catS];done)));focus (first|exact id|exact (fun h => nomatch h)|exact (fun _ => rfl)))))
       ·have l1:((j:Int) < (B.length:Int)) = False:=eq_false (by omega)
        obtain rfl:j = B.length:=by omega
        rw [List.take_length]
        repeat' (first|with_reducible (first|refine Q1 ?_|refine Q2 ?_|refine Q3 ?_|refine Q4 ?_|refine Q5 ?_|refine Q6 ?_|refine Q7 ?_|refine Q8 ?_|refine Q9 ?_|refine Qa ?_|refine Qb ?_|refine Qc ?_|refine Qd ?_|refine Qe ?_|refine Qf ?_)|((with_reducible refine Qo ?_ ?_);focus rfl)|((with_reducible first|refine QT 59 (l:=?_) ?_ ?_|refine QF 59 (l:=?_) ?_ ?_);rotate_left 1;focus (simp only [Zu,Nat.reduceSub,Nat.reduceBEq];with_reducible rfl))|((with_reducible first|refine QS (cfg_ok 80) Tab.none (s':=?_) ?_ ?_|refine QC (b:=?_) ?_ ?_);rotate_left 1;focus ((with_reducible refine QW ?_);simp only [Zg,seval,if_true,if_false,reduceCtorEq,Nat.reduceEqDiff,l1];with_reducible rfl))|((with_reducible refine QD (cfg_ok 80) Tab.none mixed_ok (tr:=?_) (s':=?_) ?_ ?_ ?_);rotate_left 2;(focus ((with_reducible refine QW ?_);simp only [Zg,Zd,seval,if_true,if_false,reduceCtorEq,Nat.reduceEqDiff,l1];with_reducible rfl));focus ((with_reducible refine QK ?_);simp only [Zk];kernel_rfl)))
        refine roundK.out () trivial ?_
        (repeat' (first|with_reducible refine Qn|((with_reducible refine Qr ?_ ?_);focus (first|with_reducible rfl|(simp only [Zz,Nat.reduceBEq];done)|rfl))|((with_reducible refine Qj (o':=?_) ?_ ?_ ?_);rotate_left 1;focus rfl)|((with_reducible refine Qw ?_ ?_);(focus (first|with_reducible rfl|(simp only [Zv];done)));focus (first|exact id|exact (fun h => nomatch h)|exact (fun _ => rfl)))))
      ·rintro _ _
       repeat' (first|with_reducible (first|refine Q1 ?_|refine Q2 ?_|refine Q3 ?_|refine Q4 ?_|refine Q5 ?_|refine Q6 ?_|refine Q7 ?_|refine Q8 ?_|refine Q9 ?_|refine Qa ?_|refine Qb ?_|refine Qc ?_|refine Qd ?_|refine Qe ?_|refine Qf ?_)|((with_reducible refine Qo ?_ ?_);focus rfl)|((with_reducible first|refine QT 59 (l:=?_) ?_ ?_|refine QF 59 (l:=?_) ?_ ?_);rotate_left 1;focus (simp only [Zu,Nat.reduceSub,Nat.reduceBEq];with_reducible rfl))|((with_reducible first|refine QS (cfg_ok 80) Tab.none (s':=?_) ?_ ?_|refine QC (b:=?_) ?_ ?_);rotate_left 1;focus ((with_reducible refine QW ?_);simp only [Zg,seval,if_true,if_false,reduceCtorEq,Nat.reduceEqDiff,hwi];with_reducible rfl))|((with_reducible refine QD (cfg_ok 80) Tab.none mixed_ok (tr:=?_) (s':=?_) ?_ ?_ ?_);rotate_left 2;(focus ((with_reducible refine QW ?_);simp only [Zg,Zd,seval,if_true,if_false,reduceCtorEq,Nat.reduceEqDiff,hwi];with_reducible rfl));focus ((with_reducible refine QK ?_);simp only [Zk];kernel_rfl)))
       refine roundK.on (i + 1) ⟨hiA,by omega⟩ ?_
       rw [htkA]
       (repeat' (first|with_reducible refine Qn|((with_reducible refine Qr ?_ ?_);focus (first|with_reducible rfl|(simp only [Zz,Nat.reduceBEq];done)|rfl))|((with_reducible refine Qj (o':=?_) ?_ ?_ ?_);rotate_left 1;focus rfl)|((with_reducible refine Qw ?_ ?_);(focus (first|with_reducible rfl|(simp only [Zv];done)));focus (first|exact id|exact (fun h => nomatch h)|exact (fun _ => rfl)))))
     ·have j1:((i:Int) < (A.length:Int)) = False:=eq_false (by omega)
      obtain rfl:i = A.length:=by omega
      rw [List.take_length]
      repeat' (first|with_reducible (first|refine Q1 ?_|refine Q2 ?_|refine Q3 ?_|refine Q4 ?_|refine Q5 ?_|refine Q6 ?_|refine Q7 ?_|refine Q8 ?_|refine Q9 ?_|refine Qa ?_|refine Qb ?_|refine Qc ?_|refine Qd ?_|refine Qe ?_|refine Qf ?_)|((with_reducible refine Qo ?_ ?_);focus rfl)|((with_reducible first|refine QT 59 (l:=?_) ?_ ?_|refine QF 59 (l:=?_) ?_ ?_);rotate_left 1;focus (simp only [Zu,Nat.reduceSub,Nat.reduceBEq];with_reducible rfl))|((with_reducible first|refine QS (cfg_ok 80) Tab.none (s':=?_) ?_ ?_|refine QC (b:=?_) ?_ ?_);rotate_left 1;focus ((with_reducible refine QW ?_);simp only [Zg,seval,if_true,if_false,reduceCtorEq,Nat.reduceEqDiff,j1];with_reducible rfl))|((with_reducible refine QD (cfg_ok 80) Tab.none mixed_ok (tr:=?_) (s':=?_) ?_ ?_ ?_);rotate_left 2;(focus ((with_reducible refine QW ?_);simp only [Zg,Zd,seval,if_true,if_false,reduceCtorEq,Nat.reduceEqDiff,j1];with_reducible rfl));focus ((with_reducible refine QK ?_);simp only [Zk];kernel_rfl)))
      refine roundK.out () trivial ?_
      (repeat' (first|with_reducible refine Qn|((with_reducible refine Qr ?_ ?_);focus (first|with_reducible rfl|(simp only [Zz,Nat.reduceBEq];done)|rfl))|((with_reducible refine Qj (o':=?_) ?_ ?_ ?_);rotate_left 1;focus rfl)|((with_reducible refine Qw ?_ ?_);(focus (first|with_reducible rfl|(simp only [Zv];done)));focus (first|exact id|exact (fun h => nomatch h)|exact (fun _ => rfl)))))
    ·rintro _ _
     repeat' (first|with_reducible (first|refine Q1 ?_|refine Q2 ?_|refine Q3 ?_|refine Q4 ?_|refine Q5 ?_|refine Q6 ?_|refine Q7 ?_|refine Q8 ?_|refine Q9 ?_|refine Qa ?_|refine Qb ?_|refine Qc ?_|refine Qd ?_|refine Qe ?_|refine Qf ?_)|((with_reducible refine Qo ?_ ?_);focus rfl)|((with_reducible first|refine QT 59 (l:=?_) ?_ ?_|refine QF 59 (l:=?_) ?_ ?_);rotate_left 1;focus (simp only [Zu,Nat.reduceSub,Nat.reduceBEq];with_reducible rfl))|((with_reducible first|refine QS (cfg_ok 80) Tab.none (s':=?_) ?_ ?_|refine QC (b:=?_) ?_ ?_);rotate_left 1;focus ((with_reducible refine QW ?_);simp only [Zg,seval,if_true,if_false,reduceCtorEq,Nat.reduceEqDiff,hwk];with_reducible rfl))|((with_reducible refine QD (cfg_ok 80) Tab.none mixed_ok (tr:=?_) (s':=?_) ?_ ?_ ?_);rotate_left 2;(focus ((with_reducible refine QW ?_);simp only [Zg,Zd,seval,if_true,if_false,reduceCtorEq,Nat.reduceEqDiff,hwk];with_reducible rfl));focus ((with_reducible refine QK ?_);simp only [Zk];kernel_rfl)))
     refine roundK.on (k + 1) ⟨hkb,by omega⟩ ?_
     rw [htk]
     (repeat' (first|with_reducible refine Qn|((with_reducible refine Qr ?_ ?_);focus (first|with_reducible rfl|(simp only [Zz,Nat.reduceBEq];done)|rfl))|((with_reducible refine Qj (o':=?_) ?_ ?_ ?_);rotate_left 1;focus rfl)|((with_reducible refine Qw ?_ ?_);(focus (first|with_reducible rfl|(simp only [Zv];done)));focus (first|exact id|exact (fun h => nomatch h)|exact (fun _ => rfl)))))
   ·have i1:((k:Int) < ((brs t).length:Int)) = False:=eq_false (by omega)
    obtain rfl:k = (brs t).length:=by omega
    rw [List.take_length]
    repeat' (first|with_reducible (first|refine Q1 ?_|refine Q2 ?_|refine Q3 ?_|refine Q4 ?_|refine Q5 ?_|refine Q6 ?_|refine Q7 ?_|refine Q8 ?_|refine Q9 ?_|refine Qa ?_|refine Qb ?_|refine Qc ?_|refine Qd ?_|refine Qe ?_|refine Qf ?_)|((with_reducible refine Qo ?_ ?_);focus rfl)|((with_reducible first|refine QT 59 (l:=?_) ?_ ?_|refine QF 59 (l:=?_) ?_ ?_);rotate_left 1;focus (simp only [Zu,Nat.reduceSub,Nat.reduceBEq];with_reducible rfl))|((with_reducible first|refine QS (cfg_ok 80) Tab.none (s':=?_) ?_ ?_|refine QC (b:=?_) ?_ ?_);rotate_left 1;focus ((with_reducible refine QW ?_);simp only [Zg,seval,if_true,if_false,reduceCtorEq,Nat.reduceEqDiff,i1];with_reducible rfl))|((with_reducible refine QD (cfg_ok 80) Tab.none mixed_ok (tr:=?_) (s':=?_) ?_ ?_ ?_);rotate_left 2;(focus ((with_reducible refine QW ?_);simp only [Zg,Zd,seval,if_true,if_false,reduceCtorEq,Nat.reduceEqDiff,i1];with_reducible rfl));focus ((with_reducible refine QK ?_);simp only [Zk];kernel_rfl)))
    refine roundK.out () trivial ?_
    (repeat' (first|with_reducible refine Qn|((with_reducible refine Qr ?_ ?_);focus (first|with_reducible rfl|(simp only [Zz,Nat.reduceBEq];done)|rfl))|((with_reducible refine Qj (o':=?_) ?_ ?_ ?_);rotate_left 1;focus rfl)|((with_reducible refine Qw ?_ ?_);(focus (first|with_reducible rfl|(simp only [Zv];done)));focus (first|exact id|exact (fun h => nomatch h)|exact (fun _ => rfl)))))
  ·rintro _ _
   have g1:=prod_good hlev
   have g2:=prod_len hlev (by omega)
   obtain ⟨A,hA⟩:∃ A,A = prodS ((brs t).map split):=⟨_,rfl⟩
   rw [← hA] at g1 g2 ⊢
   repeat' (first|with_reducible (first|refine Q1 ?_|refine Q2 ?_|refine Q3 ?_|refine Q4 ?_|refine Q5 ?_|refine Q6 ?_|refine Q7 ?_|refine Q8 ?_|refine Q9 ?_|refine Qa ?_|refine Qb ?_|refine Qc ?_|refine Qd ?_|refine Qe ?_|refine Qf ?_)|((with_reducible refine Qo ?_ ?_);focus rfl)|((with_reducible first|refine QT 59 (l:=?_) ?_ ?_|refine QF 59 (l:=?_) ?_ ?_);rotate_left 1;focus (simp only [Zu,Nat.reduceSub,Nat.reduceBEq];with_reducible rfl))|((with_reducible first|refine QS (cfg_ok 80) Tab.none (s':=?_) ?_ ?_|refine QC (b:=?_) ?_ ?_);rotate_left 1;focus ((with_reducible refine QW ?_);simp only [Zg,seval,if_true,if_false,reduceCtorEq,Nat.reduceEqDiff];with_reducible rfl))|((with_reducible refine QD (cfg_ok 80) Tab.none mixed_ok (tr:=?_) (s':=?_) ?_ ?_ ?_);rotate_left 2;(focus ((with_reducible refine QW ?_);simp only [Zg,Zd,seval,if_true,if_false,reduceCtorEq,Nat.reduceEqDiff];with_reducible rfl));focus ((with_reducible refine QK ?_);simp only [Zk];kernel_rfl)))
   refine RunK.loop (β:=Nat) (γ:=Unit) (fun i => ⟨[(0,.c (.val (.sl 1 (t.map eI)))),(3,.c (.own 3 A.length)),(56,.c (.own 3 A.length)),(57,.c (.val (.int A.length))),(58,.c (.val (.int i)))],[(3,.row 3 ((A.take i).map (fun s => eS0 (rootS s)) ++ (A.drop i).map eS0) false)]⟩) (fun i => i ≤ A.length) (fun i => A.length - i)
    (fun _ => ⟨[(0,.c (.val (.sl 1 (t.map eI)))),(3,.c (.own 3 A.length))],[(3,.row 3 (A.map fun s => eS0 (rootS s)) false)]⟩) (fun _ => True) 0 (Nat.zero_le _) ?_ ?_ ?_
   ·(repeat' (first|with_reducible refine Qn|((with_reducible refine Qr ?_ ?_);focus (first|with_reducible rfl|(simp only [Zz,Nat.reduceBEq,List.take_zero,List.drop_zero,List.map_nil,List.nil_append,Int.natCast_zero];done)|rfl))|((with_reducible refine Qj (o':=?_) ?_ ?_ ?_);rotate_left 1;focus rfl)|((with_reducible refine Qw ?_ ?_);(focus (first|with_reducible rfl|(simp only [Zv,List.take_zero,List.drop_zero,List.map_nil,List.nil_append,Int.natCast_zero];done)));focus (first|exact id|exact (fun h => nomatch h)|exact (fun _ => rfl)))))
   ·intro i hi
    have hi:i ≤ A.length:=hi
    have hwi:=w64_succ (n:=i) (by omega)
    have hrl:((A.take i).map (fun s => eS0 (rootS s)) ++ (A.drop i).map eS0).length = A.length:=by rw [List.length_append,List.length_map,List.length_map,List.length_take,List.length_drop];omega
    by_cases hiA:i < A.length
    ·have j1:((i:Int) < (A.length:Int)) = True:=eq_true (by omega)
     have j2:((0:Int) ≤ (i:Int)) = True:=eq_true (by omega)
     obtain ⟨s,hs⟩:∃ s,s = A[i]:=⟨_,rfl⟩
     have hgood:=g1 A[i] (List.getElem_mem _)
     have hdr:A.drop i = s :: A.drop (i + 1):=by rw [hs];exact List.drop_eq_getElem_cons hiA
     have hti:((A.take i).map fun s => eS0 (rootS s)).length = i:=by rw [List.length_map,List.length_take];omega
     have hgs:((A.take i).map (fun s => eS0 (rootS s)) ++ (A.drop i).map eS0)[i]? = some [.sl 1 (s.1.map eL),.sl 1 (s.2.map eL),.int 0]:=by
      rw [List.getElem?_append_right (by omega),hti,Nat.sub_self,hdr];rfl
     rw [← hs] at hgood
     have hlv:∀ b ∈ s.2,LevP b:=fun b hb => (hgood.1 b (by simp [hb])).1
     have hsum:=hgood.2
     have hro:=AFn.valT (a_rootOn s.2 (fun b hb => (hlv b hb).small (by have:=sumLen_mem hb;omega)) (by omega))
     have hcr:=AFn.valT (a_canonical13 (rootOn s.2) (rootOn_lev hlv) (by rw [rootOn_len];omega))
     simp only [eL,eLL] at hro hcr
     repeat' (first|with_reducible (first|refine Q1 ?_|refine Q2 ?_|refine Q3 ?_|refine Q4 ?_|refine Q5 ?_|refine Q6 ?_|refine Q7 ?_|refine Q8 ?_|refine Q9 ?_|refine Qa ?_|refine Qb ?_|refine Qc ?_|refine Qd ?_|refine Qe ?_|refine Qf ?_)|((with_reducible refine Qo ?_ ?_);focus rfl)|((with_reducible first|refine QT 59 (l:=?_) ?_ ?_|refine QF 59 (l:=?_) ?_ ?_);rotate_left 1;focus (simp only [Zu,Nat.reduceSub,Nat.reduceBEq];with_reducible rfl))|((with_reducible first|refine QS (cfg_ok 80) ((Tab.none.at' 67 hro).at' 66 hcr) (s':=?_) ?_ ?_|refine QC (b:=?_) ?_ ?_);rotate_left 1;focus ((with_reducible refine QW ?_);simp only [Zg,seval,if_true,if_false,reduceCtorEq,Nat.reduceEqDiff,j1,j2,hgs,hrl,hwi,Int.toNat_natCast];with_reducible rfl))|((with_reducible refine QD (cfg_ok 80) ((Tab.none.at' 67 hro).at' 66 hcr) mixed_ok (tr:=?_) (s':=?_) ?_ ?_ ?_);rotate_left 2;(focus ((with_reducible refine QW ?_);simp only [Zg,Zd,seval,if_true,if_false,reduceCtorEq,Nat.reduceEqDiff,j1,j2,hgs,hrl,hwi,Int.toNat_natCast];with_reducible rfl));focus ((with_reducible refine QK ?_);simp only [Zk];kernel_rfl)))
     have hset:((A.take i).map (fun s => eS0 (rootS s)) ++ (A.drop i).map eS0).set i [.sl 1 (s.1.map eL),.sl 1 [[.sl 1 ((canon (rootOn s.2)).map eI)]],.int 0] = (A.take (i + 1)).map (fun s => eS0 (rootS s)) ++ (A.drop (i + 1)).map eS0:=by
      rw [List.set_append_right _ _ (by omega),hti,Nat.sub_self,hdr,List.map_cons,List.set_cons_zero,List.take_succ_eq_append_getElem hiA,List.map_append,List.append_assoc,← hs]
      rfl
     refine roundK.on (i + 1) ⟨hiA,by omega⟩ ?_
     rw [← hset]
     (repeat' (first|with_reducible refine Qn|((with_reducible refine Qr ?_ ?_);focus (first|with_reducible rfl|(simp only [Zz,Nat.reduceBEq];done)|rfl))|((with_reducible refine Qj (o':=?_) ?_ ?_ ?_);rotate_left 1;focus rfl)|((with_reducible refine Qw ?_ ?_);(focus (first|with_reducible rfl|(simp only [Zv];done)));focus (first|exact id|exact (fun h => nomatch h)|exact (fun _ => rfl)))))
    ·have j1:((i:Int) < (A.length:Int)) = False:=eq_false (by omega)
     obtain rfl:i = A.length:=by omega
     have hd0:A.drop A.length = []:=List.drop_length
     repeat' (first|with_reducible (first|refine Q1 ?_|refine Q2 ?_|refine Q3 ?_|refine Q4 ?_|refine Q5 ?_|refine Q6 ?_|refine Q7 ?_|refine Q8 ?_|refine Q9 ?_|refine Qa ?_|refine Qb ?_|refine Qc ?_|refine Qd ?_|refine Qe ?_|refine Qf ?_)|((with_reducible refine Qo ?_ ?_);focus rfl)|((with_reducible first|refine QT 59 (l:=?_) ?_ ?_|refine QF 59 (l:=?_) ?_ ?_);rotate_left 1;focus (simp only [Zu,Nat.reduceSub,Nat.reduceBEq];with_reducible rfl))|((with_reducible first|refine QS (cfg_ok 80) Tab.none (s':=?_) ?_ ?_|refine QC (b:=?_) ?_ ?_);rotate_left 1;focus ((with_reducible refine QW ?_);simp only [Zg,seval,if_true,if_false,reduceCtorEq,Nat.reduceEqDiff,j1];with_reducible rfl))|((with_reducible refine QD (cfg_ok 80) Tab.none mixed_ok (tr:=?_) (s':=?_) ?_ ?_ ?_);rotate_left 2;(focus ((with_reducible refine QW ?_);simp only [Zg,Zd,seval,if_true,if_false,reduceCtorEq,Nat.reduceEqDiff,j1];with_reducible rfl));focus ((with_reducible refine QK ?_);simp only [Zk];kernel_rfl)))
     refine roundK.out () trivial ?_
     rw [List.take_length,hd0,List.map_nil,List.append_nil]
     (repeat' (first|with_reducible refine Qn|((with_reducible refine Qr ?_ ?_);focus (first|with_reducible rfl|(simp only [Zz,Nat.reduceBEq];done)|rfl))|((with_reducible refine Qj (o':=?_) ?_ ?_ ?_);rotate_left 1;focus rfl)|((with_reducible refine Qw ?_ ?_);(focus (first|with_reducible rfl|(simp only [Zv];done)));focus (first|exact id|exact (fun h => nomatch h)|exact (fun _ => rfl)))))
   ·rintro _ _
    have q1:=big_le (n:=A.length + 1) (by omega)
    have q2:=big_mul (n:=A.length + 1) (c:=56) (by omega) (by omega)
    have hml:(A.map fun s => eS0 (rootS s)).length = A.length:=List.length_map _
    repeat' (first|with_reducible (first|refine Q1 ?_|refine Q2 ?_|refine Q3 ?_|refine Q4 ?_|refine Q5 ?_|refine Q6 ?_|refine Q7 ?_|refine Q8 ?_|refine Q9 ?_|refine Qa ?_|refine Qb ?_|refine Qc ?_|refine Qd ?_|refine Qe ?_|refine Qf ?_)|((with_reducible refine Qo ?_ ?_);focus rfl)|((with_reducible first|refine QT 59 (l:=?_) ?_ ?_|refine QF 59 (l:=?_) ?_ ?_);rotate_left 1;focus (simp only [Zu,Nat.reduceSub,Nat.reduceBEq];with_reducible rfl))|((with_reducible first|refine QS (cfg_ok 80) (Tab.none.at' 66 hca) (s':=?_) ?_ ?_|refine QC (b:=?_) ?_ ?_);rotate_left 1;focus ((with_reducible refine QW ?_);simp only [Zg,seval,if_true,if_false,reduceCtorEq,Nat.reduceEqDiff,q1,q2,hml];with_reducible rfl))|((with_reducible refine QD (cfg_ok 80) (Tab.none.at' 66 hca) mixed_ok (tr:=?_) (s':=?_) ?_ ?_ ?_);rotate_left 2;(focus ((with_reducible refine QW ?_);simp only [Zg,Zd,seval,if_true,if_false,reduceCtorEq,Nat.reduceEqDiff,q1,q2,hml];with_reducible rfl));focus ((with_reducible refine QK ?_);simp only [Zk];kernel_rfl)))
    (refine Ends.mk (by simp) (rs:=?_) (ks:=?_) hres hrts ?_ ?_ ?_;rotate_left 2;(focus (simp only [Ze,Zg,seval,if_true,if_false,reduceCtorEq,Nat.reduceEqDiff,List.map_append,List.map_map,Function.comp_def,eS0,List.map_cons,List.map_nil,eL,rootS];with_reducible rfl));(focus simp);focus (first|with_reducible rfl|(simp only [Zv,List.map_append,List.map_map,Function.comp_def,eS0,List.map_cons,List.map_nil,eL,rootS];done)))
end Go.Proofs.Ytfhmonacgmakbaa
namespace Go.Proofs.Ytfhmonacgmakbaa
open Go.RowKit
section
variable {α:Type} (f g:α→List (List D)) (n:α→Int)
def e3 (x:α):List D:=[.sl 1 (f x),.sl 1 (g x),.int (n x)]
def e3T (q:α × (List Nat × List Nat)):List D:=[.tag q.2.1 (.sl 1 (f q.1)),.tag q.2.2 (.sl 1 (g q.1)),.int (n q.1)]
def bl3 (q:α × (List Nat × List Nat)):List Nat:=q.2.1 ++ q.2.2
theorem tag_mk3:∀ (zs:List (α × (List Nat × List Nat))),TagL ((zs.map (·.1)).map (e3 f g n)) (zs.map (e3T f g n)) ((zs.map bl3).flatten)
 | [] => ⟨rfl,rfl⟩
 | z :: zs => ⟨_,_,bl3 z,_,rfl,rfl,⟨_,_,z.2.1,z.2.2,rfl,rfl,.inl rfl,⟨_,_,z.2.2,[],rfl,(List.append_nil _).symm,.inl rfl,⟨_,[],[],[],rfl,rfl,.inr ⟨rfl,rfl,rfl⟩,rfl,rfl⟩⟩⟩,tag_mk3 zs⟩
theorem tag_rows3:∀ {L:List α} {xs':List (List D)} {F:List Nat},TagL (L.map (e3 f g n)) xs' F→PlainL (L.map (e3 f g n)) xs'→∃ zs:List (α × (List Nat × List Nat)),L = zs.map (·.1)∧xs' = zs.map (e3T f g n)∧F = (zs.map bl3).flatten
 | [],xs',F,⟨h1,h2⟩,_ => ⟨[],rfl,h1,h2⟩
 | p :: L,xs',F,⟨y,ys,G,H,h1,h2,h3,h4⟩,⟨y',ys',p1,p2,p3⟩ => by
  obtain ⟨e1,e2⟩:y = y'∧ys = ys':=by rw [h1] at p1;simpa using p1
  subst e1;subst e2
  obtain ⟨zs,e1,e2,e3'⟩:=tag_rows3 h4 p3
  obtain ⟨y0,ys0,G0,H0,k1,k2,k3,y1,ys1,G1,H1,k4,k5,k6,y2,ys2,G2,H2,m4,m5,m6,m7,m8⟩:=h3
  obtain ⟨x0,xs0,a1,_,x1,xs1,a2,_,x2,xs2,a3,a4,_⟩:=p2
  obtain ⟨b1,b2⟩:y0 = x0∧ys0 = xs0:=by rw [k1] at a1;simpa using a1
  subst b1;subst b2
  obtain ⟨b1,b2⟩:y1 = x1∧ys1 = xs1:=by rw [k4] at a2;simpa using a2
  subst b1;subst b2
  obtain ⟨b1,b2⟩:y2 = x2∧ys2 = xs2:=by rw [m4] at a3;simpa using a3
  subst b1;subst b2
  have hy2:=a4 rfl
  subst m7;subst m8
  have hG2:G2 = []:=by
   rcases m6 with m6|⟨_,_,m6⟩
   ·rw [m6] at hy2;cases hy2
   ·exact m6
  subst hG2;subst hy2
  rcases k3 with rfl|⟨k3,_⟩
  ·rcases k6 with rfl|⟨k6,_⟩
   ·exact ⟨(p,(G0,G1)) :: zs,by rw [e1];rfl,by rw [h1,k1,k4,m4,e2];rfl,by rw [h2,k2,k5,m5,e3'];simp [bl3]⟩
   ·cases k6
  ·cases k3
end
abbrev Cu:=(List (List Int) × List Int) × Int
def eCu:Cu→List D:=e3 (fun c:Cu => c.1.1.map eL) (fun c => c.1.2.map eI) (·.2)
def cutS (z:Spl × Int):Cu:=((z.1.1,z.1.2.headD []),z.2)
def cutsL (t:List Int):List Cu:=(gathS (split t)).map cutS
section
variable {P:Program} {cfg:Cfg} {M:Nat→Prop} {ops:Array Oper} {s:St} {w0:W0} {w:World} {Ok:Nat→Prop} {N:Nat} {σ:Asg} {a:Act} {fs:List Fr} {Q:Exit→St→Prop}
theorem ROps.nilA {l:List Oper} {Q:St→Prop} {r k:Nat} {pre post:List AC} (hk:0 < k) (hr:look r s.regs = some (.agg (pre ++ .nil :: post)))
  (h:ROps P cfg M ops l Q ⟨insR r (.agg (pre ++ .val (.tag [] (.sl k [])) :: post)) s.regs,s.heap⟩):ROps P cfg M ops l Q s:=by
 intro w0 Ok σ a w Q' hM hS hQ
 refine h w0 Ok σ a w Q' hM ⟨hS.below,hS.ok1,hS.ok2,hS.defers,hS.size,fun q av hq => ?_,hS.rows,hS.disj⟩ hQ
 rw [look_ins] at hq
 by_cases e:r = q
 ·rw [if_pos e] at hq
  subst e
  cases hq
  obtain ⟨us,hv1,hv2⟩:=hS.regs r _ hr
  refine ⟨us,hv1,relCs_repl hv2 (fun v _ hn => ?_)⟩
  have hn:v = .slice none 0 0:=hn
  subst hn
  exact rdV_tag.2 ⟨by simp,ownV_sl.2 ⟨none,[],[],Row.nil _ k,ownR.nil hk,rfl⟩⟩
 ·rw [if_neg e] at hq
  exact hS.regs q av hq
theorem ROps.openR {l:List Oper} {Q:St→Prop} {r k:Nat} {G:List Nat} {xs:List (List D)} (hr:look r s.regs = some (.c (.val (.tag G (.sl k xs)))))
  (h:∀ xs' F,TagL xs xs' F→PlainL xs xs'→F.Sublist G→ROps P cfg M ops l Q ⟨insR r (.c (.val (.sl k xs'))) s.regs,s.heap⟩):ROps P cfg M ops l Q s:=by
 intro w0 Ok σ a w Q' hM hS hQ
 obtain ⟨xs',F,h1,h2,h3,h4⟩:=hS.openR hr
 exact h xs' F h1 h2 h3 w0 Ok σ a w Q' hM h4 hQ
end
theorem tag_one {t:List Int} {xs':List (List D)} {F:List Nat} (h:TagL [[.sl 1 (t.map eI)]] xs' F):xs' = [[.tag F (.sl 1 (t.map eI))]]:=by
 obtain ⟨y,ys,G,H,h1,h2,⟨y0,ys0,G0,H0,k1,k2,k3,k4,k5⟩,h3,h4⟩:=h
 subst h3;subst h4;subst k4;subst k5
 rcases k3 with rfl|⟨k3,_⟩
 ·rw [h1,k1,h2,k2];simp
 ·cases k3
theorem split_trunk (t:List Int) (h:LevP t):∀ s ∈ split t,s.2.length ≤ 1:=fun s hs => by
 rw [split_eq h] at hs
 rcases List.mem_append.1 hs with hs|hs
 ·obtain ⟨a,_,rfl⟩:=List.mem_map.1 hs
  exact Nat.le_refl _
 ·obtain rfl:=List.mem_singleton.1 hs
  exact Nat.zero_le _
theorem gath_trunk (t:List Int) (h:LevP t):∀ z ∈ gathS (split t),z.1.2.length ≤ 1:=fun z hz => by
 obtain ⟨s,hs,e⟩:=List.mem_map.1 ((gathS_is (split t)).key z hz)
 rw [← e]
 show (sortC cmpT s.2).length ≤ 1
 rw [sortC_length];exact split_trunk t h s hs
set_option maxRecDepth 20000 in
set_option maxHeartbeats 8000000 in
theorem a_cutsOf (t:List Int) (h:LevP t) (hl:t.length ≤ 8):AFn Try.prog 35 [eL t] (· = [.own 3 ((cutsL t).map eCu) true]):=by
 have hsp:=a_splitTree 8 (Nat.le_refl _) t h hl
 have hlen:(split t).length ≤ 256:=by
  have h1:=split_len _ (Nat.le_refl _) h
  have h2:2 ^ t.length ≤ 2 ^ 8:=Nat.pow_le_pow_right (by decide) hl
  omega
 have hga:=a_gathered (split t) (by omega) (fun s hs => ((split_good _ (Nat.le_refl _) h s hs).ha (by omega)).sm)
 have hgl:(gathS (split t)).length ≤ 256:=by have:=(gathS_is (split t)).len;rw [List.length_map] at this;omega
 have htr:=gath_trunk t h
 obtain ⟨L,hL⟩:∃ L,L = gathS (split t):=⟨_,rfl⟩
 have hcl:cutsL t = L.map cutS:=by rw [hL];rfl
 rw [hcl]
 rw [← hL] at hga hgl htr
 simp only [eL] at hsp
 refine AFn.of_runs (cfg_ok 36) Try.func35 rfl rfl rfl (by simp only [List.length_cons,List.length_nil];decide) ?_
 have hres:Try.f35.results.toList = [.tmp 2]:=rfl
 have hrts:Try.f35.resultTypes.toList = [57]:=rfl
 simp only [argRegs,argAV1,eL,eI,eLL,eB,Nat.zero_add,Nat.reduceAdd]
 intro M
 refine RunK.of ?_
 repeat' (first|with_reducible (first|refine Q1 ?_|refine Q2 ?_|refine Q3 ?_|refine Q4 ?_|refine Q5 ?_|refine Q6 ?_|refine Q7 ?_|refine Q8 ?_|refine Q9 ?_|refine Qa ?_|refine Qb ?_|refine Qc ?_|refine Qd ?_|refine Qe ?_|refine Qf ?_)|((with_reducible refine Qo ?_ ?_);focus rfl)|((with_reducible first|refine QT 13 (l:=?_) ?_ ?_|refine QF 13 (l:=?_) ?_ ?_);rotate_left 1;focus (simp only [Zu,Nat.reduceSub,Nat.reduceBEq];with_reducible rfl))|((with_reducible first|refine QS (cfg_ok 36) ((Tab.none.at' 51 hsp).own' 50 0 hga) (s':=?_) ?_ ?_|refine QC (b:=?_) ?_ ?_);rotate_left 1;focus ((with_reducible refine QW ?_);simp only [Zg,seval,if_true,if_false,reduceCtorEq,Nat.reduceEqDiff,Tab.own',atOwn_eq,List.length_map];with_reducible rfl)))
 refine RunK.tag' 10 (k:=3) (xs:=L.map eSp) rfl ?_
 intro xs' F ht hpl hnd hF
 obtain ⟨zs,e1,e2,e3'⟩:=tag_rows3 _ _ _ ht hpl
 subst e2;subst e3'
 have hzl:zs.length = L.length:=by rw [e1,List.length_map]
 refine RunK.loop (β:=Nat × List (Cu × (List Nat × List Nat))) (γ:=List (Cu × (List Nat × List Nat))) (fun x => ⟨[(3,.c (.own 3 x.2.length)),(10,.c (.own 10 L.length)),(11,.c (.val (.int L.length))),(12,.c (.val (.int x.1)))],[(3,.row 3 (x.2.map (e3T (fun c:Cu => c.1.1.map eL) (fun c => c.1.2.map eI) (·.2))) false),(10,.row 3 (zs.map (e3T (fun z:Spl × Int => z.1.1.map eL) (fun z => z.1.2.map eL) (·.2))) false)]⟩)
  (fun x => x.1 ≤ L.length∧x.2.map (fun q => q.1) = (L.take x.1).map cutS∧((x.2.map bl3).flatten).Sublist ((zs.take x.1).map bl3).flatten) (fun x => L.length - x.1)
  (fun qs => ⟨[(3,.c (.own 3 qs.length))],[(3,.row 3 (qs.map (e3T (fun c:Cu => c.1.1.map eL) (fun c => c.1.2.map eI) (·.2))) false)]⟩) (fun qs => qs.map (fun q => q.1) = L.map cutS∧((qs.map bl3).flatten).Sublist (zs.map bl3).flatten) (0,[]) ⟨Nat.zero_le _,rfl,List.Sublist.refl _⟩ ?_ ?_ ?_
 ·(repeat' (first|with_reducible refine Qn|((with_reducible refine Qr ?_ ?_);focus (first|with_reducible rfl|(simp only [Zz,Nat.reduceBEq,List.map_nil,List.length_nil,Int.natCast_zero];done)|rfl))|((with_reducible refine Qj (o':=?_) ?_ ?_ ?_);rotate_left 1;focus rfl)|((with_reducible refine Qw ?_ ?_);(focus (first|with_reducible rfl|(simp only [Zv,List.map_nil,List.length_nil,Int.natCast_zero];done)));focus (first|exact id|exact (fun h => nomatch h)|exact (fun _ => rfl)))))
 ·rintro ⟨i,qs⟩ ⟨hi,hq,hsub⟩
  simp only at hi hq hsub ⊢
  have hw:=w64_succ (n:=i) (by omega)
  have hqn:qs.length = i:=by
   have:=congrArg List.length hq
   rw [List.length_map,List.length_map,List.length_take] at this;omega
  have hzm:(zs.map (e3T (fun z:Spl × Int => z.1.1.map eL) (fun z => z.1.2.map eL) (·.2))).length = L.length:=by rw [List.length_map,hzl]
  by_cases hiL:i < L.length
  ·have hiz:i < zs.length:=by omega
   have i1:((i:Int) < (L.length:Int)) = True:=eq_true (by omega)
   have i2:((0:Int) ≤ (i:Int)) = True:=eq_true (by omega)
   obtain ⟨z,hz⟩:∃ z,z = zs[i]:=⟨_,rfl⟩
   have hLi:L[i] = z.1:=by simp only [e1,List.getElem_map,hz]
   have hg:(zs.map (e3T (fun z:Spl × Int => z.1.1.map eL) (fun z => z.1.2.map eL) (·.2)))[i]? = some (e3T (fun z:Spl × Int => z.1.1.map eL) (fun z => z.1.2.map eL) (·.2) z):=by rw [map_get hiz,hz]
   have hone:=htr L[i] (List.getElem_mem _)
   have htkz:(zs.take (i + 1)).map bl3 = (zs.take i).map bl3 ++ [bl3 z]:=by rw [List.take_succ_eq_append_getElem hiz,List.map_append,← hz];rfl
   have htkL:(L.take (i + 1)).map cutS = (L.take i).map cutS ++ [cutS z.1]:=by rw [List.take_succ_eq_append_getElem hiL,List.map_append,hLi];rfl
   rw [hLi] at hone
   obtain ⟨⟨⟨f,g⟩,n⟩,⟨F,G⟩⟩:=z
   simp only [e3T] at hg
   simp only at hone
   have q1:=big_le (n:=qs.length + 1) (by omega)
   have q2:=big_mul (n:=qs.length + 1) (c:=56) (by omega) (by omega)
   match g,hone with
   | [],_ =>
    have j1:((([]:List (List Int)).length:Int) > 0) = False:=eq_false (by simp)
    ((repeat' (first|with_reducible (first|refine Q1 ?_|refine Q2 ?_|refine Q3 ?_|refine Q4 ?_|refine Q5 ?_|refine Q6 ?_|refine Q7 ?_|refine Q8 ?_|refine Q9 ?_|refine Qa ?_|refine Qb ?_|refine Qc ?_|refine Qd ?_|refine Qe ?_|refine Qf ?_)|((with_reducible refine Qo ?_ ?_);focus rfl)|((with_reducible first|refine QT 13 (l:=?_) ?_ ?_|refine QF 13 (l:=?_) ?_ ?_);rotate_left 1;focus (simp only [Zu,Nat.reduceSub,Nat.reduceBEq];with_reducible rfl))|((with_reducible refine QC (b:=?_) ?_ ?_);rotate_left 1;focus ((with_reducible refine QW ?_);simp only [Zg,seval,if_true,if_false,reduceCtorEq,Nat.reduceEqDiff,i1];with_reducible rfl))));((with_reducible refine QS (cfg_ok 36) Tab.none (s':=?_) ?_ ?_);rotate_left 1;focus ((with_reducible refine QW ?_);simp only [Zg,seval,if_true,if_false,reduceCtorEq,Nat.reduceEqDiff,i1];with_reducible rfl));(repeat' (first|with_reducible (first|refine Q1 ?_|refine Q2 ?_|refine Q3 ?_|refine Q4 ?_|refine Q5 ?_|refine Q6 ?_|refine Q7 ?_|refine Q8 ?_|refine Q9 ?_|refine Qa ?_|refine Qb ?_|refine Qc ?_|refine Qd ?_|refine Qe ?_|refine Qf ?_)|((with_reducible refine Qo ?_ ?_);focus rfl)|((with_reducible first|refine QT 13 (l:=?_) ?_ ?_|refine QF 13 (l:=?_) ?_ ?_);rotate_left 1;focus (simp only [Zu,Nat.reduceSub,Nat.reduceBEq];with_reducible rfl))|((with_reducible refine QC (b:=?_) ?_ ?_);rotate_left 1;focus ((with_reducible refine QW ?_);simp only [Zg,seval,if_true,if_false,reduceCtorEq,Nat.reduceEqDiff,i1];with_reducible rfl)))))
    ((repeat' (first|with_reducible (first|refine Q1 ?_|refine Q2 ?_|refine Q3 ?_|refine Q4 ?_|refine Q5 ?_|refine Q6 ?_|refine Q7 ?_|refine Q8 ?_|refine Q9 ?_|refine Qa ?_|refine Qb ?_|refine Qc ?_|refine Qd ?_|refine Qe ?_|refine Qf ?_)|((with_reducible refine Qo ?_ ?_);focus rfl)|((with_reducible first|refine QT 13 (l:=?_) ?_ ?_|refine QF 13 (l:=?_) ?_ ?_);rotate_left 1;focus (simp only [Zu,Nat.reduceSub,Nat.reduceBEq];with_reducible rfl))|((with_reducible refine QC (b:=?_) ?_ ?_);rotate_left 1;focus ((with_reducible refine QW ?_);simp only [Zg,seval,if_true,if_false,reduceCtorEq,Nat.reduceEqDiff,i1,i2,hg,hzm,Int.toNat_natCast];with_reducible rfl))));((with_reducible refine QS (cfg_ok 36) Tab.none (s':=?_) ?_ ?_);rotate_left 1;focus ((with_reducible refine QW ?_);simp only [Zg,seval,if_true,if_false,reduceCtorEq,Nat.reduceEqDiff,i1,i2,hg,hzm,Int.toNat_natCast];with_reducible rfl));(repeat' (first|with_reducible (first|refine Q1 ?_|refine Q2 ?_|refine Q3 ?_|refine Q4 ?_|refine Q5 ?_|refine Q6 ?_|refine Q7 ?_|refine Q8 ?_|refine Q9 ?_|refine Qa ?_|refine Qb ?_|refine Qc ?_|refine Qd ?_|refine Qe ?_|refine Qf ?_)|((with_reducible refine Qo ?_ ?_);focus rfl)|((with_reducible first|refine QT 13 (l:=?_) ?_ ?_|refine QF 13 (l:=?_) ?_ ?_);rotate_left 1;focus (simp only [Zu,Nat.reduceSub,Nat.reduceBEq];with_reducible rfl))|((with_reducible refine QC (b:=?_) ?_ ?_);rotate_left 1;focus ((with_reducible refine QW ?_);simp only [Zg,seval,if_true,if_false,reduceCtorEq,Nat.reduceEqDiff,i1,i2,hg,hzm,Int.toNat_natCast];with_reducible rfl)))))
    refine RunK.regCut (cfg_ok 36) Tab.none 5 (s1:=?_) ?_ ?_
    rotate_left 1
    focus (refine Work.mk ?_;simp only [Zg,seval,if_true,if_false,reduceCtorEq,Nat.reduceEqDiff];with_reducible rfl)
    simp only [List.toList_toArray,List.drop_succ_cons,List.drop_zero]
    refine ROps.nilA (r:=20) (k:=1) (pre:=[.val (.tag F (.sl 1 (f.map eL)))]) (post:=[.val (.int n)]) (by decide) rfl ?_
    refine ROps.opsT (cfg_ok 36) (T:=Tab.none) (s':=?_) ?_ ?_
    rotate_left 1
    focus (simp only [Zg,seval,if_true,if_false,reduceCtorEq,Nat.reduceEqDiff];with_reducible rfl)
    repeat' (first|with_reducible (first|refine Q1 ?_|refine Q2 ?_|refine Q3 ?_|refine Q4 ?_|refine Q5 ?_|refine Q6 ?_|refine Q7 ?_|refine Q8 ?_|refine Q9 ?_|refine Qa ?_|refine Qb ?_|refine Qc ?_|refine Qd ?_|refine Qe ?_|refine Qf ?_)|((with_reducible refine Qo ?_ ?_);focus rfl)|((with_reducible first|refine QT 13 (l:=?_) ?_ ?_|refine QF 13 (l:=?_) ?_ ?_);rotate_left 1;focus (simp only [Zu,Nat.reduceSub,Nat.reduceBEq];with_reducible rfl))|((with_reducible first|refine QS (cfg_ok 36) Tab.none (s':=?_) ?_ ?_|refine QC (b:=?_) ?_ ?_);rotate_left 1;focus ((with_reducible refine QW ?_);simp only [Zg,seval,if_true,if_false,reduceCtorEq,Nat.reduceEqDiff,j1,hw,q1,q2,List.length_map,List.length_nil];with_reducible rfl)))
    refine roundK.on (i + 1,qs ++ [(((f,[]),n),(F,[]))]) ⟨⟨hiL,?_,?_⟩,by show L.length - (i + 1) < L.length - i;omega⟩ ?_
    ·show List.map (fun q:Cu × (List Nat × List Nat) => q.1) (qs ++ [(((f,[]),n),(F,[]))]) = _
     rw [List.map_append,hq,htkL];rfl
    ·show (((qs ++ [(((f,[]),n),(F,[]))]).map bl3).flatten).Sublist _
     rw [htkz,List.map_append,List.flatten_append,List.flatten_append]
     refine List.Sublist.append hsub ?_
     simp [bl3]
    ·(repeat' (first|with_reducible refine Qn|((with_reducible refine Qr ?_ ?_);focus (first|with_reducible rfl|(simp only [Zz,Nat.reduceBEq,e3T,List.map_nil,List.length_append,List.length_singleton];done)|rfl))|((with_reducible refine Qj (o':=?_) ?_ ?_ ?_);rotate_left 1;focus rfl)|((with_reducible refine Qw ?_ ?_);(focus (first|with_reducible rfl|(simp only [Zv,e3T,List.map_nil,List.length_append,List.length_singleton];done)));focus (first|exact id|exact (fun h => nomatch h)|exact (fun _ => rfl)))))
   | [tr],_ =>
    have j1:((([tr]:List (List Int)).length:Int) > 0) = True:=eq_true (by simp)
    ((repeat' (first|with_reducible (first|refine Q1 ?_|refine Q2 ?_|refine Q3 ?_|refine Q4 ?_|refine Q5 ?_|refine Q6 ?_|refine Q7 ?_|refine Q8 ?_|refine Q9 ?_|refine Qa ?_|refine Qb ?_|refine Qc ?_|refine Qd ?_|refine Qe ?_|refine Qf ?_)|((with_reducible refine Qo ?_ ?_);focus rfl)|((with_reducible first|refine QT 13 (l:=?_) ?_ ?_|refine QF 13 (l:=?_) ?_ ?_);rotate_left 1;focus (simp only [Zu,Nat.reduceSub,Nat.reduceBEq];with_reducible rfl))|((with_reducible refine QC (b:=?_) ?_ ?_);rotate_left 1;focus ((with_reducible refine QW ?_);simp only [Zg,seval,if_true,if_false,reduceCtorEq,Nat.reduceEqDiff,i1];with_reducible rfl))));((with_reducible refine QS (cfg_ok 36) Tab.none (s':=?_) ?_ ?_);rotate_left 1;focus ((with_reducible refine QW ?_);simp only [Zg,seval,if_true,if_false,reduceCtorEq,Nat.reduceEqDiff,i1];with_reducible rfl));(repeat' (first|with_reducible (first|refine Q1 ?_|refine Q2 ?_|refine Q3 ?_|refine Q4 ?_|refine Q5 ?_|refine Q6 ?_|refine Q7 ?_|refine Q8 ?_|refine Q9 ?_|refine Qa ?_|refine Qb ?_|refine Qc ?_|refine Qd ?_|refine Qe ?_|refine Qf ?_)|((with_reducible refine Qo ?_ ?_);focus rfl)|((with_reducible first|refine QT 13 (l:=?_) ?_ ?_|refine QF 13 (l:=?_) ?_ ?_);rotate_left 1;focus (simp only [Zu,Nat.reduceSub,Nat.reduceBEq];with_reducible rfl))|((with_reducible refine QC (b:=?_) ?_ ?_);rotate_left 1;focus ((with_reducible refine QW ?_);simp only [Zg,seval,if_true,if_false,reduceCtorEq,Nat.reduceEqDiff,i1];with_reducible rfl)))))
    ((repeat' (first|with_reducible (first|refine Q1 ?_|refine Q2 ?_|refine Q3 ?_|refine Q4 ?_|refine Q5 ?_|refine Q6 ?_|refine Q7 ?_|refine Q8 ?_|refine Q9 ?_|refine Qa ?_|refine Qb ?_|refine Qc ?_|refine Qd ?_|refine Qe ?_|refine Qf ?_)|((with_reducible refine Qo ?_ ?_);focus rfl)|((with_reducible first|refine QT 13 (l:=?_) ?_ ?_|refine QF 13 (l:=?_) ?_ ?_);rotate_left 1;focus (simp only [Zu,Nat.reduceSub,Nat.reduceBEq];with_reducible rfl))|((with_reducible refine QC (b:=?_) ?_ ?_);rotate_left 1;focus ((with_reducible refine QW ?_);simp only [Zg,seval,if_true,if_false,reduceCtorEq,Nat.reduceEqDiff,i1,i2,hg,hzm,Int.toNat_natCast];with_reducible rfl))));((with_reducible refine QS (cfg_ok 36) Tab.none (s':=?_) ?_ ?_);rotate_left 1;focus ((with_reducible refine QW ?_);simp only [Zg,seval,if_true,if_false,reduceCtorEq,Nat.reduceEqDiff,i1,i2,hg,hzm,Int.toNat_natCast];with_reducible rfl));(repeat' (first|with_reducible (first|refine Q1 ?_|refine Q2 ?_|refine Q3 ?_|refine Q4 ?_|refine Q5 ?_|refine Q6 ?_|refine Q7 ?_|refine Q8 ?_|refine Q9 ?_|refine Qa ?_|refine Qb ?_|refine Qc ?_|refine Qd ?_|refine Qe ?_|refine Qf ?_)|((with_reducible refine Qo ?_ ?_);focus rfl)|((with_reducible first|refine QT 13 (l:=?_) ?_ ?_|refine QF 13 (l:=?_) ?_ ?_);rotate_left 1;focus (simp only [Zu,Nat.reduceSub,Nat.reduceBEq];with_reducible rfl))|((with_reducible refine QC (b:=?_) ?_ ?_);rotate_left 1;focus ((with_reducible refine QW ?_);simp only [Zg,seval,if_true,if_false,reduceCtorEq,Nat.reduceEqDiff,i1,i2,hg,hzm,Int.toNat_natCast];with_reducible rfl)))))
    ((repeat' (first|with_reducible (first|refine Q1 ?_|refine Q2 ?_|refine Q3 ?_|refine Q4 ?_|refine Q5 ?_|refine Q6 ?_|refine Q7 ?_|refine Q8 ?_|refine Q9 ?_|refine Qa ?_|refine Qb ?_|refine Qc ?_|refine Qd ?_|refine Qe ?_|refine Qf ?_)|((with_reducible refine Qo ?_ ?_);focus rfl)|((with_reducible first|refine QT 13 (l:=?_) ?_ ?_|refine QF 13 (l:=?_) ?_ ?_);rotate_left 1;focus (simp only [Zu,Nat.reduceSub,Nat.reduceBEq];with_reducible rfl))|((with_reducible refine QC (b:=?_) ?_ ?_);rotate_left 1;focus ((with_reducible refine QW ?_);simp only [Zg,seval,if_true,if_false,reduceCtorEq,Nat.reduceEqDiff];with_reducible rfl))));((with_reducible refine QS (cfg_ok 36) Tab.none (s':=?_) ?_ ?_);rotate_left 1;focus ((with_reducible refine QW ?_);simp only [Zg,seval,if_true,if_false,reduceCtorEq,Nat.reduceEqDiff];with_reducible rfl));(repeat' (first|with_reducible (first|refine Q1 ?_|refine Q2 ?_|refine Q3 ?_|refine Q4 ?_|refine Q5 ?_|refine Q6 ?_|refine Q7 ?_|refine Q8 ?_|refine Q9 ?_|refine Qa ?_|refine Qb ?_|refine Qc ?_|refine Qd ?_|refine Qe ?_|refine Qf ?_)|((with_reducible refine Qo ?_ ?_);focus rfl)|((with_reducible first|refine QT 13 (l:=?_) ?_ ?_|refine QF 13 (l:=?_) ?_ ?_);rotate_left 1;focus (simp only [Zu,Nat.reduceSub,Nat.reduceBEq];with_reducible rfl))|((with_reducible refine QC (b:=?_) ?_ ?_);rotate_left 1;focus ((with_reducible refine QW ?_);simp only [Zg,seval,if_true,if_false,reduceCtorEq,Nat.reduceEqDiff];with_reducible rfl)))))
    ((repeat' (first|with_reducible (first|refine Q1 ?_|refine Q2 ?_|refine Q3 ?_|refine Q4 ?_|refine Q5 ?_|refine Q6 ?_|refine Q7 ?_|refine Q8 ?_|refine Q9 ?_|refine Qa ?_|refine Qb ?_|refine Qc ?_|refine Qd ?_|refine Qe ?_|refine Qf ?_)|((with_reducible refine Qo ?_ ?_);focus rfl)|((with_reducible first|refine QT 13 (l:=?_) ?_ ?_|refine QF 13 (l:=?_) ?_ ?_);rotate_left 1;focus (simp only [Zu,Nat.reduceSub,Nat.reduceBEq];with_reducible rfl))|((with_reducible refine QC (b:=?_) ?_ ?_);rotate_left 1;focus ((with_reducible refine QW ?_);simp only [Zg,seval,if_true,if_false,reduceCtorEq,Nat.reduceEqDiff,j1,List.length_map];with_reducible rfl))));((with_reducible refine QS (cfg_ok 36) Tab.none (s':=?_) ?_ ?_);rotate_left 1;focus ((with_reducible refine QW ?_);simp only [Zg,seval,if_true,if_false,reduceCtorEq,Nat.reduceEqDiff,j1,List.length_map];with_reducible rfl));(repeat' (first|with_reducible (first|refine Q1 ?_|refine Q2 ?_|refine Q3 ?_|refine Q4 ?_|refine Q5 ?_|refine Q6 ?_|refine Q7 ?_|refine Q8 ?_|refine Q9 ?_|refine Qa ?_|refine Qb ?_|refine Qc ?_|refine Qd ?_|refine Qe ?_|refine Qf ?_)|((with_reducible refine Qo ?_ ?_);focus rfl)|((with_reducible first|refine QT 13 (l:=?_) ?_ ?_|refine QF 13 (l:=?_) ?_ ?_);rotate_left 1;focus (simp only [Zu,Nat.reduceSub,Nat.reduceBEq];with_reducible rfl))|((with_reducible refine QC (b:=?_) ?_ ?_);rotate_left 1;focus ((with_reducible refine QW ?_);simp only [Zg,seval,if_true,if_false,reduceCtorEq,Nat.reduceEqDiff,j1,List.length_map];with_reducible rfl)))))
    refine RunK.regCut (cfg_ok 36) Tab.none 2 (s1:=?_) ?_ ?_
    rotate_left 1
    focus (refine Work.mk ?_;simp only [Zg,seval,if_true,if_false,reduceCtorEq,Nat.reduceEqDiff];with_reducible rfl)
    simp only [List.toList_toArray,List.drop_succ_cons,List.drop_zero]
    refine ROps.openR (r:=26) (k:=1) (G:=G) (xs:=[tr].map eL) rfl ?_
    intro ys G' ht1 _ hG'
    have hys:=tag_one ht1
    subst hys
    refine ROps.opsT (cfg_ok 36) (T:=Tab.none) (s':=?_) ?_ ?_
    rotate_left 1
    focus (simp only [Zg,seval,if_true,if_false,reduceCtorEq,Nat.reduceEqDiff,List.length_map];with_reducible rfl)
    repeat' (first|with_reducible (first|refine Q1 ?_|refine Q2 ?_|refine Q3 ?_|refine Q4 ?_|refine Q5 ?_|refine Q6 ?_|refine Q7 ?_|refine Q8 ?_|refine Q9 ?_|refine Qa ?_|refine Qb ?_|refine Qc ?_|refine Qd ?_|refine Qe ?_|refine Qf ?_)|((with_reducible refine Qo ?_ ?_);focus rfl)|((with_reducible first|refine QT 13 (l:=?_) ?_ ?_|refine QF 13 (l:=?_) ?_ ?_);rotate_left 1;focus (simp only [Zu,Nat.reduceSub,Nat.reduceBEq];with_reducible rfl))|((with_reducible first|refine QS (cfg_ok 36) Tab.none (s':=?_) ?_ ?_|refine QC (b:=?_) ?_ ?_);rotate_left 1;focus ((with_reducible refine QW ?_);simp only [Zg,seval,if_true,if_false,reduceCtorEq,Nat.reduceEqDiff,hw,q1,q2,List.length_map];with_reducible rfl)))
    refine roundK.on (i + 1,qs ++ [(((f,tr),n),(F,G'))]) ⟨⟨hiL,?_,?_⟩,by show L.length - (i + 1) < L.length - i;omega⟩ ?_
    ·show List.map (fun q:Cu × (List Nat × List Nat) => q.1) (qs ++ [(((f,tr),n),(F,G'))]) = _
     rw [List.map_append,hq,htkL];rfl
    ·show (((qs ++ [(((f,tr),n),(F,G'))]).map bl3).flatten).Sublist _
     rw [htkz,List.map_append,List.flatten_append,List.flatten_append]
     refine List.Sublist.append hsub ?_
     simp only [bl3,List.map_cons,List.map_nil,List.flatten_cons,List.flatten_nil,List.append_nil]
     exact List.Sublist.append (List.Sublist.refl _) hG'
    ·(repeat' (first|with_reducible refine Qn|((with_reducible refine Qr ?_ ?_);focus (first|with_reducible rfl|(simp only [Zz,Nat.reduceBEq,e3T,List.map_nil,List.length_append,List.length_singleton];done)|rfl))|((with_reducible refine Qj (o':=?_) ?_ ?_ ?_);rotate_left 1;focus rfl)|((with_reducible refine Qw ?_ ?_);(focus (first|with_reducible rfl|(simp only [Zv,e3T,List.map_nil,List.length_append,List.length_singleton];done)));focus (first|exact id|exact (fun h => nomatch h)|exact (fun _ => rfl)))))
  ·have i1:((i:Int) < (L.length:Int)) = False:=eq_false (by omega)
   obtain rfl:i = L.length:=by omega
   rw [List.take_length] at hq
   rw [← hzl,List.take_length] at hsub
   repeat' (first|with_reducible (first|refine Q1 ?_|refine Q2 ?_|refine Q3 ?_|refine Q4 ?_|refine Q5 ?_|refine Q6 ?_|refine Q7 ?_|refine Q8 ?_|refine Q9 ?_|refine Qa ?_|refine Qb ?_|refine Qc ?_|refine Qd ?_|refine Qe ?_|refine Qf ?_)|((with_reducible refine Qo ?_ ?_);focus rfl)|((with_reducible first|refine QT 13 (l:=?_) ?_ ?_|refine QF 13 (l:=?_) ?_ ?_);rotate_left 1;focus (simp only [Zu,Nat.reduceSub,Nat.reduceBEq];with_reducible rfl))|((with_reducible first|refine QS (cfg_ok 36) Tab.none (s':=?_) ?_ ?_|refine QC (b:=?_) ?_ ?_);rotate_left 1;focus ((with_reducible refine QW ?_);simp only [Zg,seval,if_true,if_false,reduceCtorEq,Nat.reduceEqDiff,i1];with_reducible rfl)))
   refine roundK.out qs ⟨hq,hsub⟩ ?_
   (repeat' (first|with_reducible refine Qn|((with_reducible refine Qr ?_ ?_);focus (first|with_reducible rfl|(simp only [Zz,Nat.reduceBEq];done)|rfl))|((with_reducible refine Qj (o':=?_) ?_ ?_ ?_);rotate_left 1;focus rfl)|((with_reducible refine Qw ?_ ?_);(focus (first|with_reducible rfl|(simp only [Zv];done)));focus (first|exact id|exact (fun h => nomatch h)|exact (fun _ => rfl)))))
 ·rintro qs ⟨hq,hsub⟩
  repeat' (first|with_reducible (first|refine Q1 ?_|refine Q2 ?_|refine Q3 ?_|refine Q4 ?_|refine Q5 ?_|refine Q6 ?_|refine Q7 ?_|refine Q8 ?_|refine Q9 ?_|refine Qa ?_|refine Qb ?_|refine Qc ?_|refine Qd ?_|refine Qe ?_|refine Qf ?_)|((with_reducible refine Qo ?_ ?_);focus rfl)|((with_reducible first|refine QT 13 (l:=?_) ?_ ?_|refine QF 13 (l:=?_) ?_ ?_);rotate_left 1;focus (simp only [Zu,Nat.reduceSub,Nat.reduceBEq];with_reducible rfl))|((with_reducible first|refine QS (cfg_ok 36) Tab.none (s':=?_) ?_ ?_|refine QC (b:=?_) ?_ ?_);rotate_left 1;focus ((with_reducible refine QW ?_);simp only [Zg,seval,if_true,if_false,reduceCtorEq,Nat.reduceEqDiff];with_reducible rfl)))
  refine Ends.un (by simp) hres hrts (r:=?_) (r':=.own 3 ((L.map cutS).map eCu) true) (l:=[]) (ks:=?_) ?_ ?_ (by simp) ?_ rfl
  rotate_left 2
  focus (simp only [aresults,ares,Zg,seval,if_true,if_false,reduceCtorEq,Nat.reduceEqDiff];with_reducible rfl)
  focus simp
  rw [← hq]
  exact ⟨(qs.map bl3).flatten,hnd.sublist hsub,fun b hb => hF b (hsub.subset hb),.inl ⟨3,_,_,rfl,rfl,tag_mk3 _ _ _ qs⟩⟩
end Go.Proofs.Ytfhmonacgmakbaa
namespace Go.Proofs.Ytfhmonacgmakbaa
open Go.RowKit
def plc (t:List Int):Int:=(posT t:Int) + 1
abbrev MC:=Int × List Int × Int
def mcut (c:Cu):MC:=(c.2,c.1.1.map plc,if c.1.2 = [] then 0 else plc c.1.2)
def eM (m:MC):List D:=[.int m.1,.sl 1 (m.2.1.map eI),.int m.2.2]
def cutsM (t:List Int):List MC:=(cutsL t).map mcut
def eMs (L:List MC):List D:=[.sl 3 (L.map eM)]
def T6:List (List Int):=allTo 6
def frmD:List D:=[.sl 1 (T6.map eL),.sl 1 ((T6.map cutsM).map eMs)]
theorem T6_len:T6.length = 37:=by decide +kernel
theorem T6_ok:∀ t ∈ T6,canT t = true∧t.length ≤ 6:=by
 have h:T6.all (fun t => canT t && decide (t.length ≤ 6)) = true:=by decide +kernel
 intro t ht
 have:=List.all_eq_true.1 h t ht
 simpa using this
theorem canT_lev {t:List Int} (h:canT t = true):LevP t∧canon t = t:=by
 unfold canT at h
 rw [Bool.and_eq_true] at h
 exact ⟨lev8_lev h.1,of_decide_eq_true h.2⟩
theorem canT_mk {t:List Int} (h:LevP t) (hc:canon t = t) (h8:t.length ≤ 8):canT t = true:=by
 unfold canT
 rw [lev8_mk h h8,decide_eq_true hc];rfl
theorem plc_at {t:List Int} (h:canT t = true) (hl:t.length ≤ 6):∃ hi:posT t < T6.length,T6[posT t] = t∧(∀ k (hk:k < T6.length),k < posT t→cmpT T6[k] t < 0)∧∀ k (hk:k < T6.length),posT t ≤ k→0 ≤ cmpT T6[k] t:=pos_at h hl (by decide)
theorem plc_lt {t:List Int} (h:canT t = true) (hl:t.length ≤ 6):1 ≤ plc t∧plc t < 38:=by
 obtain ⟨hi,_⟩:=plc_at h hl
 rw [T6_len] at hi
 unfold plc;omega
theorem cuts6 {t:List Int} (ht:t ∈ T6):(cutsL t).length ≤ 256∧∀ x ∈ cutsL t,(1 ≤ x.2∧x.2 ≤ 256)∧(∀ c ∈ x.1.1,canT c = true∧c.length ≤ 6)∧x.1.1.length ≤ 8∧(x.1.2 = [] ∨ (canT x.1.2 = true∧x.1.2.length ≤ 6)):=by
 obtain ⟨h0,hl⟩:=T6_ok t ht
 obtain ⟨h,hc⟩:=canT_lev h0
 have h0:=(gathS_is (split t)).len
 rw [List.length_map] at h0
 have h1:=split_len _ (Nat.le_refl _) h
 have h2:2 ^ t.length ≤ 2 ^ 8:=Nat.pow_le_pow_right (by decide) (by omega)
 refine ⟨by unfold cutsL;rw [List.length_map];omega,fun x hx => ?_⟩
 obtain ⟨z,hz,rfl⟩:=List.mem_map.1 hx
 obtain ⟨g1,g2,g3⟩:=gath_good (split_good _ (Nat.le_refl _) h) z hz
 have hsum:=g3.2
 have one:∀ c ∈ z.1.1 ++ z.1.2,canT c = true∧c.length ≤ 6:=fun c hcm => by
  obtain ⟨k1,k2⟩:=g3.1 c hcm
  have hcl:c.length ≤ t.length:=by
   rcases List.mem_append.1 hcm with hm|hm
   ·have:=sumLen_mem hm;omega
   ·have:=sumLen_mem hm;omega
  exact ⟨canT_mk k1 k2 (by omega),by omega⟩
 refine ⟨⟨g1,by show z.2 ≤ 256;omega⟩,fun c hcm => one c (List.mem_append_left _ hcm),?_,?_⟩
 ·show z.1.1.length ≤ 8
  have:=len_sum (f:=z.1.1) (fun b hb => (g3.1 b (List.mem_append_left _ hb)).1)
  omega
 ·show z.1.2.headD [] = [] ∨ _
  match hz2:z.1.2 with
  | [] => exact .inl rfl
  | tr :: l =>
   have:=one tr (List.mem_append_right _ (by rw [hz2];simp))
   exact .inr (by show canT (z.1.2.headD []) = true∧(z.1.2.headD []).length ≤ 6;rw [hz2];exact this)
end Go.Proofs.Ytfhmonacgmakbaa
namespace Go.Proofs.Ytfhmonacgmakbaa
open Go.RowKit
set_option maxRecDepth 100000 in
set_option maxHeartbeats 4000000 in
theorem c_BinarySearch (v1 v2:Value) (L:List (List Int)) (t:List Int) (i:Nat) (w:World) (h1:Rd (RS (RS RI)) w [v1] L) (h2:Rd (RS RI) w [v2] t) (hsz:L.length ≤ 1000000000) (hi:i < L.length)
  (hlo:∀ k (h:k < L.length),k < i→cmpT L[k] t < 0) (hhi:∀ k (h:k < L.length),i ≤ k→0 ≤ cmpT L[k] t) (heq:cmpT L[i] t = 0) :
  Calls Try.prog 68 #[v1,v2,.func (.func 69) #[] #[]] w (RetS w (.tuple #[.int .i64 i,.bool true])):=by
 obtain ⟨oa,ca,L1⟩:=h1.lists
 obtain rfl:=L1.val
 have m1:=L1.le;have m2:=L1.capLe
 unfold maxLen at m2
 obtain ⟨ob,cb,rfl,m3,m4⟩:=h2.val
 have HL1:=Lib.hid L1
 have HLO:=Lib.hid hlo
 have HHI:=Lib.hid hhi
 have H2:=Lib.hid h2
 have HEQ:=Lib.hid heq
 clear L1 h1 hlo hhi h2 heq
 go_enter Try.func68,Try.ntmps68
 go_wp2_with fail
 go_loop [9,10] (fun s9 s10 => ∃ lo hi:Nat,lo ≤ i∧i ≤ hi∧hi ≤ L.length∧s9 = .int .i64 lo∧s10 = .int .i64 hi) (fun s9 s10 => (intOf s10).toNat - (intOf s9).toNat)
 case atStart => exact ⟨0,L.length,Nat.zero_le _,Nat.le_of_lt hi,Nat.le_refl _,rfl,rfl⟩
 case round =>
  obtain ⟨lo,hi',h1,h2,h3,rfl,rfl⟩:=hrel
  by_cases hlt:lo < hi'
  ·have hmn:(lo + hi') / 2 < L.length:=by omega
   obtain ⟨b1,o1,rfl,hb1,hc1⟩:=HL1.out.get hmn
   obtain ⟨oi,ci,g1,hrd1,q1,q2⟩:=hc1 _ hmn
   have hcall:=c_impl_compareTrees _ _ _ _ w hrd1 H2.out
   obtain ⟨z,hz⟩:∃ z,z = cmpT L[(lo + hi') / 2] t:=⟨_,rfl⟩
   obtain ⟨x1,hx1⟩:∃ x,x = L[(lo + hi') / 2].length:=⟨_,rfl⟩
   rw [← hz] at hcall
   rw [← hx1] at g1 q1 hcall
   have HC:=Lib.hid hcall
   have i1:(0:Int) ≤ ((lo:Int) + (hi':Int)) / 2:=by omega
   have i2:((lo:Int) + (hi':Int)) / 2 < (L.length:Int):=by omega
   by_cases hc:z < 0
   ·have hmi:(lo + hi') / 2 < i:=Nat.lt_of_not_le (fun h => by have:=HHI.out _ hmn h;omega)
    clear hc1 hrd1 hcall hx1 hz
    go_wp2_with (go_at_call 69;refine HC.out.mono ?_;rintro e w' ⟨rfl,rfl⟩)
    go_round
    case rel => exact ⟨(lo + hi') / 2 + 1,hi',by omega,by omega,by omega,by congr 1,rfl⟩
    case measure => simp [intOf];omega
   ·have hmi:i ≤ (lo + hi') / 2:=Nat.le_of_not_lt (fun h => by have:=HLO.out _ hmn h;omega)
    clear hc1 hrd1 hcall hx1 hz
    go_wp2_with (go_at_call 69;refine HC.out.mono ?_;rintro e w' ⟨rfl,rfl⟩)
    go_round
    case rel => exact ⟨lo,(lo + hi') / 2,by omega,by omega,by omega,rfl,by congr 1⟩
    case measure => simp [intOf];omega
  ·obtain rfl:lo = i:=by omega
   obtain ⟨b1,o1,rfl,hb1,hc1⟩:=HL1.out.get hi
   obtain ⟨oi,ci,g1,hrd1,q1,q2⟩:=hc1 _ hi
   have hcall:=c_impl_compareTrees _ _ _ _ w hrd1 H2.out
   rw [HEQ.out] at hcall
   obtain ⟨x1,hx1⟩:∃ x,x = L[lo].length:=⟨_,rfl⟩
   rw [← hx1] at g1 q1 hcall
   have HC:=Lib.hid hcall
   clear hc1 hrd1 hcall hx1
   go_wp2_with (go_at_call 69;refine HC.out.mono ?_;rintro e w' ⟨rfl,rfl⟩)
   go_ret2
   exact ⟨rfl,rfl⟩
end Go.Proofs.Ytfhmonacgmakbaa
namespace Go.Proofs.Ytfhmonacgmakbaa
open Go.RowKit
theorem tmod_mP (n:Int):((n.tmod 10007) + 10007).tmod 10007 = mP n:=by
 have h1:n.tmod 10007 = if 0 ≤ n then n % 10007 else -((-n) % 10007):=by
  split
  ·rename_i h;exact Int.tmod_eq_emod_of_nonneg h
  ·rename_i h
   have:=Int.neg_tmod (-n) 10007
   rw [Int.neg_neg] at this
   rw [this,Int.tmod_eq_emod_of_nonneg (by omega)]
 rw [h1]
 unfold mP
 split
 ·rw [Int.tmod_eq_emod_of_nonneg (by omega)];omega
 ·rw [Int.tmod_eq_emod_of_nonneg (by omega)];omega
theorem tmod_bd (n:Int):-10007 < n.tmod 10007∧n.tmod 10007 < 10007:=by
 have h1:n.tmod 10007 = if 0 ≤ n then n % 10007 else -((-n) % 10007):=by
  split
  ·rename_i h;exact Int.tmod_eq_emod_of_nonneg h
  ·rename_i h
   have:=Int.neg_tmod (-n) 10007
   rw [Int.neg_neg] at this
   rw [this,Int.tmod_eq_emod_of_nonneg (by omega)]
 rw [h1];split <;> omega
theorem z10007:((10007:Int) = 0) = False:=eq_false (by decide)
theorem a_num (n:Int):AFn Try.prog 33 [eI n] (· = [.val (.int (mP n))]):=by
 have hb:=tmod_bd n
 have hw:w64 (n.tmod 10007 + 10007) = n.tmod 10007 + 10007:=w64_eq (by omega)
 rw [← tmod_mP n]
 refine AFn.of_runs (cfg_ok 7) Try.func33 rfl rfl rfl (by simp only [List.length_cons,List.length_nil];decide) ?_
 have hres:Try.f33.results.toList = [.tmp 2]:=rfl
 have hrts:Try.f33.resultTypes.toList = [2]:=rfl
 simp only [argRegs,argAV1,eL,eI,eLL,eB,Nat.zero_add,Nat.reduceAdd]
 intro M
 refine RunK.of ?_
 repeat' (first|with_reducible (first|refine Q1 ?_|refine Q2 ?_|refine Q3 ?_|refine Q4 ?_|refine Q5 ?_|refine Q6 ?_|refine Q7 ?_|refine Q8 ?_|refine Q9 ?_|refine Qa ?_|refine Qb ?_|refine Qc ?_|refine Qd ?_|refine Qe ?_|refine Qf ?_)|((with_reducible refine Qo ?_ ?_);focus rfl)|((with_reducible first|refine QT 3 (l:=?_) ?_ ?_|refine QF 3 (l:=?_) ?_ ?_);rotate_left 1;focus (simp only [Zu,Nat.reduceSub,Nat.reduceBEq];with_reducible rfl))|((with_reducible first|refine QS (cfg_ok 7) Tab.none (s':=?_) ?_ ?_|refine QC (b:=?_) ?_ ?_);rotate_left 1;focus ((with_reducible refine QW ?_);simp only [Zg,seval,if_true,if_false,reduceCtorEq,Nat.reduceEqDiff,hw,z10007];with_reducible rfl)))
 (refine Ends.mk (by simp) (rs:=?_) (ks:=?_) hres hrts ?_ ?_ ?_;rotate_left 2;(focus (simp only [Ze,Zg,seval,if_true,if_false,reduceCtorEq,Nat.reduceEqDiff];with_reducible rfl));(focus simp);focus (first|with_reducible rfl|(simp only [Zv];done)))
theorem a_l01Mod (n:Int):AFn Try.prog 44 [eI n] (· = [.val (.int (mP n))]):=by
 have hb:=tmod_bd n
 have hw:w64 (n.tmod 10007 + 10007) = n.tmod 10007 + 10007:=w64_eq (by omega)
 rw [← tmod_mP n]
 refine AFn.of_runs (cfg_ok 7) Try.func44 rfl rfl rfl (by simp only [List.length_cons,List.length_nil];decide) ?_
 have hres:Try.f44.results.toList = [.tmp 2]:=rfl
 have hrts:Try.f44.resultTypes.toList = [2]:=rfl
 simp only [argRegs,argAV1,eL,eI,eLL,eB,Nat.zero_add,Nat.reduceAdd]
 intro M
 refine RunK.of ?_
 repeat' (first|with_reducible (first|refine Q1 ?_|refine Q2 ?_|refine Q3 ?_|refine Q4 ?_|refine Q5 ?_|refine Q6 ?_|refine Q7 ?_|refine Q8 ?_|refine Q9 ?_|refine Qa ?_|refine Qb ?_|refine Qc ?_|refine Qd ?_|refine Qe ?_|refine Qf ?_)|((with_reducible refine Qo ?_ ?_);focus rfl)|((with_reducible first|refine QT 3 (l:=?_) ?_ ?_|refine QF 3 (l:=?_) ?_ ?_);rotate_left 1;focus (simp only [Zu,Nat.reduceSub,Nat.reduceBEq];with_reducible rfl))|((with_reducible first|refine QS (cfg_ok 7) Tab.none (s':=?_) ?_ ?_|refine QC (b:=?_) ?_ ?_);rotate_left 1;focus ((with_reducible refine QW ?_);simp only [Zg,seval,if_true,if_false,reduceCtorEq,Nat.reduceEqDiff,hw,z10007];with_reducible rfl)))
 (refine Ends.mk (by simp) (rs:=?_) (ks:=?_) hres hrts ?_ ?_ ?_;rotate_left 2;(focus (simp only [Ze,Zg,seval,if_true,if_false,reduceCtorEq,Nat.reduceEqDiff];with_reducible rfl));(focus simp);focus (first|with_reducible rfl|(simp only [Zv];done)))
noncomputable def TMod:Tab Try.prog:=Tab.none.add 44 (tab1 codI fun n => some [.val (.int (mP n))]) (tab1_ok fun n rs h => by cases h;exact a_l01Mod n)
theorem a_l01Mul (a b:Int) (h:-9223372036854775808 ≤ a * b∧a * b ≤ 9223372036854775807):AFn Try.prog 43 [eI a,eI b] (· = [.val (.int (mP (a * b)))]):=by
 have hw:=w64_eq h
 refine AFn.of_runs (cfg_ok 9) Try.func43 rfl rfl rfl (by simp only [List.length_cons,List.length_nil];decide) ?_
 have hres:Try.f43.results.toList = [.tmp 4]:=rfl
 have hrts:Try.f43.resultTypes.toList = [2]:=rfl
 simp only [argRegs,argAV1,eL,eI,eLL,eB,Nat.zero_add,Nat.reduceAdd]
 intro M
 refine RunK.of ?_
 repeat' (first|with_reducible (first|refine Q1 ?_|refine Q2 ?_|refine Q3 ?_|refine Q4 ?_|refine Q5 ?_|refine Q6 ?_|refine Q7 ?_|refine Q8 ?_|refine Q9 ?_|refine Qa ?_|refine Qb ?_|refine Qc ?_|refine Qd ?_|refine Qe ?_|refine Qf ?_)|((with_reducible refine Qo ?_ ?_);focus rfl)|((with_reducible first|refine QT 5 (l:=?_) ?_ ?_|refine QF 5 (l:=?_) ?_ ?_);rotate_left 1;focus (simp only [Zu,Nat.reduceSub,Nat.reduceBEq];with_reducible rfl))|((with_reducible first|refine QS (cfg_ok 9) TMod (s':=?_) ?_ ?_|refine QC (b:=?_) ?_ ?_);rotate_left 1;focus ((with_reducible refine QW ?_);simp only [Zg,seval,if_true,if_false,reduceCtorEq,Nat.reduceEqDiff,TMod,hw];with_reducible rfl)))
 (refine Ends.mk (by simp) (rs:=?_) (ks:=?_) hres hrts ?_ ?_ ?_;rotate_left 2;(focus (simp only [Ze,Zg,seval,if_true,if_false,reduceCtorEq,Nat.reduceEqDiff];with_reducible rfl));(focus simp);focus (first|with_reducible rfl|(simp only [Zv];done)))
end Go.Proofs.Ytfhmonacgmakbaa
