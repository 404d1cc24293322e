/- Lemmas (14). -/
import Derived.ChangeSame
import Derived.Lib.AppendZeros
import Derived.Test.YtedgfkpfhonlpaaZF0
import Derived.Test.YtedgfkpfhonlpaaZF1
import Derived.Test.YtedgfkpfhonlpaaZF4
import Derived.Test.YtedgfkpfhonlpaaZF7
import Derived.Test.YtedgfkpfhonlpaaZF8
import Derived.Test.YtedgfkpfhonlpaaZF10
import Derived.Test.YtedgfkpfhonlpaaZF12
import Derived.Test.YtedgfkpfhonlpaaZF13
set_option linter.unusedSimpArgs false
set_option linter.unusedVariables false
namespace Go.Proofs.Ytedgfkpfhonlpaa
open Go.RowKit
set_option maxRecDepth 100000 in
set_option maxHeartbeats 400000 in
theorem c_slicesGrowL (n:Nat) (w:World) (hn:n ≤ 1000000000):Calls Try.prog 85 #[.slice none 0 0,.int .i64 n] w (RetO (RS (RS RI)) w []):=by
 by_cases h0:n = 0
 ·subst h0
  go_enter Try.func85,Try.ntmps85
  go_wp2_with fail
  go_ret
  exact ⟨_,rfl,Own.nil _ _,Below.refl _ _⟩
 ·obtain ⟨ht,⟨i,hi,hz,hsz,hby⟩,_,_⟩:=tI64S
  have hr:=Lib.run_append_nil_zeros (P:=Try.prog) w 33 3 33 24 i (.slice none 0 0) .i64 .i64 ht Try.underlying3 hi hz n (by omega) (by omega) (by omega) (by rw [hby];omega)
  have hge:=grownCap_ge w n 0 24
  have hcm:grownCap w n 0 24 ≤ maxLen:=grownCap_le_maxLen w n 0 24 (by unfold maxLen;omega)
  obtain ⟨cp,hcp⟩:∃ cp,cp = grownCap w n 0 24:=⟨_,rfl⟩
  rw [← hcp] at hr hge hcm
  obtain ⟨cur,hcur⟩:∃ cur,cur = Builtin.zeroCells (Value.slice none 0 0).cells n ++ Builtin.zeroCells (Value.slice none 0 0).cells (cp - n):=⟨_,rfl⟩
  have hcs:cur.size = cp * 1:=by
   rw [hcur,Array.size_append,size_zeroCells,size_zeroCells]
   show n * 1 + (cp - n) * 1 = cp * 1
   omega
  rw [← hcur] at hr
  have hrow:Row (w.drew.alloc (.cells cur 24)) (.slice (some ⟨w.heap.size,0,none⟩) 0 cp) 1 0 [] (some w.heap.size) :=
   ⟨rfl,.inr ⟨w.heap.size,cp,cur,24,rfl,rfl,Go.heap_alloc_new w.drew _,Nat.zero_le _,hcm,hcs,by simp⟩⟩
  have hown:Own (RS (RS RI)) w.heap.size (w.drew.alloc (.cells cur 24)).heap.size (w.drew.alloc (.cells cur 24)) [.slice (some ⟨w.heap.size,0,none⟩) 0 cp] [] :=
   Own.mk' (og:=some w.heap.size) (F:=[]) (ds:=[]) hrow ⟨rfl,rfl⟩ (by simp) (fun b hb => by simp at hb;subst hb;simp)
  have hbel:Below w.heap.size w (w.drew.alloc (.cells cur 24)):=⟨rfl,rfl,rfl,by simp,fun k hk => Below.heap_alloc w.drew _ k hk⟩
  have HR:=Lib.hid hr
  have HO:=Lib.hid hown
  have hp:(0:Int) < (n:Int):=by omega
  have hp2:¬ ((n:Int) < 0):=by omega
  unfold maxLen at hcm
  clear hr hown hrow hcp hcur hi hz hsz hby ht hcs
  go_enter Try.func85,Try.ntmps85
  go_wp2_with (at_builtin;refine StopAt (o:=⟨some 22,_,_,_,_,_⟩) ?_)
  refine Stop.go ?_
  refine Lib.wpList_append_run w rfl _ _ _ _ rfl _ _ rfl rfl _ _ HR.out ?_
  go_wp2_with fail
  go_ret
  exact ⟨_,rfl,HO.out,hbel⟩
theorem a_slicesGrowL (n:Nat) (hn:n ≤ 1000000000):AFn Try.prog 85 [[.raw (.slice none 0 0)],eI n] (· = [.own 1 [] true]) :=
 AFn.of_o (xs:=[]) (encS encI) (enters_of Try.func85 rfl rfl) (fun w A vs ⟨v1,_,e1,h1,v2,_,e2,h2,e3⟩ => by
  subst e3;subst e2;subst e1
  rw [arg_int h2,(rdV_raw.1 h1).1]
  exact c_slicesGrowL n w hn)
def eLLL' (x:List (List Int)):List D:=[.sl 1 (x.map eL)]
def cntL (bs:List (List (List Int))):Nat:=(bs.map List.length).sum
theorem cntL_take_succ (bs:List (List (List Int))) (k:Nat) (h:k < bs.length):cntL (bs.take (k + 1)) = cntL (bs.take k) + bs[k].length:=by
 unfold cntL
 rw [List.take_succ_eq_append_getElem h,List.map_append,List.sum_append];simp
theorem cntL_flat (bs:List (List (List Int))):bs.flatten.length = cntL bs:=by simp [cntL,List.length_flatten]
theorem cntL_take (bs:List (List (List Int))) (k:Nat):cntL (bs.take k) ≤ cntL bs:=by
 rw [← cntL_flat,← cntL_flat]
 conv => rhs;rw [← List.take_append_drop k bs]
 rw [List.flatten_append,List.length_append]
 omega
set_option maxHeartbeats 4000000 in
theorem a_slicesConcatL (bs:List (List (List Int))) (hsz:cntL bs ≤ 1000000) (hl:bs.length ≤ 1000000):AFn Try.prog 62 [[.sl 1 (bs.map eLLL')]] (· = [.own 1 (bs.flatten.map eL) false]):=by
 refine AFn.of_runs (cfg_ok 36) Try.func62 rfl rfl rfl (by simp only [List.length_cons,List.length_nil];decide) ?_
 have hres:Try.f62.results.toList = [.tmp 2]:=rfl
 have hrts:Try.f62.resultTypes.toList = [33]:=rfl
 simp only [argRegs,argAV1,eL,eI,eLL,eB,Nat.zero_add,Nat.reduceAdd]
 intro M
 refine RunK.of ?_
 repeat' (first|with_reducible (first|refine Q1 ?_|refine Q2 ?_|refine Q3 ?_|refine Q4 ?_|refine Q5 ?_|refine Q6 ?_|refine Q7 ?_|refine Q8 ?_|refine Q9 ?_|refine Qa ?_|refine Qb ?_|refine Qc ?_|refine Qd ?_|refine Qe ?_|refine Qf ?_)|((with_reducible refine Qo ?_ ?_);focus rfl)|((with_reducible first|refine QT 28 (l:=?_) ?_ ?_|refine QF 28 (l:=?_) ?_ ?_);rotate_left 1;focus (simp only [Zu,Nat.reduceSub,Nat.reduceBEq];with_reducible rfl))|((with_reducible first|refine QS (cfg_ok 36) Tab.none (s':=?_) ?_ ?_|refine QC (b:=?_) ?_ ?_);rotate_left 1;focus ((with_reducible refine QW ?_);simp only [Zg,seval,if_true,if_false,reduceCtorEq,Nat.reduceEqDiff,List.length_map];with_reducible rfl)))
 refine RunK.loop (β:=Nat) (γ:=Unit) (fun i => ⟨[(0,.c (.val (.sl 1 (bs.map eLLL')))),(3,.c (.val (.int (cntL (bs.take i):Nat)))),(9,.c (.val (.sl 1 (bs.map eLLL')))),(10,.c (.val (.int bs.length))),(11,.c (.val (.int i)))],[]⟩) (fun i => i ≤ bs.length) (fun i => bs.length - i)
  (fun _ => ⟨[(0,.c (.val (.sl 1 (bs.map eLLL')))),(3,.c (.val (.int (cntL bs:Nat))))],[]⟩) (fun _ => True) 0 (Nat.zero_le _) ?_ ?_ ?_
 ·(repeat' (first|with_reducible refine Qn|((with_reducible refine Qr ?_ ?_);focus (first|with_reducible rfl|(simp only [Zz,Nat.reduceBEq,List.take_zero,show cntL [] = 0 from rfl,List.length_map];done)|rfl))|((with_reducible refine Qj (o':=?_) ?_ ?_ ?_);rotate_left 1;focus rfl)|((with_reducible refine Qw ?_ ?_);(focus (first|with_reducible rfl|(simp only [Zv,List.take_zero,show cntL [] = 0 from rfl,List.length_map];done)));focus (first|exact id|exact (fun h => nomatch h)|exact (fun _ => rfl)))))
 ·intro i hi
  have hi:i ≤ bs.length:=hi
  have hw:=w64_succ (n:=i) (by omega)
  by_cases h:i < bs.length
  ·have i1:((i:Int) < (bs.length:Int)) = True:=eq_true (by omega)
   have i2:((0:Int) ≤ (i:Int)) = True:=eq_true (by omega)
   obtain ⟨f,hf⟩:∃ f,f = bs[i]:=⟨_,rfl⟩
   have hg:(bs.map eLLL')[i]? = some [.sl 1 (f.map eL)]:=by rw [map_get h,hf];rfl
   have hst:=cntL_take_succ bs i h
   have hle:=cntL_take bs (i + 1)
   rw [← hf] at hst
   have hws:w64 ((cntL (bs.take i):Int) + (f.length:Int)) = ((cntL (bs.take (i + 1)):Nat):Int):=by rw [w64_eq (by omega)];omega
   have j1:(((cntL (bs.take (i + 1)):Nat):Int) < 0) = False:=eq_false (by omega)
   repeat' (first|with_reducible (first|refine Q1 ?_|refine Q2 ?_|refine Q3 ?_|refine Q4 ?_|refine Q5 ?_|refine Q6 ?_|refine Q7 ?_|refine Q8 ?_|refine Q9 ?_|refine Qa ?_|refine Qb ?_|refine Qc ?_|refine Qd ?_|refine Qe ?_|refine Qf ?_)|((with_reducible refine Qo ?_ ?_);focus rfl)|((with_reducible first|refine QT 28 (l:=?_) ?_ ?_|refine QF 28 (l:=?_) ?_ ?_);rotate_left 1;focus (simp only [Zu,Nat.reduceSub,Nat.reduceBEq];with_reducible rfl))|((with_reducible first|refine QS (cfg_ok 36) Tab.none (s':=?_) ?_ ?_|refine QC (b:=?_) ?_ ?_);rotate_left 1;focus ((with_reducible refine QW ?_);simp only [Zg,seval,if_true,if_false,reduceCtorEq,Nat.reduceEqDiff,i1,i2,hg,hw,hws,j1,Int.toNat_natCast,List.length_map];with_reducible rfl)))
   refine roundK.on (i + 1) ⟨h,by omega⟩ ?_
   (repeat' (first|with_reducible refine Qn|((with_reducible refine Qr ?_ ?_);focus (first|with_reducible rfl|(simp only [Zz,Nat.reduceBEq];done)|rfl))|((with_reducible refine Qj (o':=?_) ?_ ?_ ?_);rotate_left 1;focus rfl)|((with_reducible refine Qw ?_ ?_);(focus (first|with_reducible rfl|(simp only [Zv];done)));focus (first|exact id|exact (fun h => nomatch h)|exact (fun _ => rfl)))))
  ·have i1:((i:Int) < (bs.length:Int)) = False:=eq_false (by omega)
   obtain rfl:i = bs.length:=by omega
   rw [List.take_length]
   repeat' (first|with_reducible (first|refine Q1 ?_|refine Q2 ?_|refine Q3 ?_|refine Q4 ?_|refine Q5 ?_|refine Q6 ?_|refine Q7 ?_|refine Q8 ?_|refine Q9 ?_|refine Qa ?_|refine Qb ?_|refine Qc ?_|refine Qd ?_|refine Qe ?_|refine Qf ?_)|((with_reducible refine Qo ?_ ?_);focus rfl)|((with_reducible first|refine QT 28 (l:=?_) ?_ ?_|refine QF 28 (l:=?_) ?_ ?_);rotate_left 1;focus (simp only [Zu,Nat.reduceSub,Nat.reduceBEq];with_reducible rfl))|((with_reducible first|refine QS (cfg_ok 36) Tab.none (s':=?_) ?_ ?_|refine QC (b:=?_) ?_ ?_);rotate_left 1;focus ((with_reducible refine QW ?_);simp only [Zg,seval,if_true,if_false,reduceCtorEq,Nat.reduceEqDiff,i1];with_reducible rfl)))
   refine roundK.out () trivial ?_
   (repeat' (first|with_reducible refine Qn|((with_reducible refine Qr ?_ ?_);focus (first|with_reducible rfl|(simp only [Zz,Nat.reduceBEq];done)|rfl))|((with_reducible refine Qj (o':=?_) ?_ ?_ ?_);rotate_left 1;focus rfl)|((with_reducible refine Qw ?_ ?_);(focus (first|with_reducible rfl|(simp only [Zv];done)));focus (first|exact id|exact (fun h => nomatch h)|exact (fun _ => rfl)))))
 ·rintro _ _
  have hgr:=a_slicesGrowL (cntL bs) (by omega)
  repeat' (first|with_reducible (first|refine Q1 ?_|refine Q2 ?_|refine Q3 ?_|refine Q4 ?_|refine Q5 ?_|refine Q6 ?_|refine Q7 ?_|refine Q8 ?_|refine Q9 ?_|refine Qa ?_|refine Qb ?_|refine Qc ?_|refine Qd ?_|refine Qe ?_|refine Qf ?_)|((with_reducible refine Qo ?_ ?_);focus rfl)|((with_reducible first|refine QT 28 (l:=?_) ?_ ?_|refine QF 28 (l:=?_) ?_ ?_);rotate_left 1;focus (simp only [Zu,Nat.reduceSub,Nat.reduceBEq];with_reducible rfl))|((with_reducible first|refine QS (cfg_ok 36) Tab.none (s':=?_) ?_ ?_|refine QC (b:=?_) ?_ ?_);rotate_left 1;focus ((with_reducible refine QW ?_);simp only [Zg,seval,if_true,if_false,reduceCtorEq,Nat.reduceEqDiff,List.length_map];with_reducible rfl)))
  refine RunK.regCut (cfg_ok 36) Tab.none 1 (s1:=?_) ?_ ?_
  rotate_left 1
  focus (refine Work.mk ?_;simp only [Zg,seval,if_true,if_false,reduceCtorEq,Nat.reduceEqDiff];with_reducible rfl)
  simp only [List.toList_toArray,List.drop_succ_cons,List.drop_zero]
  refine ROps.callNilP (cfg_ok 36) (d:=24) (g:=85) (xs:=[]) (tx:=[]) (pre:=[]) (ys:=[.tmp 23]) (ty:=[3]) (post:=[eI (cntL bs:Nat)]) rfl (by decide) rfl rfl rfl rfl rfl rfl rfl rfl hgr rfl ?_
  refine ROps.opsT (cfg_ok 36) (T:=Tab.none) (s':=?_) ?_ ?_
  rotate_left 1
  focus (simp only [Zg,seval,if_true,if_false,reduceCtorEq,Nat.reduceEqDiff];with_reducible rfl)
  repeat' (first|with_reducible (first|refine Q1 ?_|refine Q2 ?_|refine Q3 ?_|refine Q4 ?_|refine Q5 ?_|refine Q6 ?_|refine Q7 ?_|refine Q8 ?_|refine Q9 ?_|refine Qa ?_|refine Qb ?_|refine Qc ?_|refine Qd ?_|refine Qe ?_|refine Qf ?_)|((with_reducible refine Qo ?_ ?_);focus rfl)|((with_reducible first|refine QT 28 (l:=?_) ?_ ?_|refine QF 28 (l:=?_) ?_ ?_);rotate_left 1;focus (simp only [Zu,Nat.reduceSub,Nat.reduceBEq];with_reducible rfl))|((with_reducible first|refine QS (cfg_ok 36) Tab.none (s':=?_) ?_ ?_|refine QC (b:=?_) ?_ ?_);rotate_left 1;focus ((with_reducible refine QW ?_);simp only [Zg,seval,if_true,if_false,reduceCtorEq,Nat.reduceEqDiff,List.length_map];with_reducible rfl)))
  refine RunK.loop (β:=Nat) (γ:=Unit) (fun i => ⟨[(6,.c (.own 6 (bs.take i).flatten.length)),(25,.c (.val (.sl 1 (bs.map eLLL')))),(26,.c (.val (.int bs.length))),(27,.c (.val (.int i)))],[(6,.row 1 ((bs.take i).flatten.map eL) false)]⟩) (fun i => i ≤ bs.length) (fun i => bs.length - i)
   (fun _ => ⟨[(6,.c (.own 6 bs.flatten.length))],[(6,.row 1 (bs.flatten.map eL) false)]⟩) (fun _ => True) 0 (Nat.zero_le _) ?_ ?_ ?_
  ·(repeat' (first|with_reducible refine Qn|((with_reducible refine Qr ?_ ?_);focus (first|with_reducible rfl|(simp only [Zz,Nat.reduceBEq,List.take_zero,List.flatten_nil,List.map_nil,List.length_map];done)|rfl))|((with_reducible refine Qj (o':=?_) ?_ ?_ ?_);rotate_left 1;focus rfl)|((with_reducible refine Qw ?_ ?_);(focus (first|with_reducible rfl|(simp only [Zv,List.take_zero,List.flatten_nil,List.map_nil,List.length_map];done)));focus (first|exact id|exact (fun h => nomatch h)|exact (fun _ => rfl)))))
  ·intro i hi
   have hi:i ≤ bs.length:=hi
   have hw:=w64_succ (n:=i) (by omega)
   by_cases h:i < bs.length
   ·have i1:((i:Int) < (bs.length:Int)) = True:=eq_true (by omega)
    have i2:((0:Int) ≤ (i:Int)) = True:=eq_true (by omega)
    obtain ⟨f,hf⟩:∃ f,f = bs[i]:=⟨_,rfl⟩
    have hg:(bs.map eLLL')[i]? = some [.sl 1 (f.map eL)]:=by rw [map_get h,hf];rfl
    have hst:=cntL_take_succ bs i h
    have hle:=cntL_take bs (i + 1)
    rw [← hf] at hst
    have hfl:(bs.take (i + 1)).flatten = (bs.take i).flatten ++ f:=by rw [List.take_succ_eq_append_getElem h,List.flatten_append,hf];simp
    have hcl:=cntL_flat (bs.take i)
    have q1:=big_le (n:=(bs.take i).flatten.length + f.length) (by omega)
    have q2:=big_mul (n:=(bs.take i).flatten.length + f.length) (c:=24) (by omega) (by omega)
    repeat' (first|with_reducible (first|refine Q1 ?_|refine Q2 ?_|refine Q3 ?_|refine Q4 ?_|refine Q5 ?_|refine Q6 ?_|refine Q7 ?_|refine Q8 ?_|refine Q9 ?_|refine Qa ?_|refine Qb ?_|refine Qc ?_|refine Qd ?_|refine Qe ?_|refine Qf ?_)|((with_reducible refine Qo ?_ ?_);focus rfl)|((with_reducible first|refine QT 28 (l:=?_) ?_ ?_|refine QF 28 (l:=?_) ?_ ?_);rotate_left 1;focus (simp only [Zu,Nat.reduceSub,Nat.reduceBEq];with_reducible rfl))|((with_reducible first|refine QS (cfg_ok 36) Tab.none (s':=?_) ?_ ?_|refine QC (b:=?_) ?_ ?_);rotate_left 1;focus ((with_reducible refine QW ?_);simp only [Zg,seval,if_true,if_false,reduceCtorEq,Nat.reduceEqDiff,i1,i2,hg,hw,q1,q2,Int.toNat_natCast,List.length_map];with_reducible rfl)))
    refine roundK.on (i + 1) ⟨h,by omega⟩ ?_
    rw [hfl]
    (repeat' (first|with_reducible refine Qn|((with_reducible refine Qr ?_ ?_);focus (first|with_reducible rfl|(simp only [Zz,Nat.reduceBEq];done)|rfl))|((with_reducible refine Qj (o':=?_) ?_ ?_ ?_);rotate_left 1;focus rfl)|((with_reducible refine Qw ?_ ?_);(focus (first|with_reducible rfl|(simp only [Zv];done)));focus (first|exact id|exact (fun h => nomatch h)|exact (fun _ => rfl)))))
   ·have i1:((i:Int) < (bs.length:Int)) = False:=eq_false (by omega)
    obtain rfl:i = bs.length:=by omega
    rw [List.take_length]
    repeat' (first|with_reducible (first|refine Q1 ?_|refine Q2 ?_|refine Q3 ?_|refine Q4 ?_|refine Q5 ?_|refine Q6 ?_|refine Q7 ?_|refine Q8 ?_|refine Q9 ?_|refine Qa ?_|refine Qb ?_|refine Qc ?_|refine Qd ?_|refine Qe ?_|refine Qf ?_)|((with_reducible refine Qo ?_ ?_);focus rfl)|((with_reducible first|refine QT 28 (l:=?_) ?_ ?_|refine QF 28 (l:=?_) ?_ ?_);rotate_left 1;focus (simp only [Zu,Nat.reduceSub,Nat.reduceBEq];with_reducible rfl))|((with_reducible first|refine QS (cfg_ok 36) Tab.none (s':=?_) ?_ ?_|refine QC (b:=?_) ?_ ?_);rotate_left 1;focus ((with_reducible refine QW ?_);simp only [Zg,seval,if_true,if_false,reduceCtorEq,Nat.reduceEqDiff,i1];with_reducible rfl)))
    refine roundK.out () trivial ?_
    (repeat' (first|with_reducible refine Qn|((with_reducible refine Qr ?_ ?_);focus (first|with_reducible rfl|(simp only [Zz,Nat.reduceBEq];done)|rfl))|((with_reducible refine Qj (o':=?_) ?_ ?_ ?_);rotate_left 1;focus rfl)|((with_reducible refine Qw ?_ ?_);(focus (first|with_reducible rfl|(simp only [Zv];done)));focus (first|exact id|exact (fun h => nomatch h)|exact (fun _ => rfl)))))
  ·rintro _ _
   repeat' (first|with_reducible (first|refine Q1 ?_|refine Q2 ?_|refine Q3 ?_|refine Q4 ?_|refine Q5 ?_|refine Q6 ?_|refine Q7 ?_|refine Q8 ?_|refine Q9 ?_|refine Qa ?_|refine Qb ?_|refine Qc ?_|refine Qd ?_|refine Qe ?_|refine Qf ?_)|((with_reducible refine Qo ?_ ?_);focus rfl)|((with_reducible first|refine QT 28 (l:=?_) ?_ ?_|refine QF 28 (l:=?_) ?_ ?_);rotate_left 1;focus (simp only [Zu,Nat.reduceSub,Nat.reduceBEq];with_reducible rfl))|((with_reducible first|refine QS (cfg_ok 36) Tab.none (s':=?_) ?_ ?_|refine QC (b:=?_) ?_ ?_);rotate_left 1;focus ((with_reducible refine QW ?_);simp only [Zg,seval,if_true,if_false,reduceCtorEq,Nat.reduceEqDiff];with_reducible rfl)))
   (refine Ends.mk (by simp) (rs:=?_) (ks:=?_) hres hrts ?_ ?_ ?_;rotate_left 2;(focus (simp only [Ze,Zg,seval,if_true,if_false,reduceCtorEq,Nat.reduceEqDiff];with_reducible rfl));(focus simp);focus (first|with_reducible rfl|(simp only [Zv];done)))
end Go.Proofs.Ytedgfkpfhonlpaa
namespace Go.Proofs.Ytedgfkpfhonlpaa
open Go.RowKit
def tmfOf (f g:List (List Int)):List (List Int) × Int :=
 if (forB f && forB g) = true then (if sumLen f + sumLen g ≤ 8 then (mulF f g,0) else ([],3)) else ([],1)
noncomputable def TTm:Tab Try.prog :=
 (Tab.none.add 15 (tab1 codLL fun f => if sumLen f ≤ 1048576∧f.length ≤ 1048576 then some [.val (.bool (forB f))] else none) (tab1_ok fun f rs h => by split at h;cases h;rename_i hs;exact a_impl_IsForest f (by omega) (by omega);cases h)).add
  50 (tab1 codLL fun f => some [.val (.int (nodesB f))]) (tab1_ok fun f rs h => by cases h;exact a_nodesIn f)
set_option maxHeartbeats 2000000 in
theorem a_impl_TimesForests (f g:List (List Int)) (hf:sumLen f ≤ 1048576) (hf2:f.length ≤ 1048576) (hg:sumLen g ≤ 1048576) (hg2:g.length ≤ 1048576) :
  AFn Try.prog 27 [eLL f,eLL g] (· = [.own 1 ((tmfOf f g).1.map eL) true,.val (.int (tmfOf f g).2)]):=by
 have n1:=nodesB_eq f (by omega)
 have n2:=nodesB_eq g (by omega)
 have s1:=eq_true (And.intro hf hf2)
 have s2:=eq_true (And.intro hg hg2)
 unfold tmfOf
 refine AFn.of_runs (cfg_ok 27) Try.func27 rfl rfl rfl (by simp only [List.length_cons,List.length_nil];decide) ?_
 have hres:Try.f27.results.toList = [.tmp 4,.tmp 5]:=rfl
 have hrts:Try.f27.resultTypes.toList = [33,2]:=rfl
 simp only [argRegs,argAV1,eL,eI,eLL,eB,Nat.zero_add,Nat.reduceAdd]
 intro M
 refine RunK.of ?_
 by_cases hF:forB f = true
 rotate_left
 ·have hF:forB f = false:=by simpa using hF
  have e0:¬ (forB f && forB g) = true:=by rw [hF,Bool.false_and];decide
  rw [if_neg e0]
  repeat' (first|with_reducible (first|refine Q1 ?_|refine Q2 ?_|refine Q3 ?_|refine Q4 ?_|refine Q5 ?_|refine Q6 ?_|refine Q7 ?_|refine Q8 ?_|refine Q9 ?_|refine Qa ?_|refine Qb ?_|refine Qc ?_|refine Qd ?_|refine Qe ?_|refine Qf ?_)|((with_reducible refine Qo ?_ ?_);focus rfl)|((with_reducible first|refine QT 6 (l:=?_) ?_ ?_|refine QF 6 (l:=?_) ?_ ?_);rotate_left 1;focus (simp only [Zu,Nat.reduceSub,Nat.reduceBEq];with_reducible rfl))|((with_reducible first|refine QS (cfg_ok 27) TTm (s':=?_) ?_ ?_|refine QC (b:=?_) ?_ ?_);rotate_left 1;focus ((with_reducible refine QW ?_);simp only [Zg,seval,if_true,if_false,reduceCtorEq,Nat.reduceEqDiff,TTm,TTm,eL,s1,hF];with_reducible rfl)))
  (refine Ends.mk (by simp) (rs:=?_) (ks:=?_) hres hrts ?_ ?_ ?_;rotate_left 2;(focus (simp only [Ze,Zg,seval,if_true,if_false,reduceCtorEq,Nat.reduceEqDiff];with_reducible rfl));(focus simp);focus (first|with_reducible rfl|(simp only [Zv];done)))
 by_cases hG:forB g = true
 rotate_left
 ·have hG:forB g = false:=by simpa using hG
  have e0:¬ (forB f && forB g) = true:=by rw [hG,Bool.and_false];decide
  rw [if_neg e0]
  repeat' (first|with_reducible (first|refine Q1 ?_|refine Q2 ?_|refine Q3 ?_|refine Q4 ?_|refine Q5 ?_|refine Q6 ?_|refine Q7 ?_|refine Q8 ?_|refine Q9 ?_|refine Qa ?_|refine Qb ?_|refine Qc ?_|refine Qd ?_|refine Qe ?_|refine Qf ?_)|((with_reducible refine Qo ?_ ?_);focus rfl)|((with_reducible first|refine QT 6 (l:=?_) ?_ ?_|refine QF 6 (l:=?_) ?_ ?_);rotate_left 1;focus (simp only [Zu,Nat.reduceSub,Nat.reduceBEq];with_reducible rfl))|((with_reducible first|refine QS (cfg_ok 27) TTm (s':=?_) ?_ ?_|refine QC (b:=?_) ?_ ?_);rotate_left 1;focus ((with_reducible refine QW ?_);simp only [Zg,seval,if_true,if_false,reduceCtorEq,Nat.reduceEqDiff,TTm,TTm,eL,s1,s2,hF,hG];with_reducible rfl)))
  (refine Ends.mk (by simp) (rs:=?_) (ks:=?_) hres hrts ?_ ?_ ?_;rotate_left 2;(focus (simp only [Ze,Zg,seval,if_true,if_false,reduceCtorEq,Nat.reduceEqDiff];with_reducible rfl));(focus simp);focus (first|with_reducible rfl|(simp only [Zv];done)))
 rw [if_pos (by rw [hF,hG];rfl)]
 have hw:=w64_eq (n:=(sumLen f:Int) + (sumLen g:Int)) (by omega)
 by_cases h8:sumLen f + sumLen g ≤ 8
 rotate_left
 ·have i1:((sumLen f:Int) + (sumLen g:Int) > 8) = True:=eq_true (by omega)
  rw [if_neg h8]
  repeat' (first|with_reducible (first|refine Q1 ?_|refine Q2 ?_|refine Q3 ?_|refine Q4 ?_|refine Q5 ?_|refine Q6 ?_|refine Q7 ?_|refine Q8 ?_|refine Q9 ?_|refine Qa ?_|refine Qb ?_|refine Qc ?_|refine Qd ?_|refine Qe ?_|refine Qf ?_)|((with_reducible refine Qo ?_ ?_);focus rfl)|((with_reducible first|refine QT 6 (l:=?_) ?_ ?_|refine QF 6 (l:=?_) ?_ ?_);rotate_left 1;focus (simp only [Zu,Nat.reduceSub,Nat.reduceBEq];with_reducible rfl))|((with_reducible first|refine QS (cfg_ok 27) TTm (s':=?_) ?_ ?_|refine QC (b:=?_) ?_ ?_);rotate_left 1;focus ((with_reducible refine QW ?_);simp only [Zg,seval,if_true,if_false,reduceCtorEq,Nat.reduceEqDiff,TTm,TTm,eL,s1,s2,hF,hG,n1,n2,hw,i1];with_reducible rfl)))
  (refine Ends.mk (by simp) (rs:=?_) (ks:=?_) hres hrts ?_ ?_ ?_;rotate_left 2;(focus (simp only [Ze,Zg,seval,if_true,if_false,reduceCtorEq,Nat.reduceEqDiff];with_reducible rfl));(focus simp);focus (first|with_reducible rfl|(simp only [Zv];done)))
 have i1:((sumLen f:Int) + (sumLen g:Int) > 8) = False:=eq_false (by omega)
 rw [if_pos h8]
 have l1:=forB_short hF
 have l2:=forB_short hG
 have hc:=a_slicesConcatL [f,g] (by simp [cntL];omega) (by simp)
 have ho:=a_forestOf (f ++ g) (by rw [List.length_append];omega) (by rw [sumLen_append];omega)
 simp only [eLLL',eLL,eL,List.map_cons,List.map_nil,List.flatten_cons,List.flatten_nil,List.append_nil] at hc ho
 have e:mulF f g = forest (f ++ g):=rfl
 rw [e]
 repeat' (first|with_reducible (first|refine Q1 ?_|refine Q2 ?_|refine Q3 ?_|refine Q4 ?_|refine Q5 ?_|refine Q6 ?_|refine Q7 ?_|refine Q8 ?_|refine Q9 ?_|refine Qa ?_|refine Qb ?_|refine Qc ?_|refine Qd ?_|refine Qe ?_|refine Qf ?_)|((with_reducible refine Qo ?_ ?_);focus rfl)|((with_reducible first|refine QT 6 (l:=?_) ?_ ?_|refine QF 6 (l:=?_) ?_ ?_);rotate_left 1;focus (simp only [Zu,Nat.reduceSub,Nat.reduceBEq];with_reducible rfl))|((with_reducible first|refine QS (cfg_ok 27) (((TTm.at' 62 hc).at' 48 ho)) (s':=?_) ?_ ?_|refine QC (b:=?_) ?_ ?_);rotate_left 1;focus ((with_reducible refine QW ?_);simp only [Zg,seval,if_true,if_false,reduceCtorEq,Nat.reduceEqDiff,TTm,eL,s1,s2,hF,hG,n1,n2,hw,i1];with_reducible rfl)))
 (refine Ends.mk (by simp) (rs:=?_) (ks:=?_) hres hrts ?_ ?_ ?_;rotate_left 2;(focus (simp only [Ze,Zg,seval,if_true,if_false,reduceCtorEq,Nat.reduceEqDiff,eL];with_reducible rfl));(focus simp);focus (first|with_reducible rfl|(simp only [Zv,eL];done)))
noncomputable def TTmS:Tab Try.prog :=
 (Tab.none.add 63 (tab1 codLL fun f => if sumLen f ≤ 1048576∧f.length ≤ 1048576 then some [.val (.bool (forB f))] else none) (tab1_ok fun f rs h => by split at h;cases h;rename_i hs;exact a_l03Forest f (by omega) (by omega);cases h)).add
  64 (tab1 codLL fun f => some [.val (.int (nodesB f))]) (tab1_ok fun f rs h => by cases h;exact a_l03Nodes f)
theorem a_spec_TimesForests (f g:List (List Int)) (hf:sumLen f ≤ 1048576) (hf2:f.length ≤ 1048576) (hg:sumLen g ≤ 1048576) (hg2:g.length ≤ 1048576) :
  AFn Try.prog 28 [eLL f,eLL g] (· = [.own 1 ((tmfOf f g).1.map eL) true,.val (.int (tmfOf f g).2)]):=by
 have n1:=nodesB_eq f (by omega)
 have n2:=nodesB_eq g (by omega)
 have s1:=eq_true (And.intro hf hf2)
 have s2:=eq_true (And.intro hg hg2)
 unfold tmfOf
 refine AFn.of_runs (cfg_ok 25) Try.func28 rfl rfl rfl (by simp only [List.length_cons,List.length_nil];decide) ?_
 have hres:Try.f28.results.toList = [.tmp 4,.tmp 5]:=rfl
 have hrts:Try.f28.resultTypes.toList = [33,2]:=rfl
 simp only [argRegs,argAV1,eL,eI,eLL,eB,Nat.zero_add,Nat.reduceAdd]
 intro M
 refine RunK.of ?_
 by_cases hF:forB f = true
 rotate_left
 ·have hF:forB f = false:=by simpa using hF
  have e0:¬ (forB f && forB g) = true:=by rw [hF,Bool.false_and];decide
  rw [if_neg e0]
  repeat' (first|with_reducible (first|refine Q1 ?_|refine Q2 ?_|refine Q3 ?_|refine Q4 ?_|refine Q5 ?_|refine Q6 ?_|refine Q7 ?_|refine Q8 ?_|refine Q9 ?_|refine Qa ?_|refine Qb ?_|refine Qc ?_|refine Qd ?_|refine Qe ?_|refine Qf ?_)|((with_reducible refine Qo ?_ ?_);focus rfl)|((with_reducible first|refine QT 6 (l:=?_) ?_ ?_|refine QF 6 (l:=?_) ?_ ?_);rotate_left 1;focus (simp only [Zu,Nat.reduceSub,Nat.reduceBEq];with_reducible rfl))|((with_reducible first|refine QS (cfg_ok 25) TTmS (s':=?_) ?_ ?_|refine QC (b:=?_) ?_ ?_);rotate_left 1;focus ((with_reducible refine QW ?_);simp only [Zg,seval,if_true,if_false,reduceCtorEq,Nat.reduceEqDiff,TTmS,TTmS,eL,s1,hF];with_reducible rfl)))
  (refine Ends.mk (by simp) (rs:=?_) (ks:=?_) hres hrts ?_ ?_ ?_;rotate_left 2;(focus (simp only [Ze,Zg,seval,if_true,if_false,reduceCtorEq,Nat.reduceEqDiff];with_reducible rfl));(focus simp);focus (first|with_reducible rfl|(simp only [Zv];done)))
 by_cases hG:forB g = true
 rotate_left
 ·have hG:forB g = false:=by simpa using hG
  have e0:¬ (forB f && forB g) = true:=by rw [hG,Bool.and_false];decide
  rw [if_neg e0]
  repeat' (first|with_reducible (first|refine Q1 ?_|refine Q2 ?_|refine Q3 ?_|refine Q4 ?_|refine Q5 ?_|refine Q6 ?_|refine Q7 ?_|refine Q8 ?_|refine Q9 ?_|refine Qa ?_|refine Qb ?_|refine Qc ?_|refine Qd ?_|refine Qe ?_|refine Qf ?_)|((with_reducible refine Qo ?_ ?_);focus rfl)|((with_reducible first|refine QT 6 (l:=?_) ?_ ?_|refine QF 6 (l:=?_) ?_ ?_);rotate_left 1;focus (simp only [Zu,Nat.reduceSub,Nat.reduceBEq];with_reducible rfl))|((with_reducible first|refine QS (cfg_ok 25) TTmS (s':=?_) ?_ ?_|refine QC (b:=?_) ?_ ?_);rotate_left 1;focus ((with_reducible refine QW ?_);simp only [Zg,seval,if_true,if_false,reduceCtorEq,Nat.reduceEqDiff,TTmS,TTmS,eL,s1,s2,hF,hG];with_reducible rfl)))
  (refine Ends.mk (by simp) (rs:=?_) (ks:=?_) hres hrts ?_ ?_ ?_;rotate_left 2;(focus (simp only [Ze,Zg,seval,if_true,if_false,reduceCtorEq,Nat.reduceEqDiff];with_reducible rfl));(focus simp);focus (first|with_reducible rfl|(simp only [Zv];done)))
 rw [if_pos (by rw [hF,hG];rfl)]
 have hw:=w64_eq (n:=(sumLen f:Int) + (sumLen g:Int)) (by omega)
 by_cases h8:sumLen f + sumLen g ≤ 8
 rotate_left
 ·have i1:((sumLen f:Int) + (sumLen g:Int) > 8) = True:=eq_true (by omega)
  rw [if_neg h8]
  repeat' (first|with_reducible (first|refine Q1 ?_|refine Q2 ?_|refine Q3 ?_|refine Q4 ?_|refine Q5 ?_|refine Q6 ?_|refine Q7 ?_|refine Q8 ?_|refine Q9 ?_|refine Qa ?_|refine Qb ?_|refine Qc ?_|refine Qd ?_|refine Qe ?_|refine Qf ?_)|((with_reducible refine Qo ?_ ?_);focus rfl)|((with_reducible first|refine QT 6 (l:=?_) ?_ ?_|refine QF 6 (l:=?_) ?_ ?_);rotate_left 1;focus (simp only [Zu,Nat.reduceSub,Nat.reduceBEq];with_reducible rfl))|((with_reducible first|refine QS (cfg_ok 25) TTmS (s':=?_) ?_ ?_|refine QC (b:=?_) ?_ ?_);rotate_left 1;focus ((with_reducible refine QW ?_);simp only [Zg,seval,if_true,if_false,reduceCtorEq,Nat.reduceEqDiff,TTmS,TTmS,eL,s1,s2,hF,hG,n1,n2,hw,i1];with_reducible rfl)))
  (refine Ends.mk (by simp) (rs:=?_) (ks:=?_) hres hrts ?_ ?_ ?_;rotate_left 2;(focus (simp only [Ze,Zg,seval,if_true,if_false,reduceCtorEq,Nat.reduceEqDiff];with_reducible rfl));(focus simp);focus (first|with_reducible rfl|(simp only [Zv];done)))
 have i1:((sumLen f:Int) + (sumLen g:Int) > 8) = False:=eq_false (by omega)
 rw [if_pos h8]
 have l1:=forB_short hF
 have l2:=forB_short hG
 have ho:=a_l03Times f g (by omega) (fun b hb => by have:=sumLen_mem hb;omega) (by omega) (fun b hb => by have:=sumLen_mem hb;omega)
 simp only [eLL,eL] at ho
 repeat' (first|with_reducible (first|refine Q1 ?_|refine Q2 ?_|refine Q3 ?_|refine Q4 ?_|refine Q5 ?_|refine Q6 ?_|refine Q7 ?_|refine Q8 ?_|refine Q9 ?_|refine Qa ?_|refine Qb ?_|refine Qc ?_|refine Qd ?_|refine Qe ?_|refine Qf ?_)|((with_reducible refine Qo ?_ ?_);focus rfl)|((with_reducible first|refine QT 6 (l:=?_) ?_ ?_|refine QF 6 (l:=?_) ?_ ?_);rotate_left 1;focus (simp only [Zu,Nat.reduceSub,Nat.reduceBEq];with_reducible rfl))|((with_reducible first|refine QS (cfg_ok 25) ((TTmS.at' 65 ho)) (s':=?_) ?_ ?_|refine QC (b:=?_) ?_ ?_);rotate_left 1;focus ((with_reducible refine QW ?_);simp only [Zg,seval,if_true,if_false,reduceCtorEq,Nat.reduceEqDiff,TTmS,eL,s1,s2,hF,hG,n1,n2,hw,i1];with_reducible rfl)))
 (refine Ends.mk (by simp) (rs:=?_) (ks:=?_) hres hrts ?_ ?_ ?_;rotate_left 2;(focus (simp only [Ze,Zg,seval,if_true,if_false,reduceCtorEq,Nat.reduceEqDiff,eL];with_reducible rfl));(focus simp);focus (first|with_reducible rfl|(simp only [Zv,eL];done)))
end Go.Proofs.Ytedgfkpfhonlpaa
namespace Go.Proofs.Ytedgfkpfhonlpaa
open Go.RowKit
theorem a_spec_IsForest (f:List (List Int)) (hsz:sumLen f ≤ 1048576) (hln:f.length ≤ 1048576):AFn Try.prog 29 [eLL f] (· = [.val (.bool (forB f))]):=by
 have hl:=a_l03Forest f hsz hln
 simp only [eLL] at hl ⊢
 refine AFn.of_runs (cfg_ok 5) Try.func29 rfl rfl rfl (by simp only [List.length_cons,List.length_nil];decide) ?_
 have hres:Try.f29.results.toList = [.tmp 2]:=rfl
 have hrts:Try.f29.resultTypes.toList = [4]:=rfl
 simp only [argRegs,argAV1,eL,eI,eLL,eB,Nat.zero_add,Nat.reduceAdd]
 intro M
 refine RunK.of ?_
 repeat' (first|with_reducible (first|refine Q1 ?_|refine Q2 ?_|refine Q3 ?_|refine Q4 ?_|refine Q5 ?_|refine Q6 ?_|refine Q7 ?_|refine Q8 ?_|refine Q9 ?_|refine Qa ?_|refine Qb ?_|refine Qc ?_|refine Qd ?_|refine Qe ?_|refine Qf ?_)|((with_reducible refine Qo ?_ ?_);focus rfl)|((with_reducible first|refine QT 3 (l:=?_) ?_ ?_|refine QF 3 (l:=?_) ?_ ?_);rotate_left 1;focus (simp only [Zu,Nat.reduceSub,Nat.reduceBEq];with_reducible rfl))|((with_reducible first|refine QS (cfg_ok 5) (Tab.none.at' 63 hl) (s':=?_) ?_ ?_|refine QC (b:=?_) ?_ ?_);rotate_left 1;focus ((with_reducible refine QW ?_);simp only [Zg,seval,if_true,if_false,reduceCtorEq,Nat.reduceEqDiff];with_reducible rfl)))
 (refine Ends.mk (by simp) (rs:=?_) (ks:=?_) hres hrts ?_ ?_ ?_;rotate_left 2;(focus (simp only [Ze,Zg,seval,if_true,if_false,reduceCtorEq,Nat.reduceEqDiff];with_reducible rfl));(focus simp);focus (first|with_reducible rfl|(simp only [Zv];done)))
theorem forOf_in2 (xs:List (List Int)):In64 (forOf xs).2:=by unfold forOf;split <;> (try split) <;> (unfold In64;simp)
theorem a_impl_ForestOf2 (xs:List (List Int)) (hsz:szII xs):AFn Try.prog 32 [eLL xs] (· = [.own 1 ((forOf xs).1.map eL) true,.val (.int (forOf xs).2)]) :=
 AFn.of_oc (encS encI) (forOf_in2 xs) (enters_of Try.func32 rfl rfl) (fun w A vs h => by
  obtain ⟨v1,_,e1,h1,e2⟩:=h
  have e2:_ = []:=e2
  subst e2;subst e1
  exact k_impl_ForestOf v1 xs w (Rd.of (rdLL h1)) hsz)
set_option maxHeartbeats 8000000 in
theorem a_l03Show (f:List (List Int)) (hf:∀ b ∈ f,lev8 b = true) (hl:f.length ≤ 100):AFn Try.prog 67 [eLL f] (· = [.val (.raw (bstr (shwD f)))]):=by
 have hlm:(f.map eL).length = f.length:=List.length_map _
 have hsh:=shwF_len hf
 have hS:=sumLen_le8 hf
 simp only [eLL]
 refine AFn.of_runs (cfg_ok 21) Try.func67 rfl rfl rfl (by simp only [List.length_cons,List.length_nil];decide) ?_
 have hres:Try.f67.results.toList = [.tmp 2]:=rfl
 have hrts:Try.f67.resultTypes.toList = [9]:=rfl
 simp only [argRegs,argAV1,eL,eI,eLL,eB,Nat.zero_add,Nat.reduceAdd]
 intro M
 refine RunK.of ?_
 repeat' (first|with_reducible (first|refine Q1 ?_|refine Q2 ?_|refine Q3 ?_|refine Q4 ?_|refine Q5 ?_|refine Q6 ?_|refine Q7 ?_|refine Q8 ?_|refine Q9 ?_|refine Qa ?_|refine Qb ?_|refine Qc ?_|refine Qd ?_|refine Qe ?_|refine Qf ?_)|((with_reducible refine Qo ?_ ?_);focus rfl)|((with_reducible first|refine QT 5 (l:=?_) ?_ ?_|refine QF 5 (l:=?_) ?_ ?_);rotate_left 1;focus (simp only [Zu,Nat.reduceSub,Nat.reduceBEq];with_reducible rfl))|((with_reducible first|refine QS (cfg_ok 21) Tab.none (s':=?_) ?_ ?_|refine QC (b:=?_) ?_ ?_);rotate_left 1;focus ((with_reducible refine QW ?_);simp only [Zg,seval,if_true,if_false,reduceCtorEq,Nat.reduceEqDiff];with_reducible rfl)))
 refine RunK.loop (β:=Nat) (γ:=Unit) (fun k => ⟨[(0,.c (.val (.sl 1 (f.map eL)))),(3,.c (.val (.raw (bstr (shwF (f.take k)))))),(4,.c (.val (.int k)))],[]⟩) (fun k => k ≤ f.length) (fun k => f.length - k)
  (fun _ => ⟨[(3,.c (.val (.raw (bstr (shwF f)))))],[]⟩) (fun _ => True) 0 (Nat.zero_le _) ?_ ?_ ?_
 ·(repeat' (first|with_reducible refine Qn|((with_reducible refine Qr ?_ ?_);focus (first|with_reducible rfl|(simp only [Zz,Nat.reduceBEq,List.take_zero,show bstr (shwF []) = Value.string ⟨#[]⟩ from rfl,Int.natCast_zero];done)|rfl))|((with_reducible refine Qj (o':=?_) ?_ ?_ ?_);rotate_left 1;focus rfl)|((with_reducible refine Qw ?_ ?_);(focus (first|with_reducible rfl|(simp only [Zv,List.take_zero,show bstr (shwF []) = Value.string ⟨#[]⟩ from rfl,Int.natCast_zero];done)));focus (first|exact id|exact (fun h => nomatch h)|exact (fun _ => rfl)))))
 ·intro k hk
  have hk:k ≤ f.length:=hk
  have hw:=w64_succ (n:=k) (by omega)
  by_cases h:k < f.length
  ·have i1:((k:Int) < (f.length:Int)) = True:=eq_true (by omega)
   have i2:((0:Int) ≤ (k:Int)) = True:=eq_true (by omega)
   obtain ⟨b,hb⟩:∃ b,b = f[k]:=⟨_,rfl⟩
   have hg:(f.map eL)[k]? = some [.sl 1 (b.map eI)]:=by rw [map_get h,hb];rfl
   have hbl:=hf b (by rw [hb];exact List.getElem_mem _)
   have hb8:=lev8_len hbl
   have hc:=a_l03Text 8 (Nat.le_refl 8) b (lev8_lev hbl) hb8
   have htl:=txtF_len 8 b (lev8_lev hbl) hb8
   have htk:shwF (f.take (k + 1)) = shwF (f.take k) ++ txtF 8 b:=by
    unfold shwF
    rw [List.take_succ_eq_append_getElem h,List.flatMap_append,hb];simp
   have htl2:=shwF_len (f:=f.take k) (fun x hx => hf x (List.mem_of_mem_take hx))
   have htl3:=sumLen_take f k
   obtain ⟨X,hX⟩:∃ X,X = shwF (f.take k):=⟨_,rfl⟩
   rw [← hX] at htk htl2 ⊢
   simp only [eL] at hc
   repeat' (first|with_reducible (first|refine Q1 ?_|refine Q2 ?_|refine Q3 ?_|refine Q4 ?_|refine Q5 ?_|refine Q6 ?_|refine Q7 ?_|refine Q8 ?_|refine Q9 ?_|refine Qa ?_|refine Qb ?_|refine Qc ?_|refine Qd ?_|refine Qe ?_|refine Qf ?_)|((with_reducible refine Qo ?_ ?_);focus rfl)|((with_reducible first|refine QT 5 (l:=?_) ?_ ?_|refine QF 5 (l:=?_) ?_ ?_);rotate_left 1;focus (simp only [Zu,Nat.reduceSub,Nat.reduceBEq];with_reducible rfl))|((with_reducible first|refine QS (cfg_ok 21) Tab.none (s':=?_) ?_ ?_|refine QC (b:=?_) ?_ ?_);rotate_left 1;focus ((with_reducible refine QW ?_);simp only [Zg,seval,if_true,if_false,reduceCtorEq,Nat.reduceEqDiff,i1,hlm];with_reducible rfl)))
   ((repeat' (first|with_reducible (first|refine Q1 ?_|refine Q2 ?_|refine Q3 ?_|refine Q4 ?_|refine Q5 ?_|refine Q6 ?_|refine Q7 ?_|refine Q8 ?_|refine Q9 ?_|refine Qa ?_|refine Qb ?_|refine Qc ?_|refine Qd ?_|refine Qe ?_|refine Qf ?_)|((with_reducible refine Qo ?_ ?_);focus rfl)|((with_reducible first|refine QT 5 (l:=?_) ?_ ?_|refine QF 5 (l:=?_) ?_ ?_);rotate_left 1;focus (simp only [Zu,Nat.reduceSub,Nat.reduceBEq];with_reducible rfl))|((with_reducible refine QC (b:=?_) ?_ ?_);rotate_left 1;focus ((with_reducible refine QW ?_);simp only [Zg,seval,if_true,if_false,reduceCtorEq,Nat.reduceEqDiff,i1,i2,hg,hlm,Int.toNat_natCast];with_reducible rfl))));(with_reducible refine RunK.regCut (cfg_ok 21) (Tab.none.at' 89 hc) 6 (s1:=?_) ?_ ?_);rotate_left 1;(focus ((with_reducible refine QW ?_);simp only [Zg,seval,if_true,if_false,reduceCtorEq,Nat.reduceEqDiff,i1,i2,hg,hlm,Int.toNat_natCast];with_reducible rfl));simp only [List.toList_toArray,List.drop_succ_cons,List.drop_zero])
   refine ROps.bAdd (d:=17) rfl (by rfl) rfl (by decide) rfl rfl (by omega) ?_
   rw [← htk]
   (refine ROps.opsT (cfg_ok 21) (T:=Tab.none) (s':=?_) ?_ ?_;rotate_left 1;focus (simp only [Zg,seval,if_true,if_false,reduceCtorEq,Nat.reduceEqDiff];with_reducible rfl))
   repeat' (first|with_reducible (first|refine Q1 ?_|refine Q2 ?_|refine Q3 ?_|refine Q4 ?_|refine Q5 ?_|refine Q6 ?_|refine Q7 ?_|refine Q8 ?_|refine Q9 ?_|refine Qa ?_|refine Qb ?_|refine Qc ?_|refine Qd ?_|refine Qe ?_|refine Qf ?_)|((with_reducible refine Qo ?_ ?_);focus rfl)|((with_reducible first|refine QT 5 (l:=?_) ?_ ?_|refine QF 5 (l:=?_) ?_ ?_);rotate_left 1;focus (simp only [Zu,Nat.reduceSub,Nat.reduceBEq];with_reducible rfl))|((with_reducible first|refine QS (cfg_ok 21) Tab.none (s':=?_) ?_ ?_|refine QC (b:=?_) ?_ ?_);rotate_left 1;focus ((with_reducible refine QW ?_);simp only [Zg,seval,if_true,if_false,reduceCtorEq,Nat.reduceEqDiff,hw];with_reducible rfl)))
   refine roundK.on (k + 1) ⟨h,by omega⟩ ?_
   (repeat' (first|with_reducible refine Qn|((with_reducible refine Qr ?_ ?_);focus (first|with_reducible rfl|(simp only [Zz,Nat.reduceBEq];done)|rfl))|((with_reducible refine Qj (o':=?_) ?_ ?_ ?_);rotate_left 1;focus rfl)|((with_reducible refine Qw ?_ ?_);(focus (first|with_reducible rfl|(simp only [Zv];done)));focus (first|exact id|exact (fun h => nomatch h)|exact (fun _ => rfl)))))
  ·obtain rfl:k = f.length:=by omega
   have i1:(((f.length:Nat):Int) < (f.length:Int)) = False:=eq_false (by omega)
   rw [List.take_length]
   repeat' (first|with_reducible (first|refine Q1 ?_|refine Q2 ?_|refine Q3 ?_|refine Q4 ?_|refine Q5 ?_|refine Q6 ?_|refine Q7 ?_|refine Q8 ?_|refine Q9 ?_|refine Qa ?_|refine Qb ?_|refine Qc ?_|refine Qd ?_|refine Qe ?_|refine Qf ?_)|((with_reducible refine Qo ?_ ?_);focus rfl)|((with_reducible first|refine QT 5 (l:=?_) ?_ ?_|refine QF 5 (l:=?_) ?_ ?_);rotate_left 1;focus (simp only [Zu,Nat.reduceSub,Nat.reduceBEq];with_reducible rfl))|((with_reducible first|refine QS (cfg_ok 21) Tab.none (s':=?_) ?_ ?_|refine QC (b:=?_) ?_ ?_);rotate_left 1;focus ((with_reducible refine QW ?_);simp only [Zg,seval,if_true,if_false,reduceCtorEq,Nat.reduceEqDiff,i1,hlm];with_reducible rfl)))
   refine roundK.out () trivial ?_
   (repeat' (first|with_reducible refine Qn|((with_reducible refine Qr ?_ ?_);focus (first|with_reducible rfl|(simp only [Zz,Nat.reduceBEq];done)|rfl))|((with_reducible refine Qj (o':=?_) ?_ ?_ ?_);rotate_left 1;focus rfl)|((with_reducible refine Qw ?_ ?_);(focus (first|with_reducible rfl|(simp only [Zv];done)));focus (first|exact id|exact (fun h => nomatch h)|exact (fun _ => rfl)))))
 ·rintro ⟨⟩ -
  unfold shwD
  repeat' (first|with_reducible (first|refine Q1 ?_|refine Q2 ?_|refine Q3 ?_|refine Q4 ?_|refine Q5 ?_|refine Q6 ?_|refine Q7 ?_|refine Q8 ?_|refine Q9 ?_|refine Qa ?_|refine Qb ?_|refine Qc ?_|refine Qd ?_|refine Qe ?_|refine Qf ?_)|((with_reducible refine Qo ?_ ?_);focus rfl)|((with_reducible first|refine QT 5 (l:=?_) ?_ ?_|refine QF 5 (l:=?_) ?_ ?_);rotate_left 1;focus (simp only [Zu,Nat.reduceSub,Nat.reduceBEq];with_reducible rfl))|((with_reducible first|refine QS (cfg_ok 21) Tab.none (s':=?_) ?_ ?_|refine QC (b:=?_) ?_ ?_);rotate_left 1;focus ((with_reducible refine QW ?_);simp only [Zg,seval,if_true,if_false,reduceCtorEq,Nat.reduceEqDiff];with_reducible rfl)))
  ((repeat' (first|with_reducible (first|refine Q1 ?_|refine Q2 ?_|refine Q3 ?_|refine Q4 ?_|refine Q5 ?_|refine Q6 ?_|refine Q7 ?_|refine Q8 ?_|refine Q9 ?_|refine Qa ?_|refine Qb ?_|refine Qc ?_|refine Qd ?_|refine Qe ?_|refine Qf ?_)|((with_reducible refine Qo ?_ ?_);focus rfl)|((with_reducible first|refine QT 5 (l:=?_) ?_ ?_|refine QF 5 (l:=?_) ?_ ?_);rotate_left 1;focus (simp only [Zu,Nat.reduceSub,Nat.reduceBEq];with_reducible rfl))|((with_reducible refine QC (b:=?_) ?_ ?_);rotate_left 1;focus ((with_reducible refine QW ?_);simp only [Zg,seval,if_true,if_false,reduceCtorEq,Nat.reduceEqDiff];with_reducible rfl))));(with_reducible refine RunK.regCut (cfg_ok 21) Tab.none 1 (s1:=?_) ?_ ?_);rotate_left 1;(focus ((with_reducible refine QW ?_);simp only [Zg,seval,if_true,if_false,reduceCtorEq,Nat.reduceEqDiff];with_reducible rfl));simp only [List.toList_toArray,List.drop_succ_cons,List.drop_zero])
  refine ROps.bEq (d:=19) (p:=shwF f) (q:=[]) rfl (by rfl) rfl (by decide) rfl rfl ?_
  (refine ROps.opsT (cfg_ok 21) (T:=Tab.none) (s':=?_) ?_ ?_;rotate_left 1;focus (simp only [Zg,seval,if_true,if_false,reduceCtorEq,Nat.reduceEqDiff];with_reducible rfl))
  by_cases h0:f = []
  ·rw [if_pos h0,show (shwF f == []) = true by rw [h0];rfl,show bstr [45] = Value.string ⟨#[45]⟩ from rfl]
   repeat' (first|with_reducible (first|refine Q1 ?_|refine Q2 ?_|refine Q3 ?_|refine Q4 ?_|refine Q5 ?_|refine Q6 ?_|refine Q7 ?_|refine Q8 ?_|refine Q9 ?_|refine Qa ?_|refine Qb ?_|refine Qc ?_|refine Qd ?_|refine Qe ?_|refine Qf ?_)|((with_reducible refine Qo ?_ ?_);focus rfl)|((with_reducible first|refine QT 5 (l:=?_) ?_ ?_|refine QF 5 (l:=?_) ?_ ?_);rotate_left 1;focus (simp only [Zu,Nat.reduceSub,Nat.reduceBEq];with_reducible rfl))|((with_reducible first|refine QS (cfg_ok 21) Tab.none (s':=?_) ?_ ?_|refine QC (b:=?_) ?_ ?_);rotate_left 1;focus ((with_reducible refine QW ?_);simp only [Zg,seval,if_true,if_false,reduceCtorEq,Nat.reduceEqDiff];with_reducible rfl)))
   (refine Ends.mk (by simp) (rs:=?_) (ks:=?_) hres hrts ?_ ?_ ?_;rotate_left 2;(focus (simp only [Ze,Zg,seval,if_true,if_false,reduceCtorEq,Nat.reduceEqDiff];with_reducible rfl));(focus simp);focus (first|with_reducible rfl|(simp only [Zv];done)))
  ·have hne:(shwF f == []) = false:=by
    rw [beq_eq_false_iff_ne]
    intro e
    rw [e] at hsh
    obtain ⟨b,f',rfl⟩:=List.exists_cons_of_ne_nil h0
    have:=(lev8_lev (hf b (by simp))).pos
    simp only [List.length_nil,sumLen,List.map_cons,List.sum_cons] at hsh
    omega
   rw [if_neg h0,hne]
   repeat' (first|with_reducible (first|refine Q1 ?_|refine Q2 ?_|refine Q3 ?_|refine Q4 ?_|refine Q5 ?_|refine Q6 ?_|refine Q7 ?_|refine Q8 ?_|refine Q9 ?_|refine Qa ?_|refine Qb ?_|refine Qc ?_|refine Qd ?_|refine Qe ?_|refine Qf ?_)|((with_reducible refine Qo ?_ ?_);focus rfl)|((with_reducible first|refine QT 5 (l:=?_) ?_ ?_|refine QF 5 (l:=?_) ?_ ?_);rotate_left 1;focus (simp only [Zu,Nat.reduceSub,Nat.reduceBEq];with_reducible rfl))|((with_reducible first|refine QS (cfg_ok 21) Tab.none (s':=?_) ?_ ?_|refine QC (b:=?_) ?_ ?_);rotate_left 1;focus ((with_reducible refine QW ?_);simp only [Zg,seval,if_true,if_false,reduceCtorEq,Nat.reduceEqDiff];with_reducible rfl)))
   (refine Ends.mk (by simp) (rs:=?_) (ks:=?_) hres hrts ?_ ?_ ?_;rotate_left 2;(focus (simp only [Ze,Zg,seval,if_true,if_false,reduceCtorEq,Nat.reduceEqDiff];with_reducible rfl));(focus simp);focus (first|with_reducible rfl|(simp only [Zv];done)))
def drwZ (G:(Nat × Int)→ByteArray→List Res × (Nat × Int)) (s:Nat × Int):List (List D)→Option (List Res × (Nat × Int))
 | [[.raw (.string z)]] => if z.size ≤ 1000 then some (G s z) else none
 | _ => none
theorem drwZ_eq {code:List Int} {G:(Nat × Int)→ByteArray→List Res × (Nat × Int)} {s:Nat × Int} (h:s.1 ≤ code.length) {z:ByteArray} (hz:z.size ≤ 1000):drwG code (drwZ G) 3 [srcD code s] [[.raw (.string z)]] = some ((G s z).1,[srcD code (G s z).2]):=by
 rw [drwG_eq h]
 show Option.map _ (if z.size ≤ 1000 then some (G s z) else none) = _
 rw [if_pos hz];rfl
def damG (code:List Int) (s:Nat × Int) (z:ByteArray):List Res × (Nat × Int):=([.val (.raw (bstr (damF code s z).1.data.toList))],(damF code s z).2)
theorem bstr_data (z:ByteArray):bstr z.data.toList = .string z:=by unfold bstr;rw [Array.toArray_toList]
theorem dam_at {code:List Int} {s:Nat × Int} (h:s.1 ≤ code.length) (z:ByteArray):(damF code s z).2.1 ≤ code.length:=by
 unfold damF
 have h1:=nxtF_at (n:=22) h
 have h2:=nxtF_at (n:=(z.size:Int)) h1
 have h3:=nxtF_at (n:=3) h2
 simp only
 split
 ·exact h1
 ·exact h3
theorem p_l01Damage {code:List Int} (hc:Bytes code) (hl:code.length ≤ 1000000000):DrawsE Try.prog 69 code (drwZ (damG code)):=by
 intro s post rs s' h1 hp
 obtain ⟨z,rfl,hz,e⟩:∃ z,post = [[.raw (.string z)]]∧z.size ≤ 1000∧damG code s z = (rs,s'):=by
  unfold drwZ at hp
  split at hp
  ·rename_i z
   split at hp
   ·rename_i hz;exact ⟨z,rfl,hz,Option.some.inj hp⟩
   ·cases hp
  ·cases hp
 obtain ⟨e1,e2⟩:=Prod.mk.inj e
 subst e1;subst e2
 refine ⟨enters_of Try.func69 rfl rfl,fun A w us og cap0 ds hA hu hrow hk hrd hb => ?_⟩
 obtain ⟨b,hog⟩:=hrow.some_of (j:=0) Nat.zero_lt_one
 subst hog
 obtain ⟨cap1,hcv,_,_⟩:=hrow.slice
 have hb:=hb b rfl
 obtain ⟨u,us',rfl,hu1,hu2⟩:=hu
 have hu2:us' = []:=hu2
 subst hu2
 obtain ⟨rfl,_⟩:=rdV_raw.1 hu1
 have hrd:=rdR_one hrd
 obtain ⟨v0,ds1,rfl,hv0,hrd⟩:=hrd.cons_inv
 obtain ⟨v1,ds2,rfl,hv1,hrd⟩:=hrd.cons_inv
 obtain ⟨v2,ds3,rfl,hv2,hrd⟩:=hrd.cons_inv
 have hd3:ds3 = []:=List.eq_nil_of_length_eq_zero hrd.len
 subst hd3
 obtain ⟨rfl,hi⟩:=rdV_int.1 hv1
 obtain ⟨rfl,_⟩:=rdV_raw.1 hv2
 obtain ⟨oa,cap,rfl,hcap,hcm,hnil,hB⟩:=byt_of hb hc hv0
 refine (c_l01Damage w b oa code cap cap0 s z hrow hB hz h1 hl).mono ?_
 rintro e w' ⟨rfl,hrow',hbel⟩
 have hat:=dam_at h1 z
 refine ⟨_,_,_,[.slice oa code.length cap,.int .i64 (damF code s z).2.1,.int .u64 (damF code s z).2.2],[.string (damF code s z).1],[],[],rfl,⟨rfl,rfl⟩,⟨hbel.os,hbel.tape,hbel.output,hbel.size,fun c hc hne => hbel.block c hc (fun e => hne (by show some b = some c;rw [show c = b from e]))⟩,rfl,List.nodup_nil,(by simp),?_,rfl,hrow',?_⟩
 ·exact ⟨_,[],[],[],[],[],rfl,rfl,rfl,rfl,⟨rdV_raw.2 ⟨(bstr_data _).symm,rfl⟩,rfl,rfl⟩,rfl,rfl,rfl⟩
 ·refine rdR.single (by decide) rfl (.cons ((hv0.frame (fun c hA' hlt => hbel.block c hlt (fun e => hb (e ▸ hA')))).mono (fun c hA' _ => ⟨.inl hA',by simp,fun e => hb (by cases e;exact hA')⟩)) (.cons (rdV_int.2 ⟨rfl,?_⟩) (.cons (rdV_raw.2 ⟨rfl,rfl⟩) .nil)))
  unfold In64;omega
def drawPF (code:List Int):List UInt8 :=
 let p:=drawForF code (src0 code) 8
 let x:=nxtF code p.2 4
 if x.1 = 0 then (damF code x.2 ⟨(shwD p.1).toArray⟩).1.data.toList else shwD p.1
theorem fok_lev8 {n:Nat} {f:List (List Int)} (h:FOk n f) (hn:n ≤ 8):∀ b ∈ f,lev8 b = true:=fun b hb => lev8_mk (h.lev b hb) (by have:=sumLen_mem hb;have:=h.sum;omega)
theorem shwD_len {n:Nat} {f:List (List Int)} (h:FOk n f) (hn:n ≤ 8):(shwD f).length ≤ 17:=by
 have h1:=shwF_len (fok_lev8 h hn)
 have:=h.sum
 unfold shwD
 split
 ·decide
 ·omega
theorem drawPF_len {code:List Int} (hc:Bytes code):(drawPF code).length ≤ 1000:=by
 obtain ⟨h1,h2⟩:=drawForF_ok hc (s:=src0 code) (m:=8) (Nat.zero_le _)
 have h3:=shwD_len h1 (Nat.le_refl 8)
 unfold drawPF
 simp only
 split
 ·have h4:=dam_size code (nxtF code (drawForF code (src0 code) 8).2 4).2 ⟨(shwD (drawForF code (src0 code) 8).1).toArray⟩
  have e:(⟨(shwD (drawForF code (src0 code) 8).1).toArray⟩:ByteArray).size = (shwD (drawForF code (src0 code) 8).1).length:=by simp [ByteArray.size]
  rw [e] at h4
  rw [Array.length_toList]
  exact Nat.le_trans h4 (by omega)
 ·omega
noncomputable def TDz {code:List Int} (hc:Bytes code) (hl:code.length ≤ 1000000000):Tab Try.prog :=
 ((Tab.none.pin 39 (nxtE code) (nxt_l01Next hc hl)).pin 68 (drwE code (drw1 (drawForG code))) (p_l03DrawForest hc hl).ok).pin 69 (drwE code (drwZ (damG code))) (p_l01Damage hc hl).ok
set_option maxHeartbeats 8000000 in
theorem a_DrawParseForest {code:List Int} (hc:Bytes code) (hl:code.length ≤ 1000000000):AFn Try.prog 34 [eCode code] (· = [.val (.raw (bstr (drawPF code)))]):=by
 have hfrom:=p_l01From hc hl
 have hs:(src0 code).1 ≤ code.length:=Nat.zero_le _
 obtain ⟨h1,h2⟩:=drawForF_ok hc (s:=src0 code) (m:=8) hs
 have hd1:=drw1_eq (G:=drawForG code) hs (m:=8) (by omega)
 have h3:=shwD_len h1 (Nat.le_refl 8)
 have hdr:=nxtE_eq code (drawForF code (src0 code) 8).2 4 h2
 have hat:=nxtF_at (n:=4) h2
 have hz:(⟨(shwD (drawForF code (src0 code) 8).1).toArray⟩:ByteArray).size ≤ 1000:=by
  have e:(⟨(shwD (drawForF code (src0 code) 8).1).toArray⟩:ByteArray).size = (shwD (drawForF code (src0 code) 8).1).length:=by simp [ByteArray.size]
  omega
 have hdm:=drwZ_eq (G:=damG code) hat hz
 unfold drawPF
 have e1:drawForG code (src0 code) 8 = ([.own 1 ((drawForF code (src0 code) 8).1.map eL) true],(drawForF code (src0 code) 8).2):=rfl
 rw [e1] at hd1
 obtain ⟨⟨f,s1⟩,hp⟩:∃ p,p = drawForF code (src0 code) 8:=⟨_,rfl⟩
 rw [← hp] at hd1 h1 h2 h3 hdr hat hdm ⊢
 simp only at hd1 h1 h2 h3 hdr hat hdm ⊢
 obtain ⟨⟨x,s2⟩,hq⟩:∃ p,p = nxtF code s1 4:=⟨_,rfl⟩
 rw [← hq] at hdr hat hdm ⊢
 simp only at hdr hat hdm ⊢
 have hsh:=a_l03Show f (fok_lev8 h1 (Nat.le_refl 8)) (by have:=len_sumD h1.lev;have:=h1.sum;omega)
 have hdm:drwG code (drwZ (damG code)) 3 [srcD code s2] [[.raw (bstr (shwD f))]] = _:=hdm
 have e2:damG code s2 ⟨(shwD f).toArray⟩ = ([.val (.raw (bstr (damF code s2 ⟨(shwD f).toArray⟩).1.data.toList))],(damF code s2 ⟨(shwD f).toArray⟩).2):=rfl
 rw [e2] at hdm
 obtain ⟨⟨zz,s3⟩,hdz⟩:∃ p,p = damF code s2 ⟨(shwD f).toArray⟩:=⟨_,rfl⟩
 rw [← hdz] at hdm ⊢
 simp only at hdm ⊢
 simp only [eI,eLL] at hdr hsh
 simp only [eCode,dCode] at hfrom ⊢
 refine AFn.of_runs (cfg_ok 17) Try.func34 rfl rfl rfl (by simp only [List.length_cons,List.length_nil];decide) ?_
 have hres:Try.f34.results.toList = [.tmp 2]:=rfl
 have hrts:Try.f34.resultTypes.toList = [9]:=rfl
 simp only [argRegs,argAV1,eL,eI,eLL,eB,Nat.zero_add,Nat.reduceAdd,eCode,dCode]
 intro M
 refine RunK.of ?_
 ((repeat' (first|with_reducible (first|refine Q1 ?_|refine Q2 ?_|refine Q3 ?_|refine Q4 ?_|refine Q5 ?_|refine Q6 ?_|refine Q7 ?_|refine Q8 ?_|refine Q9 ?_|refine Qa ?_|refine Qb ?_|refine Qc ?_|refine Qd ?_|refine Qe ?_|refine Qf ?_)|((with_reducible refine Qo ?_ ?_);focus rfl)|((with_reducible first|refine QT 5 (l:=?_) ?_ ?_|refine QF 5 (l:=?_) ?_ ?_);rotate_left 1;focus (simp only [Zu,Nat.reduceSub,Nat.reduceBEq];with_reducible rfl))|((with_reducible refine QC (b:=?_) ?_ ?_);rotate_left 1;focus ((with_reducible refine QW ?_);simp only [Zg,seval,if_true,if_false,reduceCtorEq,Nat.reduceEqDiff];with_reducible rfl))));((with_reducible refine QS (cfg_ok 17) Tab.none (s':=?_) ?_ ?_);rotate_left 1;focus ((with_reducible refine QW ?_);simp only [Zg,seval,if_true,if_false,reduceCtorEq,Nat.reduceEqDiff];with_reducible rfl));(repeat' (first|with_reducible (first|refine Q1 ?_|refine Q2 ?_|refine Q3 ?_|refine Q4 ?_|refine Q5 ?_|refine Q6 ?_|refine Q7 ?_|refine Q8 ?_|refine Q9 ?_|refine Qa ?_|refine Qb ?_|refine Qc ?_|refine Qd ?_|refine Qe ?_|refine Qf ?_)|((with_reducible refine Qo ?_ ?_);focus rfl)|((with_reducible first|refine QT 5 (l:=?_) ?_ ?_|refine QF 5 (l:=?_) ?_ ?_);rotate_left 1;focus (simp only [Zu,Nat.reduceSub,Nat.reduceBEq];with_reducible rfl))|((with_reducible refine QC (b:=?_) ?_ ?_);rotate_left 1;focus ((with_reducible refine QW ?_);simp only [Zg,seval,if_true,if_false,reduceCtorEq,Nat.reduceEqDiff];with_reducible rfl)))))
 ((repeat' (first|with_reducible (first|refine Q1 ?_|refine Q2 ?_|refine Q3 ?_|refine Q4 ?_|refine Q5 ?_|refine Q6 ?_|refine Q7 ?_|refine Q8 ?_|refine Q9 ?_|refine Qa ?_|refine Qb ?_|refine Qc ?_|refine Qd ?_|refine Qe ?_|refine Qf ?_)|((with_reducible refine Qo ?_ ?_);focus rfl)|((with_reducible first|refine QT 5 (l:=?_) ?_ ?_|refine QF 5 (l:=?_) ?_ ?_);rotate_left 1;focus (simp only [Zu,Nat.reduceSub,Nat.reduceBEq];with_reducible rfl))|((with_reducible refine QC (b:=?_) ?_ ?_);rotate_left 1;focus ((with_reducible refine QW ?_);simp only [Zg,seval,if_true,if_false,reduceCtorEq,Nat.reduceEqDiff];with_reducible rfl))));(with_reducible refine RunK.regCut (cfg_ok 17) Tab.none 1 (s1:=?_) ?_ ?_);rotate_left 1;(focus ((with_reducible refine QW ?_);simp only [Zg,seval,if_true,if_false,reduceCtorEq,Nat.reduceEqDiff];with_reducible rfl));simp only [List.toList_toArray,List.drop_succ_cons,List.drop_zero])
 refine ROps.callR (cfg_ok 17) rfl (d:=6) rfl (by decide) rfl rfl rfl rfl hfrom rfl ?_
 intro b
 (refine ROps.opsT (cfg_ok 17) (T:=Tab.none) (s':=?_) ?_ ?_;rotate_left 1;focus (simp only [Zg,seval,if_true,if_false,reduceCtorEq,Nat.reduceEqDiff];with_reducible rfl))
 ((repeat' (first|with_reducible (first|refine Q1 ?_|refine Q2 ?_|refine Q3 ?_|refine Q4 ?_|refine Q5 ?_|refine Q6 ?_|refine Q7 ?_|refine Q8 ?_|refine Q9 ?_|refine Qa ?_|refine Qb ?_|refine Qc ?_|refine Qd ?_|refine Qe ?_|refine Qf ?_)|((with_reducible refine Qo ?_ ?_);focus rfl)|((with_reducible first|refine QT 5 (l:=?_) ?_ ?_|refine QF 5 (l:=?_) ?_ ?_);rotate_left 1;focus (simp only [Zu,Nat.reduceSub,Nat.reduceBEq];with_reducible rfl))|((with_reducible refine QC (b:=?_) ?_ ?_);rotate_left 1;focus ((with_reducible refine QW ?_);simp only [Zg,seval,if_true,if_false,reduceCtorEq,Nat.reduceEqDiff,TDz,hd1,drwE,srcD_len];with_reducible rfl))));(with_reducible refine RunK.regCut (cfg_ok 17) (TDz hc hl) 0 (s1:=?_) ?_ ?_);rotate_left 1;(focus ((with_reducible refine QW ?_);simp only [Zg,seval,if_true,if_false,reduceCtorEq,Nat.reduceEqDiff,TDz,hd1,drwE,srcD_len];with_reducible rfl));simp only [List.toList_toArray,List.drop_succ_cons,List.drop_zero])
 (refine ROps.opsT (cfg_ok 17) (T:=(TDz hc hl).at' 67 hsh) (s':=?_) ?_ ?_;rotate_left 1;focus (simp only [Zg,seval,if_true,if_false,reduceCtorEq,Nat.reduceEqDiff,TDz,hd1,drwE,srcD_len];with_reducible rfl))
 by_cases hx:x = 0
 ·have b0:(x == 0) = true:=by simp [hx]
  rw [if_pos hx]
  repeat' (first|with_reducible (first|refine Q1 ?_|refine Q2 ?_|refine Q3 ?_|refine Q4 ?_|refine Q5 ?_|refine Q6 ?_|refine Q7 ?_|refine Q8 ?_|refine Q9 ?_|refine Qa ?_|refine Qb ?_|refine Qc ?_|refine Qd ?_|refine Qe ?_|refine Qf ?_)|((with_reducible refine Qo ?_ ?_);focus rfl)|((with_reducible first|refine QT 5 (l:=?_) ?_ ?_|refine QF 5 (l:=?_) ?_ ?_);rotate_left 1;focus (simp only [Zu,Nat.reduceSub,Nat.reduceBEq];with_reducible rfl))|((with_reducible first|refine QS (cfg_ok 17) (TDz hc hl) (s':=?_) ?_ ?_|refine QC (b:=?_) ?_ ?_);rotate_left 1;focus ((with_reducible refine QW ?_);simp only [Zg,seval,if_true,if_false,reduceCtorEq,Nat.reduceEqDiff,TDz,hdr,hdm,drwE,nxtE,srcD_len,b0];with_reducible rfl)))
  (refine Ends.mk (by simp) (rs:=?_) (ks:=?_) hres hrts ?_ ?_ ?_;rotate_left 2;(focus (simp only [Ze,Zg,seval,if_true,if_false,reduceCtorEq,Nat.reduceEqDiff];with_reducible rfl));(focus simp);focus (first|with_reducible rfl|(simp only [Zv];done)))
 ·have b0:(x == 0) = false:=by simp [hx]
  rw [if_neg hx]
  repeat' (first|with_reducible (first|refine Q1 ?_|refine Q2 ?_|refine Q3 ?_|refine Q4 ?_|refine Q5 ?_|refine Q6 ?_|refine Q7 ?_|refine Q8 ?_|refine Q9 ?_|refine Qa ?_|refine Qb ?_|refine Qc ?_|refine Qd ?_|refine Qe ?_|refine Qf ?_)|((with_reducible refine Qo ?_ ?_);focus rfl)|((with_reducible first|refine QT 5 (l:=?_) ?_ ?_|refine QF 5 (l:=?_) ?_ ?_);rotate_left 1;focus (simp only [Zu,Nat.reduceSub,Nat.reduceBEq];with_reducible rfl))|((with_reducible first|refine QS (cfg_ok 17) (TDz hc hl) (s':=?_) ?_ ?_|refine QC (b:=?_) ?_ ?_);rotate_left 1;focus ((with_reducible refine QW ?_);simp only [Zg,seval,if_true,if_false,reduceCtorEq,Nat.reduceEqDiff,TDz,hdr,drwE,nxtE,srcD_len,b0];with_reducible rfl)))
  (refine Ends.mk (by simp) (rs:=?_) (ks:=?_) hres hrts ?_ ?_ ?_;rotate_left 2;(focus (simp only [Ze,Zg,seval,if_true,if_false,reduceCtorEq,Nat.reduceEqDiff];with_reducible rfl));(focus simp);focus (first|with_reducible rfl|(simp only [Zv];done)))
def drawTF (code:List Int):List (List Int) × List (List Int):=((drawForAnyF code (src0 code) 5).1,(drawForAnyF code (drawForAnyF code (src0 code) 5).2 5).1)
theorem drawTF_ok {code:List Int} (hc:Bytes code):FAOk 18 (drawTF code).1∧FAOk 18 (drawTF code).2:=by
 obtain ⟨h1,h2⟩:=drawForAnyF_ok hc (s:=src0 code) (m:=5) (Nat.zero_le _)
 exact ⟨h1,(drawForAnyF_ok hc (m:=5) h2).1⟩
noncomputable def TDy {code:List Int} (hc:Bytes code) (hl:code.length ≤ 1000000000):Tab Try.prog :=
 (Tab.none.pin 39 (nxtE code) (nxt_l01Next hc hl)).pin 61 (drwE code (drw1 (drawForAnyG code))) (p_l03DrawForestAny hc hl).ok
set_option maxHeartbeats 4000000 in
theorem a_DrawTimesForests {code:List Int} (hc:Bytes code) (hl:code.length ≤ 1000000000):AFn Try.prog 26 [eCode code] (· = [.own 1 ((drawTF code).1.map eL) false,.own 1 ((drawTF code).2.map eL) false]):=by
 have hfrom:=p_l01From hc hl
 have hs:(src0 code).1 ≤ code.length:=Nat.zero_le _
 obtain ⟨_,h2⟩:=drawForAnyF_ok hc (s:=src0 code) (m:=5) hs
 have hd1:=drw1_eq (G:=drawForAnyG code) hs (m:=5) (by omega)
 have hd2:=drw1_eq (G:=drawForAnyG code) h2 (m:=5) (by omega)
 unfold drawTF
 have e1:drawForAnyG code (src0 code) 5 = ([.own 1 ((drawForAnyF code (src0 code) 5).1.map eL) false],(drawForAnyF code (src0 code) 5).2):=rfl
 rw [e1] at hd1
 obtain ⟨⟨t,s1⟩,hp⟩:∃ p,p = drawForAnyF code (src0 code) 5:=⟨_,rfl⟩
 rw [← hp] at hd1 hd2 h2 ⊢
 simp only at hd1 hd2 h2 ⊢
 have e2:drawForAnyG code s1 5 = ([.own 1 ((drawForAnyF code s1 5).1.map eL) false],(drawForAnyF code s1 5).2):=rfl
 rw [e2] at hd2
 obtain ⟨⟨u,s2⟩,hq⟩:∃ p,p = drawForAnyF code s1 5:=⟨_,rfl⟩
 rw [← hq] at hd2 ⊢
 simp only [eCode,dCode] at hfrom ⊢
 refine AFn.of_runs (cfg_ok 11) Try.func26 rfl rfl rfl (by simp only [List.length_cons,List.length_nil];decide) ?_
 have hres:Try.f26.results.toList = [.tmp 2,.tmp 3]:=rfl
 have hrts:Try.f26.resultTypes.toList = [33,33]:=rfl
 simp only [argRegs,argAV1,eL,eI,eLL,eB,Nat.zero_add,Nat.reduceAdd,eCode,dCode]
 intro M
 refine RunK.of ?_
 ((repeat' (first|with_reducible (first|refine Q1 ?_|refine Q2 ?_|refine Q3 ?_|refine Q4 ?_|refine Q5 ?_|refine Q6 ?_|refine Q7 ?_|refine Q8 ?_|refine Q9 ?_|refine Qa ?_|refine Qb ?_|refine Qc ?_|refine Qd ?_|refine Qe ?_|refine Qf ?_)|((with_reducible refine Qo ?_ ?_);focus rfl)|((with_reducible first|refine QT 5 (l:=?_) ?_ ?_|refine QF 5 (l:=?_) ?_ ?_);rotate_left 1;focus (simp only [Zu,Nat.reduceSub,Nat.reduceBEq];with_reducible rfl))|((with_reducible refine QC (b:=?_) ?_ ?_);rotate_left 1;focus ((with_reducible refine QW ?_);simp only [Zg,seval,if_true,if_false,reduceCtorEq,Nat.reduceEqDiff];with_reducible rfl))));((with_reducible refine QS (cfg_ok 11) Tab.none (s':=?_) ?_ ?_);rotate_left 1;focus ((with_reducible refine QW ?_);simp only [Zg,seval,if_true,if_false,reduceCtorEq,Nat.reduceEqDiff];with_reducible rfl));(repeat' (first|with_reducible (first|refine Q1 ?_|refine Q2 ?_|refine Q3 ?_|refine Q4 ?_|refine Q5 ?_|refine Q6 ?_|refine Q7 ?_|refine Q8 ?_|refine Q9 ?_|refine Qa ?_|refine Qb ?_|refine Qc ?_|refine Qd ?_|refine Qe ?_|refine Qf ?_)|((with_reducible refine Qo ?_ ?_);focus rfl)|((with_reducible first|refine QT 5 (l:=?_) ?_ ?_|refine QF 5 (l:=?_) ?_ ?_);rotate_left 1;focus (simp only [Zu,Nat.reduceSub,Nat.reduceBEq];with_reducible rfl))|((with_reducible refine QC (b:=?_) ?_ ?_);rotate_left 1;focus ((with_reducible refine QW ?_);simp only [Zg,seval,if_true,if_false,reduceCtorEq,Nat.reduceEqDiff];with_reducible rfl)))))
 ((repeat' (first|with_reducible (first|refine Q1 ?_|refine Q2 ?_|refine Q3 ?_|refine Q4 ?_|refine Q5 ?_|refine Q6 ?_|refine Q7 ?_|refine Q8 ?_|refine Q9 ?_|refine Qa ?_|refine Qb ?_|refine Qc ?_|refine Qd ?_|refine Qe ?_|refine Qf ?_)|((with_reducible refine Qo ?_ ?_);focus rfl)|((with_reducible first|refine QT 5 (l:=?_) ?_ ?_|refine QF 5 (l:=?_) ?_ ?_);rotate_left 1;focus (simp only [Zu,Nat.reduceSub,Nat.reduceBEq];with_reducible rfl))|((with_reducible refine QC (b:=?_) ?_ ?_);rotate_left 1;focus ((with_reducible refine QW ?_);simp only [Zg,seval,if_true,if_false,reduceCtorEq,Nat.reduceEqDiff];with_reducible rfl))));(with_reducible refine RunK.regCut (cfg_ok 11) Tab.none 1 (s1:=?_) ?_ ?_);rotate_left 1;(focus ((with_reducible refine QW ?_);simp only [Zg,seval,if_true,if_false,reduceCtorEq,Nat.reduceEqDiff];with_reducible rfl));simp only [List.toList_toArray,List.drop_succ_cons,List.drop_zero])
 refine ROps.callR (cfg_ok 11) rfl (d:=6) rfl (by decide) rfl rfl rfl rfl hfrom rfl ?_
 intro b
 (refine ROps.opsT (cfg_ok 11) (T:=Tab.none) (s':=?_) ?_ ?_;rotate_left 1;focus (simp only [Zg,seval,if_true,if_false,reduceCtorEq,Nat.reduceEqDiff];with_reducible rfl))
 ((repeat' (first|with_reducible (first|refine Q1 ?_|refine Q2 ?_|refine Q3 ?_|refine Q4 ?_|refine Q5 ?_|refine Q6 ?_|refine Q7 ?_|refine Q8 ?_|refine Q9 ?_|refine Qa ?_|refine Qb ?_|refine Qc ?_|refine Qd ?_|refine Qe ?_|refine Qf ?_)|((with_reducible refine Qo ?_ ?_);focus rfl)|((with_reducible first|refine QT 5 (l:=?_) ?_ ?_|refine QF 5 (l:=?_) ?_ ?_);rotate_left 1;focus (simp only [Zu,Nat.reduceSub,Nat.reduceBEq];with_reducible rfl))|((with_reducible refine QC (b:=?_) ?_ ?_);rotate_left 1;focus ((with_reducible refine QW ?_);simp only [Zg,seval,if_true,if_false,reduceCtorEq,Nat.reduceEqDiff,TDy,hd1,drwE,srcD_len];with_reducible rfl))));(with_reducible refine RunK.regCut (cfg_ok 11) (TDy hc hl) 0 (s1:=?_) ?_ ?_);rotate_left 1;(focus ((with_reducible refine QW ?_);simp only [Zg,seval,if_true,if_false,reduceCtorEq,Nat.reduceEqDiff,TDy,hd1,drwE,srcD_len];with_reducible rfl));simp only [List.toList_toArray,List.drop_succ_cons,List.drop_zero])
 (refine ROps.opsT (cfg_ok 11) (T:=TDy hc hl) (s':=?_) ?_ ?_;rotate_left 1;focus (simp only [Zg,seval,if_true,if_false,reduceCtorEq,Nat.reduceEqDiff,TDy,hd1,hd2,drwE,nxtE,srcD_len];with_reducible rfl))
 repeat' (first|with_reducible (first|refine Q1 ?_|refine Q2 ?_|refine Q3 ?_|refine Q4 ?_|refine Q5 ?_|refine Q6 ?_|refine Q7 ?_|refine Q8 ?_|refine Q9 ?_|refine Qa ?_|refine Qb ?_|refine Qc ?_|refine Qd ?_|refine Qe ?_|refine Qf ?_)|((with_reducible refine Qo ?_ ?_);focus rfl)|((with_reducible first|refine QT 5 (l:=?_) ?_ ?_|refine QF 5 (l:=?_) ?_ ?_);rotate_left 1;focus (simp only [Zu,Nat.reduceSub,Nat.reduceBEq];with_reducible rfl))|((with_reducible first|refine QS (cfg_ok 11) Tab.none (s':=?_) ?_ ?_|refine QC (b:=?_) ?_ ?_);rotate_left 1;focus ((with_reducible refine QW ?_);simp only [Zg,seval,if_true,if_false,reduceCtorEq,Nat.reduceEqDiff];with_reducible rfl)))
 (refine Ends.mk (by simp) (rs:=?_) (ks:=?_) hres hrts ?_ ?_ ?_;rotate_left 2;(focus (simp only [Ze,Zg,seval,if_true,if_false,reduceCtorEq,Nat.reduceEqDiff];with_reducible rfl));(focus simp);focus (first|with_reducible rfl|(simp only [Zv];done)))
end Go.Proofs.Ytedgfkpfhonlpaa
namespace Go.Proofs.Ytedgfkpfhonlpaa
open Go.RowKit
theorem getD_ltn {l:List Int} {i:Nat} (h:i < l.length):l.getD i 0 = l[i]:=by rw [List.getD_eq_getElem?_getD,List.getElem?_eq_getElem h];rfl
theorem mapI_get {l:List Int} {i:Nat} (h:i < l.length):(l.map eI)[i]? = some [.int (l.getD i 0)]:=by rw [List.getElem?_map,List.getElem?_eq_getElem h,getD_ltn h];rfl
set_option maxHeartbeats 4000000 in
theorem a_likeInts (xs ys:List Int) (hsz:xs.length ≤ 1000000000):AFn Try.prog 12 [eL xs,eL ys] (· = [.val (.bool (decide (xs = ys)))]):=by
 have hx:(xs.map eI).length = xs.length:=List.length_map _
 have hy:(ys.map eI).length = ys.length:=List.length_map _
 by_cases hl:xs.length = ys.length
 rotate_left
 ·have hne:xs ≠ ys:=fun e => hl (by rw [e])
  have b:(((xs.length:Nat):Int) != ((ys.length:Nat):Int)) = true:=bne_iff_ne.2 (by omega)
  rw [decide_eq_false hne]
  refine AFn.of_runs (cfg_ok 26) Try.func12 rfl rfl rfl (by simp only [List.length_cons,List.length_nil];decide) ?_
  have hres:Try.f12.results.toList = [.tmp 4]:=rfl
  have hrts:Try.f12.resultTypes.toList = [4]:=rfl
  simp only [argRegs,argAV1,eL,eI,eLL,eB,Nat.zero_add,Nat.reduceAdd]
  intro M
  refine RunK.of ?_
  repeat' (first|with_reducible (first|refine Q1 ?_|refine Q2 ?_|refine Q3 ?_|refine Q4 ?_|refine Q5 ?_|refine Q6 ?_|refine Q7 ?_|refine Q8 ?_|refine Q9 ?_|refine Qa ?_|refine Qb ?_|refine Qc ?_|refine Qd ?_|refine Qe ?_|refine Qf ?_)|((with_reducible refine Qo ?_ ?_);focus rfl)|((with_reducible first|refine QT 6 (l:=?_) ?_ ?_|refine QF 6 (l:=?_) ?_ ?_);rotate_left 1;focus (simp only [Zu,Nat.reduceSub,Nat.reduceBEq];with_reducible rfl))|((with_reducible first|refine QS (cfg_ok 26) Tab.none (s':=?_) ?_ ?_|refine QC (b:=?_) ?_ ?_);rotate_left 1;focus ((with_reducible refine QW ?_);simp only [Zg,seval,if_true,if_false,reduceCtorEq,Nat.reduceEqDiff,b,hx,hy];with_reducible rfl))|((with_reducible refine QD (cfg_ok 26) Tab.none mixed_ok (tr:=?_) (s':=?_) ?_ ?_ ?_);rotate_left 2;(focus ((with_reducible refine QW ?_);simp only [Zg,Zd,seval,if_true,if_false,reduceCtorEq,Nat.reduceEqDiff,b,hx,hy];with_reducible rfl));focus ((with_reducible refine QK ?_);simp only [Zk];kernel_rfl)))
  (refine Ends.mk (by simp) (rs:=?_) (ks:=?_) hres hrts ?_ ?_ ?_;rotate_left 2;(focus (simp only [Ze,Zg,seval,if_true,if_false,reduceCtorEq,Nat.reduceEqDiff];with_reducible rfl));(focus simp);focus (first|with_reducible rfl|(simp only [Zv];done)))
 have b:(((ys.length:Nat):Int) != ((ys.length:Nat):Int)) = false:=by simp
 refine AFn.of_runs (cfg_ok 26) Try.func12 rfl rfl rfl (by simp only [List.length_cons,List.length_nil];decide) ?_
 have hres:Try.f12.results.toList = [.tmp 4]:=rfl
 have hrts:Try.f12.resultTypes.toList = [4]:=rfl
 simp only [argRegs,argAV1,eL,eI,eLL,eB,Nat.zero_add,Nat.reduceAdd]
 intro M
 refine RunK.of ?_
 repeat' (first|with_reducible (first|refine Q1 ?_|refine Q2 ?_|refine Q3 ?_|refine Q4 ?_|refine Q5 ?_|refine Q6 ?_|refine Q7 ?_|refine Q8 ?_|refine Q9 ?_|refine Qa ?_|refine Qb ?_|refine Qc ?_|refine Qd ?_|refine Qe ?_|refine Qf ?_)|((with_reducible refine Qo ?_ ?_);focus rfl)|((with_reducible first|refine QT 6 (l:=?_) ?_ ?_|refine QF 6 (l:=?_) ?_ ?_);rotate_left 1;focus (simp only [Zu,Nat.reduceSub,Nat.reduceBEq];with_reducible rfl))|((with_reducible first|refine QS (cfg_ok 26) Tab.none (s':=?_) ?_ ?_|refine QC (b:=?_) ?_ ?_);rotate_left 1;focus ((with_reducible refine QW ?_);simp only [Zg,seval,if_true,if_false,reduceCtorEq,Nat.reduceEqDiff,b,hx,hy,hl];with_reducible rfl))|((with_reducible refine QD (cfg_ok 26) Tab.none mixed_ok (tr:=?_) (s':=?_) ?_ ?_ ?_);rotate_left 2;(focus ((with_reducible refine QW ?_);simp only [Zg,Zd,seval,if_true,if_false,reduceCtorEq,Nat.reduceEqDiff,b,hx,hy,hl];with_reducible rfl));focus ((with_reducible refine QK ?_);simp only [Zk];kernel_rfl)))
 refine RunK.loop (β:=Nat) (γ:=Unit) (fun i => ⟨[(0,.c (.val (.sl 1 (xs.map eI)))),(1,.c (.val (.sl 1 (ys.map eI)))),(5,.c (.val (.int i)))],[]⟩) (fun i => i ≤ xs.length∧xs.take i = ys.take i) (fun i => xs.length - i)
  (fun _ => ⟨[],[]⟩) (fun _ => xs = ys) 0 ⟨Nat.zero_le _,rfl⟩ ?_ ?_ ?_
 ·(repeat' (first|with_reducible refine Qn|((with_reducible refine Qr ?_ ?_);focus (first|with_reducible rfl|(simp only [Zz,Nat.reduceBEq,Int.natCast_zero];done)|rfl))|((with_reducible refine Qj (o':=?_) ?_ ?_ ?_);rotate_left 1;focus rfl)|((with_reducible refine Qw ?_ ?_);(focus (first|with_reducible rfl|(simp only [Zv,Int.natCast_zero];done)));focus (first|exact id|exact (fun h => nomatch h)|exact (fun _ => rfl)))))
 ·rintro i ⟨hi,ht⟩
  have hw:=w64_succ (n:=i) (by omega)
  by_cases h:i < xs.length
  ·have i1:((i:Int) < (ys.length:Int)) = True:=eq_true (by omega)
   have i2:((0:Int) ≤ (i:Int)) = True:=eq_true (by omega)
   have g1:=mapI_get h
   have g2:=mapI_get (l:=ys) (i:=i) (by omega)
   by_cases he:xs.getD i 0 = ys.getD i 0
   ·have e0:(xs.getD i 0 != ys.getD i 0) = false:=by rw [he];simp only [bne_self_eq_false]
    repeat' (first|with_reducible (first|refine Q1 ?_|refine Q2 ?_|refine Q3 ?_|refine Q4 ?_|refine Q5 ?_|refine Q6 ?_|refine Q7 ?_|refine Q8 ?_|refine Q9 ?_|refine Qa ?_|refine Qb ?_|refine Qc ?_|refine Qd ?_|refine Qe ?_|refine Qf ?_)|((with_reducible refine Qo ?_ ?_);focus rfl)|((with_reducible first|refine QT 6 (l:=?_) ?_ ?_|refine QF 6 (l:=?_) ?_ ?_);rotate_left 1;focus (simp only [Zu,Nat.reduceSub,Nat.reduceBEq];with_reducible rfl))|((with_reducible first|refine QS (cfg_ok 26) Tab.none (s':=?_) ?_ ?_|refine QC (b:=?_) ?_ ?_);rotate_left 1;focus ((with_reducible refine QW ?_);simp only [Zg,seval,if_true,if_false,reduceCtorEq,Nat.reduceEqDiff,i1,i2,g1,g2,hx,hy,hl,hw,e0,Int.toNat_natCast];with_reducible rfl))|((with_reducible refine QD (cfg_ok 26) Tab.none mixed_ok (tr:=?_) (s':=?_) ?_ ?_ ?_);rotate_left 2;(focus ((with_reducible refine QW ?_);simp only [Zg,Zd,seval,if_true,if_false,reduceCtorEq,Nat.reduceEqDiff,i1,i2,g1,g2,hx,hy,hl,hw,e0,Int.toNat_natCast];with_reducible rfl));focus ((with_reducible refine QK ?_);simp only [Zk];kernel_rfl)))
    refine roundK.on (i + 1) ⟨⟨h,?_⟩,by omega⟩ ?_
    ·rw [getD_ltn h,getD_ltn (by omega)] at he
     rw [List.take_succ_eq_append_getElem h,List.take_succ_eq_append_getElem (by omega),ht,he]
    (repeat' (first|with_reducible refine Qn|((with_reducible refine Qr ?_ ?_);focus (first|with_reducible rfl|(simp only [Zz,Nat.reduceBEq];done)|rfl))|((with_reducible refine Qj (o':=?_) ?_ ?_ ?_);rotate_left 1;focus rfl)|((with_reducible refine Qw ?_ ?_);(focus (first|with_reducible rfl|(simp only [Zv];done)));focus (first|exact id|exact (fun h => nomatch h)|exact (fun _ => rfl)))))
   ·have e0:(xs.getD i 0 != ys.getD i 0) = true:=bne_iff_ne.2 he
    have hne:xs ≠ ys:=fun e => he (by rw [e])
    rw [decide_eq_false hne]
    repeat' (first|with_reducible (first|refine Q1 ?_|refine Q2 ?_|refine Q3 ?_|refine Q4 ?_|refine Q5 ?_|refine Q6 ?_|refine Q7 ?_|refine Q8 ?_|refine Q9 ?_|refine Qa ?_|refine Qb ?_|refine Qc ?_|refine Qd ?_|refine Qe ?_|refine Qf ?_)|((with_reducible refine Qo ?_ ?_);focus rfl)|((with_reducible first|refine QT 6 (l:=?_) ?_ ?_|refine QF 6 (l:=?_) ?_ ?_);rotate_left 1;focus (simp only [Zu,Nat.reduceSub,Nat.reduceBEq];with_reducible rfl))|((with_reducible first|refine QS (cfg_ok 26) Tab.none (s':=?_) ?_ ?_|refine QC (b:=?_) ?_ ?_);rotate_left 1;focus ((with_reducible refine QW ?_);simp only [Zg,seval,if_true,if_false,reduceCtorEq,Nat.reduceEqDiff,i1,i2,g1,g2,hx,hy,hl,hw,e0,Int.toNat_natCast];with_reducible rfl))|((with_reducible refine QD (cfg_ok 26) Tab.none mixed_ok (tr:=?_) (s':=?_) ?_ ?_ ?_);rotate_left 2;(focus ((with_reducible refine QW ?_);simp only [Zg,Zd,seval,if_true,if_false,reduceCtorEq,Nat.reduceEqDiff,i1,i2,g1,g2,hx,hy,hl,hw,e0,Int.toNat_natCast];with_reducible rfl));focus ((with_reducible refine QK ?_);simp only [Zk];kernel_rfl)))
    refine roundK.ret ?_
    repeat' (first|with_reducible (first|refine Q1 ?_|refine Q2 ?_|refine Q3 ?_|refine Q4 ?_|refine Q5 ?_|refine Q6 ?_|refine Q7 ?_|refine Q8 ?_|refine Q9 ?_|refine Qa ?_|refine Qb ?_|refine Qc ?_|refine Qd ?_|refine Qe ?_|refine Qf ?_)|((with_reducible refine Qo ?_ ?_);focus rfl)|((with_reducible first|refine QT 6 (l:=?_) ?_ ?_|refine QF 6 (l:=?_) ?_ ?_);rotate_left 1;focus (simp only [Zu,Nat.reduceSub,Nat.reduceBEq];with_reducible rfl))|((with_reducible first|refine QS (cfg_ok 26) Tab.none (s':=?_) ?_ ?_|refine QC (b:=?_) ?_ ?_);rotate_left 1;focus ((with_reducible refine QW ?_);simp only [Zg,seval,if_true,if_false,reduceCtorEq,Nat.reduceEqDiff];with_reducible rfl))|((with_reducible refine QD (cfg_ok 26) Tab.none mixed_ok (tr:=?_) (s':=?_) ?_ ?_ ?_);rotate_left 2;(focus ((with_reducible refine QW ?_);simp only [Zg,Zd,seval,if_true,if_false,reduceCtorEq,Nat.reduceEqDiff];with_reducible rfl));focus ((with_reducible refine QK ?_);simp only [Zk];kernel_rfl)))
    (refine Ends.mk (by simp) (rs:=?_) (ks:=?_) hres hrts ?_ ?_ ?_;rotate_left 2;(focus (simp only [Ze,Zg,seval,if_true,if_false,reduceCtorEq,Nat.reduceEqDiff];with_reducible rfl));(focus simp);focus (first|with_reducible rfl|(simp only [Zv];done)))
  ·have i1:((i:Int) < (ys.length:Int)) = False:=eq_false (by omega)
   repeat' (first|with_reducible (first|refine Q1 ?_|refine Q2 ?_|refine Q3 ?_|refine Q4 ?_|refine Q5 ?_|refine Q6 ?_|refine Q7 ?_|refine Q8 ?_|refine Q9 ?_|refine Qa ?_|refine Qb ?_|refine Qc ?_|refine Qd ?_|refine Qe ?_|refine Qf ?_)|((with_reducible refine Qo ?_ ?_);focus rfl)|((with_reducible first|refine QT 6 (l:=?_) ?_ ?_|refine QF 6 (l:=?_) ?_ ?_);rotate_left 1;focus (simp only [Zu,Nat.reduceSub,Nat.reduceBEq];with_reducible rfl))|((with_reducible first|refine QS (cfg_ok 26) Tab.none (s':=?_) ?_ ?_|refine QC (b:=?_) ?_ ?_);rotate_left 1;focus ((with_reducible refine QW ?_);simp only [Zg,seval,if_true,if_false,reduceCtorEq,Nat.reduceEqDiff,i1,hx,hl];with_reducible rfl))|((with_reducible refine QD (cfg_ok 26) Tab.none mixed_ok (tr:=?_) (s':=?_) ?_ ?_ ?_);rotate_left 2;(focus ((with_reducible refine QW ?_);simp only [Zg,Zd,seval,if_true,if_false,reduceCtorEq,Nat.reduceEqDiff,i1,hx,hl];with_reducible rfl));focus ((with_reducible refine QK ?_);simp only [Zk];kernel_rfl)))
   refine roundK.out () ?_ ?_
   ·rw [List.take_of_length_le (by omega),List.take_of_length_le (by omega)] at ht
    exact ht
   (repeat' (first|with_reducible refine Qn|((with_reducible refine Qr ?_ ?_);focus (first|with_reducible rfl|(simp only [Zz,Nat.reduceBEq];done)|rfl))|((with_reducible refine Qj (o':=?_) ?_ ?_ ?_);rotate_left 1;focus rfl)|((with_reducible refine Qw ?_ ?_);(focus (first|with_reducible rfl|(simp only [Zv];done)));focus (first|exact id|exact (fun h => nomatch h)|exact (fun _ => rfl)))))
 ·intro _ he
  rw [decide_eq_true he]
  repeat' (first|with_reducible (first|refine Q1 ?_|refine Q2 ?_|refine Q3 ?_|refine Q4 ?_|refine Q5 ?_|refine Q6 ?_|refine Q7 ?_|refine Q8 ?_|refine Q9 ?_|refine Qa ?_|refine Qb ?_|refine Qc ?_|refine Qd ?_|refine Qe ?_|refine Qf ?_)|((with_reducible refine Qo ?_ ?_);focus rfl)|((with_reducible first|refine QT 6 (l:=?_) ?_ ?_|refine QF 6 (l:=?_) ?_ ?_);rotate_left 1;focus (simp only [Zu,Nat.reduceSub,Nat.reduceBEq];with_reducible rfl))|((with_reducible first|refine QS (cfg_ok 26) Tab.none (s':=?_) ?_ ?_|refine QC (b:=?_) ?_ ?_);rotate_left 1;focus ((with_reducible refine QW ?_);simp only [Zg,seval,if_true,if_false,reduceCtorEq,Nat.reduceEqDiff];with_reducible rfl))|((with_reducible refine QD (cfg_ok 26) Tab.none mixed_ok (tr:=?_) (s':=?_) ?_ ?_ ?_);rotate_left 2;(focus ((with_reducible refine QW ?_);simp only [Zg,Zd,seval,if_true,if_false,reduceCtorEq,Nat.reduceEqDiff];with_reducible rfl));focus ((with_reducible refine QK ?_);simp only [Zk];kernel_rfl)))
  (refine Ends.mk (by simp) (rs:=?_) (ks:=?_) hres hrts ?_ ?_ ?_;rotate_left 2;(focus (simp only [Ze,Zg,seval,if_true,if_false,reduceCtorEq,Nat.reduceEqDiff];with_reducible rfl));(focus simp);focus (first|with_reducible rfl|(simp only [Zv];done)))
end Go.Proofs.Ytedgfkpfhonlpaa
namespace Go.Proofs.Ytedgfkpfhonlpaa
open Go.RowKit
set_option maxHeartbeats 2000000 in
theorem a_same9 (f g:List (List Int)) (hf:f.length ≤ 1000000000) (hg:g.length ≤ 1000000000) (hsz:∀ t ∈ f,t.length ≤ 1000000000):AFn Try.prog 33 [eLL f,eLL g] (· = [.val (.bool (decide (f = g)))]):=by
 have hfm:(f.map eL).length = f.length:=List.length_map _
 have hgm:(g.map eL).length = g.length:=List.length_map _
 refine AFn.of_runs (cfg_ok 27) Try.func33 rfl rfl rfl (by simp only [List.length_cons,List.length_nil];decide) ?_
 have hres:Try.f33.results.toList = [.tmp 4]:=rfl
 have hrts:Try.f33.resultTypes.toList = [4]:=rfl
 simp only [argRegs,argAV1,eL,eI,eLL,eB,Nat.zero_add,Nat.reduceAdd]
 intro M
 refine RunK.of ?_
 by_cases hl:f.length = g.length
 ·have hb:((f.length:Int) != (g.length:Int)) = false:=by simp [hl]
  repeat' (first|with_reducible (first|refine Q1 ?_|refine Q2 ?_|refine Q3 ?_|refine Q4 ?_|refine Q5 ?_|refine Q6 ?_|refine Q7 ?_|refine Q8 ?_|refine Q9 ?_|refine Qa ?_|refine Qb ?_|refine Qc ?_|refine Qd ?_|refine Qe ?_|refine Qf ?_)|((with_reducible refine Qo ?_ ?_);focus rfl)|((with_reducible first|refine QT 6 (l:=?_) ?_ ?_|refine QF 6 (l:=?_) ?_ ?_);rotate_left 1;focus (simp only [Zu,Nat.reduceSub,Nat.reduceBEq];with_reducible rfl))|((with_reducible first|refine QS (cfg_ok 27) Tab.none (s':=?_) ?_ ?_|refine QC (b:=?_) ?_ ?_);rotate_left 1;focus ((with_reducible refine QW ?_);simp only [Zg,seval,if_true,if_false,reduceCtorEq,Nat.reduceEqDiff,hfm,hgm,hb];with_reducible rfl))|((with_reducible refine QD (cfg_ok 27) Tab.none mixed_ok (tr:=?_) (s':=?_) ?_ ?_ ?_);rotate_left 2;(focus ((with_reducible refine QW ?_);simp only [Zg,Zd,seval,if_true,if_false,reduceCtorEq,Nat.reduceEqDiff,hfm,hgm,hb];with_reducible rfl));focus ((with_reducible refine QK ?_);simp only [Zk];kernel_rfl)))
  refine RunK.loop (β:=Nat) (γ:=Unit) (fun i => ⟨[(0,.c (.val (.sl 1 (f.map eL)))),(1,.c (.val (.sl 1 (g.map eL)))),(5,.c (.val (.int i)))],[]⟩) (fun i => i ≤ f.length∧f.take i = g.take i) (fun i => f.length - i)
   (fun _ => ⟨[],[]⟩) (fun _ => f = g) 0 ⟨Nat.zero_le _,rfl⟩ ?_ ?_ ?_
  ·(repeat' (first|with_reducible refine Qn|((with_reducible refine Qr ?_ ?_);focus (first|with_reducible rfl|(simp only [Zz,Nat.reduceBEq,Int.natCast_zero];done)|rfl))|((with_reducible refine Qj (o':=?_) ?_ ?_ ?_);rotate_left 1;focus rfl)|((with_reducible refine Qw ?_ ?_);(focus (first|with_reducible rfl|(simp only [Zv,Int.natCast_zero];done)));focus (first|exact id|exact (fun h => nomatch h)|exact (fun _ => rfl)))))
  ·rintro i ⟨hi,ht⟩
   have hw:=w64_succ (n:=i) (by omega)
   by_cases h:i < f.length
   ·have h2:i < g.length:=by omega
    have i1:((i:Int) < (f.length:Int)) = True:=eq_true (by omega)
    have i1':((i:Int) < (g.length:Int)) = True:=eq_true (by omega)
    have i2:((0:Int) ≤ (i:Int)) = True:=eq_true (by omega)
    obtain ⟨s,hs⟩:∃ s,s = f[i]:=⟨_,rfl⟩
    obtain ⟨t,htt⟩:∃ t,t = g[i]:=⟨_,rfl⟩
    have hgs:(f.map eL)[i]? = some [.sl 1 (s.map eI)]:=by rw [map_get h,hs];rfl
    have hgt:(g.map eL)[i]? = some [.sl 1 (t.map eI)]:=by rw [map_get h2,htt];rfl
    have hsm:=a_likeInts s t (by rw [hs];exact hsz _ (List.getElem_mem _))
    simp only [eL] at hsm
    by_cases hst:s = t
    ·rw [decide_eq_true hst] at hsm
     repeat' (first|with_reducible (first|refine Q1 ?_|refine Q2 ?_|refine Q3 ?_|refine Q4 ?_|refine Q5 ?_|refine Q6 ?_|refine Q7 ?_|refine Q8 ?_|refine Q9 ?_|refine Qa ?_|refine Qb ?_|refine Qc ?_|refine Qd ?_|refine Qe ?_|refine Qf ?_)|((with_reducible refine Qo ?_ ?_);focus rfl)|((with_reducible first|refine QT 6 (l:=?_) ?_ ?_|refine QF 6 (l:=?_) ?_ ?_);rotate_left 1;focus (simp only [Zu,Nat.reduceSub,Nat.reduceBEq];with_reducible rfl))|((with_reducible first|refine QS (cfg_ok 27) (Tab.none.at' 12 hsm) (s':=?_) ?_ ?_|refine QC (b:=?_) ?_ ?_);rotate_left 1;focus ((with_reducible refine QW ?_);simp only [Zg,seval,if_true,if_false,reduceCtorEq,Nat.reduceEqDiff,hfm,hgm,i1,i1',i2,hgs,hgt,hw,Int.toNat_natCast];with_reducible rfl))|((with_reducible refine QD (cfg_ok 27) (Tab.none.at' 12 hsm) mixed_ok (tr:=?_) (s':=?_) ?_ ?_ ?_);rotate_left 2;(focus ((with_reducible refine QW ?_);simp only [Zg,Zd,seval,if_true,if_false,reduceCtorEq,Nat.reduceEqDiff,hfm,hgm,i1,i1',i2,hgs,hgt,hw,Int.toNat_natCast];with_reducible rfl));focus ((with_reducible refine QK ?_);simp only [Zk];kernel_rfl)))
     refine roundK.on (i + 1) ⟨⟨h,?_⟩,by omega⟩ ?_
     ·rw [List.take_succ_eq_append_getElem h,List.take_succ_eq_append_getElem h2,ht,← hs,← htt,hst]
     ·(repeat' (first|with_reducible refine Qn|((with_reducible refine Qr ?_ ?_);focus (first|with_reducible rfl|(simp only [Zz,Nat.reduceBEq];done)|rfl))|((with_reducible refine Qj (o':=?_) ?_ ?_ ?_);rotate_left 1;focus rfl)|((with_reducible refine Qw ?_ ?_);(focus (first|with_reducible rfl|(simp only [Zv];done)));focus (first|exact id|exact (fun h => nomatch h)|exact (fun _ => rfl)))))
    ·rw [decide_eq_false hst] at hsm
     have hne:f ≠ g:=fun e => hst (by rw [hs,htt];subst e;rfl)
     rw [decide_eq_false hne]
     repeat' (first|with_reducible (first|refine Q1 ?_|refine Q2 ?_|refine Q3 ?_|refine Q4 ?_|refine Q5 ?_|refine Q6 ?_|refine Q7 ?_|refine Q8 ?_|refine Q9 ?_|refine Qa ?_|refine Qb ?_|refine Qc ?_|refine Qd ?_|refine Qe ?_|refine Qf ?_)|((with_reducible refine Qo ?_ ?_);focus rfl)|((with_reducible first|refine QT 6 (l:=?_) ?_ ?_|refine QF 6 (l:=?_) ?_ ?_);rotate_left 1;focus (simp only [Zu,Nat.reduceSub,Nat.reduceBEq];with_reducible rfl))|((with_reducible first|refine QS (cfg_ok 27) (Tab.none.at' 12 hsm) (s':=?_) ?_ ?_|refine QC (b:=?_) ?_ ?_);rotate_left 1;focus ((with_reducible refine QW ?_);simp only [Zg,seval,if_true,if_false,reduceCtorEq,Nat.reduceEqDiff,hfm,hgm,i1,i1',i2,hgs,hgt,hw,Int.toNat_natCast];with_reducible rfl))|((with_reducible refine QD (cfg_ok 27) (Tab.none.at' 12 hsm) mixed_ok (tr:=?_) (s':=?_) ?_ ?_ ?_);rotate_left 2;(focus ((with_reducible refine QW ?_);simp only [Zg,Zd,seval,if_true,if_false,reduceCtorEq,Nat.reduceEqDiff,hfm,hgm,i1,i1',i2,hgs,hgt,hw,Int.toNat_natCast];with_reducible rfl));focus ((with_reducible refine QK ?_);simp only [Zk];kernel_rfl)))
     refine roundK.ret ?_
     repeat' (first|with_reducible (first|refine Q1 ?_|refine Q2 ?_|refine Q3 ?_|refine Q4 ?_|refine Q5 ?_|refine Q6 ?_|refine Q7 ?_|refine Q8 ?_|refine Q9 ?_|refine Qa ?_|refine Qb ?_|refine Qc ?_|refine Qd ?_|refine Qe ?_|refine Qf ?_)|((with_reducible refine Qo ?_ ?_);focus rfl)|((with_reducible first|refine QT 6 (l:=?_) ?_ ?_|refine QF 6 (l:=?_) ?_ ?_);rotate_left 1;focus (simp only [Zu,Nat.reduceSub,Nat.reduceBEq];with_reducible rfl))|((with_reducible first|refine QS (cfg_ok 27) Tab.none (s':=?_) ?_ ?_|refine QC (b:=?_) ?_ ?_);rotate_left 1;focus ((with_reducible refine QW ?_);simp only [Zg,seval,if_true,if_false,reduceCtorEq,Nat.reduceEqDiff];with_reducible rfl))|((with_reducible refine QD (cfg_ok 27) Tab.none mixed_ok (tr:=?_) (s':=?_) ?_ ?_ ?_);rotate_left 2;(focus ((with_reducible refine QW ?_);simp only [Zg,Zd,seval,if_true,if_false,reduceCtorEq,Nat.reduceEqDiff];with_reducible rfl));focus ((with_reducible refine QK ?_);simp only [Zk];kernel_rfl)))
     (refine Ends.mk (by simp) (rs:=?_) (ks:=?_) hres hrts ?_ ?_ ?_;rotate_left 2;(focus (simp only [Ze,Zg,seval,if_true,if_false,reduceCtorEq,Nat.reduceEqDiff];with_reducible rfl));(focus simp);focus (first|with_reducible rfl|(simp only [Zv];done)))
   ·have i1:((i:Int) < (f.length:Int)) = False:=eq_false (by omega)
    obtain rfl:i = f.length:=by omega
    repeat' (first|with_reducible (first|refine Q1 ?_|refine Q2 ?_|refine Q3 ?_|refine Q4 ?_|refine Q5 ?_|refine Q6 ?_|refine Q7 ?_|refine Q8 ?_|refine Q9 ?_|refine Qa ?_|refine Qb ?_|refine Qc ?_|refine Qd ?_|refine Qe ?_|refine Qf ?_)|((with_reducible refine Qo ?_ ?_);focus rfl)|((with_reducible first|refine QT 6 (l:=?_) ?_ ?_|refine QF 6 (l:=?_) ?_ ?_);rotate_left 1;focus (simp only [Zu,Nat.reduceSub,Nat.reduceBEq];with_reducible rfl))|((with_reducible first|refine QS (cfg_ok 27) Tab.none (s':=?_) ?_ ?_|refine QC (b:=?_) ?_ ?_);rotate_left 1;focus ((with_reducible refine QW ?_);simp only [Zg,seval,if_true,if_false,reduceCtorEq,Nat.reduceEqDiff,hfm,i1];with_reducible rfl))|((with_reducible refine QD (cfg_ok 27) Tab.none mixed_ok (tr:=?_) (s':=?_) ?_ ?_ ?_);rotate_left 2;(focus ((with_reducible refine QW ?_);simp only [Zg,Zd,seval,if_true,if_false,reduceCtorEq,Nat.reduceEqDiff,hfm,i1];with_reducible rfl));focus ((with_reducible refine QK ?_);simp only [Zk];kernel_rfl)))
    refine roundK.out () ?_ ?_
    ·rw [List.take_length,hl,List.take_length] at ht;exact ht
    ·(repeat' (first|with_reducible refine Qn|((with_reducible refine Qr ?_ ?_);focus (first|with_reducible rfl|(simp only [Zz,Nat.reduceBEq];done)|rfl))|((with_reducible refine Qj (o':=?_) ?_ ?_ ?_);rotate_left 1;focus rfl)|((with_reducible refine Qw ?_ ?_);(focus (first|with_reducible rfl|(simp only [Zv];done)));focus (first|exact id|exact (fun h => nomatch h)|exact (fun _ => rfl)))))
  ·rintro _ hfg
   rw [decide_eq_true hfg]
   repeat' (first|with_reducible (first|refine Q1 ?_|refine Q2 ?_|refine Q3 ?_|refine Q4 ?_|refine Q5 ?_|refine Q6 ?_|refine Q7 ?_|refine Q8 ?_|refine Q9 ?_|refine Qa ?_|refine Qb ?_|refine Qc ?_|refine Qd ?_|refine Qe ?_|refine Qf ?_)|((with_reducible refine Qo ?_ ?_);focus rfl)|((with_reducible first|refine QT 6 (l:=?_) ?_ ?_|refine QF 6 (l:=?_) ?_ ?_);rotate_left 1;focus (simp only [Zu,Nat.reduceSub,Nat.reduceBEq];with_reducible rfl))|((with_reducible first|refine QS (cfg_ok 27) Tab.none (s':=?_) ?_ ?_|refine QC (b:=?_) ?_ ?_);rotate_left 1;focus ((with_reducible refine QW ?_);simp only [Zg,seval,if_true,if_false,reduceCtorEq,Nat.reduceEqDiff];with_reducible rfl))|((with_reducible refine QD (cfg_ok 27) Tab.none mixed_ok (tr:=?_) (s':=?_) ?_ ?_ ?_);rotate_left 2;(focus ((with_reducible refine QW ?_);simp only [Zg,Zd,seval,if_true,if_false,reduceCtorEq,Nat.reduceEqDiff];with_reducible rfl));focus ((with_reducible refine QK ?_);simp only [Zk];kernel_rfl)))
   (refine Ends.mk (by simp) (rs:=?_) (ks:=?_) hres hrts ?_ ?_ ?_;rotate_left 2;(focus (simp only [Ze,Zg,seval,if_true,if_false,reduceCtorEq,Nat.reduceEqDiff];with_reducible rfl));(focus simp);focus (first|with_reducible rfl|(simp only [Zv];done)))
 ·have hb:((f.length:Int) != (g.length:Int)) = true:=by simp;omega
  have hne:f ≠ g:=fun e => hl (by rw [e])
  rw [decide_eq_false hne]
  repeat' (first|with_reducible (first|refine Q1 ?_|refine Q2 ?_|refine Q3 ?_|refine Q4 ?_|refine Q5 ?_|refine Q6 ?_|refine Q7 ?_|refine Q8 ?_|refine Q9 ?_|refine Qa ?_|refine Qb ?_|refine Qc ?_|refine Qd ?_|refine Qe ?_|refine Qf ?_)|((with_reducible refine Qo ?_ ?_);focus rfl)|((with_reducible first|refine QT 6 (l:=?_) ?_ ?_|refine QF 6 (l:=?_) ?_ ?_);rotate_left 1;focus (simp only [Zu,Nat.reduceSub,Nat.reduceBEq];with_reducible rfl))|((with_reducible first|refine QS (cfg_ok 27) Tab.none (s':=?_) ?_ ?_|refine QC (b:=?_) ?_ ?_);rotate_left 1;focus ((with_reducible refine QW ?_);simp only [Zg,seval,if_true,if_false,reduceCtorEq,Nat.reduceEqDiff,hfm,hgm,hb];with_reducible rfl))|((with_reducible refine QD (cfg_ok 27) Tab.none mixed_ok (tr:=?_) (s':=?_) ?_ ?_ ?_);rotate_left 2;(focus ((with_reducible refine QW ?_);simp only [Zg,Zd,seval,if_true,if_false,reduceCtorEq,Nat.reduceEqDiff,hfm,hgm,hb];with_reducible rfl));focus ((with_reducible refine QK ?_);simp only [Zk];kernel_rfl)))
  (refine Ends.mk (by simp) (rs:=?_) (ks:=?_) hres hrts ?_ ?_ ?_;rotate_left 2;(focus (simp only [Ze,Zg,seval,if_true,if_false,reduceCtorEq,Nat.reduceEqDiff];with_reducible rfl));(focus simp);focus (first|with_reducible rfl|(simp only [Zv];done)))
end Go.Proofs.Ytedgfkpfhonlpaa
namespace Go.Proofs.Ytedgfkpfhonlpaa
open Go.RowKit
def viaK (P:Program) (cfg:Cfg) (M:Nat→Prop) (b:Code) (fs:List Fr) (Q:Exit→St→Prop) (s1:St):Exit→St→Prop
 | .normal,s => Fits s s1
 | e,s => outK P cfg M (.seq b :: fs) Q e s
theorem RunK.via {P:Program} {cfg:Cfg} {M:Nat→Prop} {a b:Code} {fs:List Fr} {Q:Exit→St→Prop} {s:St} (s1:St) (h1:RunK P cfg M a [] (viaK P cfg M b fs Q s1) s) (h2:RunK P cfg M b fs Q s1):RunK P cfg M a (.seq b :: fs) Q s :=
 Runs.monoF (Q1:=viaK P cfg M b fs Q s1) h1 fun e s' h => by
  cases e with
  | normal => exact ⟨s1,.inr h,h2⟩
  | _ => exact ⟨s',.inl rfl,h⟩
theorem viaK.on {P:Program} {cfg:Cfg} {M:Nat→Prop} {b:Code} {fs:List Fr} {Q:Exit→St→Prop} {s s1:St} (h:Fits s s1):outK P cfg M [] (viaK P cfg M b fs Q s1) .normal s:=h
theorem viaK.ret {P:Program} {cfg:Cfg} {M:Nat→Prop} {b:Code} {fs:List Fr} {Q:Exit→St→Prop} {s s1:St} (h:outK P cfg M (.seq b :: fs) Q .ret s):outK P cfg M [] (viaK P cfg M b fs Q s1) .ret s:=h
end Go.Proofs.Ytedgfkpfhonlpaa
