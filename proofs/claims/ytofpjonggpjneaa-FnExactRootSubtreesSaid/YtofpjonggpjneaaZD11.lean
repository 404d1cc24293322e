/- Lemmas (11). -/
import Derived.Test.YtofpjonggpjneaaZD1
import Derived.Test.YtofpjonggpjneaaZD2
import Derived.Test.YtofpjonggpjneaaZD6
import Derived.Test.YtofpjonggpjneaaZD7
import Derived.Test.YtofpjonggpjneaaZD8
import Derived.Test.YtofpjonggpjneaaZD9
import Derived.Test.YtofpjonggpjneaaZD10
set_option linter.unusedSimpArgs false
set_option linter.unusedVariables false
namespace Go.Proofs.Ytofpjonggpjneaa
open Go.RowKit
noncomputable def T0:Tab Try.prog :=
 ((Tab.none.add 124 (tab2 codL codL fun xs ys => some [.val (.bool (decide (cmpT xs ys < 0)))]) (tab2_ok fun xs ys rs h => by cases h;exact a_l03Before xs ys)).add
   182 (tab2 codL codL fun xs ys => some [.val (.bool (decide (xs = ys)))]) (tab2_ok fun xs ys rs h => by cases h;exact a_l01Same xs ys)).add
   164 (tab1 codL fun xs => if xs.length ≤ 1000000000 then some [.own 1 (xs.map eI) true] else none) (tab1_ok fun xs rs h => by split at h;cases h;exact a_l01Own xs ‹_›;cases h)
set_option maxHeartbeats 2000000 in
theorem a_l04Put (s:List (List Int × Int)) (t:List Int) (n:Int) (hr:RiseC s) (hsz:s.length ≤ 1000) (htz:t.length ≤ 1000) (hadd:∀ z ∈ s,In64 (z.2 + n)):AFn Try.prog 145 [[.sl 2 (s.map eCt)],eL t,eI n] (· = [.own 2 ((putC s t n).map eCt) false]):=by
 refine AFn.of_runs (cfg_ok 92) Try.func145 rfl rfl rfl (by simp only [List.length_cons,List.length_nil];decide) ?_
 have hres:Try.f145.results.toList = [.tmp 6]:=rfl
 have hrts:Try.f145.resultTypes.toList = [40]:=rfl
 simp only [argRegs,argAV1,eL,eI,eLL,eB,Nat.zero_add,Nat.reduceAdd]
 intro M
 refine RunK.of ?_
 repeat' (first|with_reducible (first|refine Q1 ?_|refine Q2 ?_|refine Q3 ?_|refine Q4 ?_|refine Q5 ?_|refine Q6 ?_|refine Q7 ?_|refine Q8 ?_|refine Q9 ?_|refine Qa ?_|refine Qb ?_|refine Qc ?_|refine Qd ?_|refine Qe ?_|refine Qf ?_)|((with_reducible refine Qo ?_ ?_);focus rfl)|((with_reducible first|refine QT 11 (l:=?_) ?_ ?_|refine QF 11 (l:=?_) ?_ ?_);rotate_left 1;focus (simp only [Zu,Nat.reduceSub,Nat.reduceBEq];with_reducible rfl))|((with_reducible first|refine QS (cfg_ok 92) T0 (s':=?_) ?_ ?_|refine QC (b:=?_) ?_ ?_);rotate_left 1;focus ((with_reducible refine QW ?_);simp only [Zg,seval,if_true,if_false,reduceCtorEq,Nat.reduceEqDiff,T0];with_reducible rfl))|((with_reducible refine QD (cfg_ok 92) T0 mixed_ok (tr:=?_) (s':=?_) ?_ ?_ ?_);rotate_left 2;(focus ((with_reducible refine QW ?_);simp only [Zg,Zd,seval,if_true,if_false,reduceCtorEq,Nat.reduceEqDiff,T0];with_reducible rfl));focus ((with_reducible refine QK ?_);simp only [Zk];kernel_rfl)))
 refine RunK.loop (β:=Nat) (γ:=Nat) (fun i => ⟨[(0,.c (.val (.sl 2 (s.map eCt)))),(1,.c (.val (.sl 1 (t.map eI)))),(2,.c (.val (.int n))),(7,.c (.val (.int i)))],[]⟩) (fun i => i ≤ s.length∧∀ z ∈ s.take i,cmpT z.1 t < 0) (fun i => s.length - i)
  (fun i => ⟨[(0,.c (.val (.sl 2 (s.map eCt)))),(1,.c (.val (.sl 1 (t.map eI)))),(2,.c (.val (.int n))),(7,.c (.val (.int i)))],[]⟩) (fun i => i ≤ s.length∧(∀ z ∈ s.take i,cmpT z.1 t < 0)∧∀ h:i < s.length,¬ cmpT s[i].1 t < 0) 0 ⟨Nat.zero_le _,by simp⟩ ?_ ?_ ?_
 ·(repeat' (first|with_reducible refine Qn|((with_reducible refine Qr ?_ ?_);focus (first|with_reducible rfl|(simp only [Zz,Nat.reduceBEq];done)|rfl))|((with_reducible refine Qj (o':=?_) ?_ ?_ ?_);rotate_left 1;focus rfl)|((with_reducible refine Qw ?_ ?_);(focus (first|with_reducible rfl|(simp only [Zv];done)));focus (first|exact id|exact (fun h => nomatch h)|exact (fun _ => rfl)))))
 ·rintro i ⟨hi,hlow⟩
  have hw:=w64_succ (n:=i) (by omega)
  by_cases h:i < s.length
  ·by_cases hc:cmpT s[i].1 t < 0
   ·repeat' (first|with_reducible (first|refine Q1 ?_|refine Q2 ?_|refine Q3 ?_|refine Q4 ?_|refine Q5 ?_|refine Q6 ?_|refine Q7 ?_|refine Q8 ?_|refine Q9 ?_|refine Qa ?_|refine Qb ?_|refine Qc ?_|refine Qd ?_|refine Qe ?_|refine Qf ?_)|((with_reducible refine Qo ?_ ?_);focus rfl)|((with_reducible first|refine QT 11 (l:=?_) ?_ ?_|refine QF 11 (l:=?_) ?_ ?_);rotate_left 1;focus (simp only [Zu,Nat.reduceSub,Nat.reduceBEq];with_reducible rfl))|((with_reducible first|refine QS (cfg_ok 92) T0 (s':=?_) ?_ ?_|refine QC (b:=?_) ?_ ?_);rotate_left 1;focus ((with_reducible refine QW ?_);simp only [Zg,seval,if_true,if_false,reduceCtorEq,Nat.reduceEqDiff,T0,List.length_map,Int.ofNat_lt,h,hc,Int.natCast_nonneg,Int.toNat_natCast,List.getElem?_map,List.getElem?_eq_getElem h,eCt,hw];with_reducible rfl))|((with_reducible refine QD (cfg_ok 92) T0 mixed_ok (tr:=?_) (s':=?_) ?_ ?_ ?_);rotate_left 2;(focus ((with_reducible refine QW ?_);simp only [Zg,Zd,seval,if_true,if_false,reduceCtorEq,Nat.reduceEqDiff,T0,List.length_map,Int.ofNat_lt,h,hc,Int.natCast_nonneg,Int.toNat_natCast,List.getElem?_map,List.getElem?_eq_getElem h,eCt,hw];with_reducible rfl));focus ((with_reducible refine QK ?_);simp only [Zk];kernel_rfl)))
    refine roundK.on (i + 1) ⟨⟨h,?_⟩,by omega⟩ ?_
    ·intro z hz
     rw [List.take_succ_eq_append_getElem h,List.mem_append,List.mem_singleton] at hz
     rcases hz with hz|rfl
     ·exact hlow z hz
     ·exact hc
    ·(repeat' (first|with_reducible refine Qn|((with_reducible refine Qr ?_ ?_);focus (first|with_reducible rfl|(simp only [Zz,Nat.reduceBEq];done)|rfl))|((with_reducible refine Qj (o':=?_) ?_ ?_ ?_);rotate_left 1;focus rfl)|((with_reducible refine Qw ?_ ?_);(focus (first|with_reducible rfl|(simp only [Zv];done)));focus (first|exact id|exact (fun h => nomatch h)|exact (fun _ => rfl)))))
   ·repeat' (first|with_reducible (first|refine Q1 ?_|refine Q2 ?_|refine Q3 ?_|refine Q4 ?_|refine Q5 ?_|refine Q6 ?_|refine Q7 ?_|refine Q8 ?_|refine Q9 ?_|refine Qa ?_|refine Qb ?_|refine Qc ?_|refine Qd ?_|refine Qe ?_|refine Qf ?_)|((with_reducible refine Qo ?_ ?_);focus rfl)|((with_reducible first|refine QT 11 (l:=?_) ?_ ?_|refine QF 11 (l:=?_) ?_ ?_);rotate_left 1;focus (simp only [Zu,Nat.reduceSub,Nat.reduceBEq];with_reducible rfl))|((with_reducible first|refine QS (cfg_ok 92) T0 (s':=?_) ?_ ?_|refine QC (b:=?_) ?_ ?_);rotate_left 1;focus ((with_reducible refine QW ?_);simp only [Zg,seval,if_true,if_false,reduceCtorEq,Nat.reduceEqDiff,T0,List.length_map,Int.ofNat_lt,h,hc,Int.natCast_nonneg,Int.toNat_natCast,List.getElem?_map,List.getElem?_eq_getElem h,eCt,hw];with_reducible rfl))|((with_reducible refine QD (cfg_ok 92) T0 mixed_ok (tr:=?_) (s':=?_) ?_ ?_ ?_);rotate_left 2;(focus ((with_reducible refine QW ?_);simp only [Zg,Zd,seval,if_true,if_false,reduceCtorEq,Nat.reduceEqDiff,T0,List.length_map,Int.ofNat_lt,h,hc,Int.natCast_nonneg,Int.toNat_natCast,List.getElem?_map,List.getElem?_eq_getElem h,eCt,hw];with_reducible rfl));focus ((with_reducible refine QK ?_);simp only [Zk];kernel_rfl)))
    refine roundK.out i ⟨hi,hlow,fun _ => hc⟩ ?_
    (repeat' (first|with_reducible refine Qn|((with_reducible refine Qr ?_ ?_);focus (first|with_reducible rfl|(simp only [Zz,Nat.reduceBEq];done)|rfl))|((with_reducible refine Qj (o':=?_) ?_ ?_ ?_);rotate_left 1;focus rfl)|((with_reducible refine Qw ?_ ?_);(focus (first|with_reducible rfl|(simp only [Zv];done)));focus (first|exact id|exact (fun h => nomatch h)|exact (fun _ => rfl)))))
  ·repeat' (first|with_reducible (first|refine Q1 ?_|refine Q2 ?_|refine Q3 ?_|refine Q4 ?_|refine Q5 ?_|refine Q6 ?_|refine Q7 ?_|refine Q8 ?_|refine Q9 ?_|refine Qa ?_|refine Qb ?_|refine Qc ?_|refine Qd ?_|refine Qe ?_|refine Qf ?_)|((with_reducible refine Qo ?_ ?_);focus rfl)|((with_reducible first|refine QT 11 (l:=?_) ?_ ?_|refine QF 11 (l:=?_) ?_ ?_);rotate_left 1;focus (simp only [Zu,Nat.reduceSub,Nat.reduceBEq];with_reducible rfl))|((with_reducible first|refine QS (cfg_ok 92) T0 (s':=?_) ?_ ?_|refine QC (b:=?_) ?_ ?_);rotate_left 1;focus ((with_reducible refine QW ?_);simp only [Zg,seval,if_true,if_false,reduceCtorEq,Nat.reduceEqDiff,T0,List.length_map,Int.ofNat_lt,h,Int.natCast_nonneg,Int.toNat_natCast,List.getElem?_map,eCt,hw];with_reducible rfl))|((with_reducible refine QD (cfg_ok 92) T0 mixed_ok (tr:=?_) (s':=?_) ?_ ?_ ?_);rotate_left 2;(focus ((with_reducible refine QW ?_);simp only [Zg,Zd,seval,if_true,if_false,reduceCtorEq,Nat.reduceEqDiff,T0,List.length_map,Int.ofNat_lt,h,Int.natCast_nonneg,Int.toNat_natCast,List.getElem?_map,eCt,hw];with_reducible rfl));focus ((with_reducible refine QK ?_);simp only [Zk];kernel_rfl)))
   refine roundK.out i ⟨hi,hlow,fun h' => absurd h' h⟩ ?_
   (repeat' (first|with_reducible refine Qn|((with_reducible refine Qr ?_ ?_);focus (first|with_reducible rfl|(simp only [Zz,Nat.reduceBEq];done)|rfl))|((with_reducible refine Qj (o':=?_) ?_ ?_ ?_);rotate_left 1;focus rfl)|((with_reducible refine Qw ?_ ?_);(focus (first|with_reducible rfl|(simp only [Zv];done)));focus (first|exact id|exact (fun h => nomatch h)|exact (fun _ => rfl)))))
 ·rintro k ⟨hk,hlow,hhigh⟩
  repeat' (first|with_reducible (first|refine Q1 ?_|refine Q2 ?_|refine Q3 ?_|refine Q4 ?_|refine Q5 ?_|refine Q6 ?_|refine Q7 ?_|refine Q8 ?_|refine Q9 ?_|refine Qa ?_|refine Qb ?_|refine Qc ?_|refine Qd ?_|refine Qe ?_|refine Qf ?_)|((with_reducible refine Qo ?_ ?_);focus rfl)|((with_reducible first|refine QT 11 (l:=?_) ?_ ?_|refine QF 11 (l:=?_) ?_ ?_);rotate_left 1;focus (simp only [Zu,Nat.reduceSub,Nat.reduceBEq];with_reducible rfl))|((with_reducible first|refine QS (cfg_ok 92) T0 (s':=?_) ?_ ?_|refine QC (b:=?_) ?_ ?_);rotate_left 1;focus ((with_reducible refine QW ?_);simp only [Zg,seval,if_true,if_false,reduceCtorEq,Nat.reduceEqDiff,T0];with_reducible rfl))|((with_reducible refine QD (cfg_ok 92) T0 mixed_ok (tr:=?_) (s':=?_) ?_ ?_ ?_);rotate_left 2;(focus ((with_reducible refine QW ?_);simp only [Zg,Zd,seval,if_true,if_false,reduceCtorEq,Nat.reduceEqDiff,T0];with_reducible rfl));focus ((with_reducible refine QK ?_);simp only [Zk];kernel_rfl)))
  refine RunK.loop (β:=Nat) (γ:=Nat) (fun i => ⟨[(0,.c (.val (.sl 2 (s.map eCt)))),(1,.c (.val (.sl 1 (t.map eI)))),(2,.c (.val (.int n))),(7,.c (.val (.int k))),(8,.c (.own 8 (putTo s t n k i).length)),(9,.c (.val (.int i)))],[(8,.row 2 ((putTo s t n k i).map eCt) false)]⟩) (fun i => i ≤ s.length) (fun i => s.length - i)
   (fun i => ⟨[(0,.c (.val (.sl 2 (s.map eCt)))),(1,.c (.val (.sl 1 (t.map eI)))),(2,.c (.val (.int n))),(7,.c (.val (.int k))),(8,.c (.own 8 (putTo s t n k i).length)),(9,.c (.val (.int i)))],[(8,.row 2 ((putTo s t n k i).map eCt) false)]⟩) (fun i => i = s.length) 0 (Nat.zero_le _) ?_ ?_ ?_
  ·(repeat' (first|with_reducible refine Qn|((with_reducible refine Qr ?_ ?_);focus (first|with_reducible rfl|(simp only [Zz,Nat.reduceBEq,putTo];done)|rfl))|((with_reducible refine Qj (o':=?_) ?_ ?_ ?_);rotate_left 1;focus rfl)|((with_reducible refine Qw ?_ ?_);(focus (first|with_reducible rfl|(simp only [Zv,putTo];done)));focus (first|exact id|exact (fun h => nomatch h)|exact (fun _ => rfl)))))
  ·rintro i hi
   have hw:=w64_succ (n:=i) (by omega)
   have hpl:=putTo_len s t n k i
   have hpl':(putTo s t n k i).length ≤ 2000:=by split at hpl <;> omega
   have q1:=big_le (n:=(putTo s t n k i).length + 1) (by omega)
   have q2:=big_mul (n:=(putTo s t n k i).length + 1) (c:=32) (by omega) (by omega)
   have q3:=big_le (n:=(putTo s t n k i).length + 1 + 1) (by omega)
   have q4:=big_mul (n:=(putTo s t n k i).length + 1 + 1) (c:=32) (by omega) (by omega)
   have ht1:=eq_true (show t.length ≤ 1000000000 by omega)
   by_cases h:i < s.length
   ·have hg:s.getD i ([],0) = s[i]:=by simp [List.getD,h]
    have hn:=hadd s[i] (List.getElem_mem _)
    have hn2:=w64_eq hn
    have hs1:putTo s t n k (i + 1) = (if i = k∧s[i].1 ≠ t then putTo s t n k i ++ [(t,n)] else putTo s t n k i) ++ [putEl t n s[i]]:=by rw [← hg];rfl
    by_cases he:s[i].1 = t
    ·have hs2:putTo s t n k (i + 1) = putTo s t n k i ++ [(t,s[i].2 + n)]:=by
      rw [hs1,if_neg (fun h => h.2 he)];unfold putEl;rw [if_pos he,he]
     by_cases hk2:i = k
     ·subst hk2
      repeat' (first|with_reducible (first|refine Q1 ?_|refine Q2 ?_|refine Q3 ?_|refine Q4 ?_|refine Q5 ?_|refine Q6 ?_|refine Q7 ?_|refine Q8 ?_|refine Q9 ?_|refine Qa ?_|refine Qb ?_|refine Qc ?_|refine Qd ?_|refine Qe ?_|refine Qf ?_)|((with_reducible refine Qo ?_ ?_);focus rfl)|((with_reducible first|refine QT 11 (l:=?_) ?_ ?_|refine QF 11 (l:=?_) ?_ ?_);rotate_left 1;focus (simp only [Zu,Nat.reduceSub,Nat.reduceBEq];with_reducible rfl))|((with_reducible first|refine QS (cfg_ok 92) T0 (s':=?_) ?_ ?_|refine QC (b:=?_) ?_ ?_);rotate_left 1;focus ((with_reducible refine QW ?_);simp only [Zg,seval,if_true,if_false,reduceCtorEq,Nat.reduceEqDiff,T0,List.length_map,Int.ofNat_lt,h,Int.natCast_nonneg,Int.toNat_natCast,map_get h,eCt,hw,he,hn2,q1,q2,ht1];with_reducible rfl))|((with_reducible refine QD (cfg_ok 92) T0 mixed_ok (tr:=?_) (s':=?_) ?_ ?_ ?_);rotate_left 2;(focus ((with_reducible refine QW ?_);simp only [Zg,Zd,seval,if_true,if_false,reduceCtorEq,Nat.reduceEqDiff,T0,List.length_map,Int.ofNat_lt,h,Int.natCast_nonneg,Int.toNat_natCast,map_get h,eCt,hw,he,hn2,q1,q2,ht1];with_reducible rfl));focus ((with_reducible refine QK ?_);simp only [Zk];kernel_rfl)))
      refine roundK.on (i + 1) ⟨h,by omega⟩ ?_
      rw [hs2]
      (repeat' (first|with_reducible refine Qn|((with_reducible refine Qr ?_ ?_);focus (first|with_reducible rfl|(simp only [Zz,Nat.reduceBEq,eCt];done)|rfl))|((with_reducible refine Qj (o':=?_) ?_ ?_ ?_);rotate_left 1;focus rfl)|((with_reducible refine Qw ?_ ?_);(focus (first|with_reducible rfl|(simp only [Zv,eCt];done)));focus (first|exact id|exact (fun h => nomatch h)|exact (fun _ => rfl)))))
     ·have hb:((i:Int) == (k:Int)) = false:=beq_eq_false_iff_ne.2 (by omega)
      repeat' (first|with_reducible (first|refine Q1 ?_|refine Q2 ?_|refine Q3 ?_|refine Q4 ?_|refine Q5 ?_|refine Q6 ?_|refine Q7 ?_|refine Q8 ?_|refine Q9 ?_|refine Qa ?_|refine Qb ?_|refine Qc ?_|refine Qd ?_|refine Qe ?_|refine Qf ?_)|((with_reducible refine Qo ?_ ?_);focus rfl)|((with_reducible first|refine QT 11 (l:=?_) ?_ ?_|refine QF 11 (l:=?_) ?_ ?_);rotate_left 1;focus (simp only [Zu,Nat.reduceSub,Nat.reduceBEq];with_reducible rfl))|((with_reducible first|refine QS (cfg_ok 92) T0 (s':=?_) ?_ ?_|refine QC (b:=?_) ?_ ?_);rotate_left 1;focus ((with_reducible refine QW ?_);simp only [Zg,seval,if_true,if_false,reduceCtorEq,Nat.reduceEqDiff,T0,List.length_map,Int.ofNat_lt,h,Int.natCast_nonneg,Int.toNat_natCast,map_get h,eCt,hw,he,hb,hn2,q1,q2,ht1];with_reducible rfl))|((with_reducible refine QD (cfg_ok 92) T0 mixed_ok (tr:=?_) (s':=?_) ?_ ?_ ?_);rotate_left 2;(focus ((with_reducible refine QW ?_);simp only [Zg,Zd,seval,if_true,if_false,reduceCtorEq,Nat.reduceEqDiff,T0,List.length_map,Int.ofNat_lt,h,Int.natCast_nonneg,Int.toNat_natCast,map_get h,eCt,hw,he,hb,hn2,q1,q2,ht1];with_reducible rfl));focus ((with_reducible refine QK ?_);simp only [Zk];kernel_rfl)))
      refine roundK.on (i + 1) ⟨h,by omega⟩ ?_
      rw [hs2]
      (repeat' (first|with_reducible refine Qn|((with_reducible refine Qr ?_ ?_);focus (first|with_reducible rfl|(simp only [Zz,Nat.reduceBEq,eCt];done)|rfl))|((with_reducible refine Qj (o':=?_) ?_ ?_ ?_);rotate_left 1;focus rfl)|((with_reducible refine Qw ?_ ?_);(focus (first|with_reducible rfl|(simp only [Zv,eCt];done)));focus (first|exact id|exact (fun h => nomatch h)|exact (fun _ => rfl)))))
    ·by_cases hk2:i = k
     ·subst hk2
      repeat' (first|with_reducible (first|refine Q1 ?_|refine Q2 ?_|refine Q3 ?_|refine Q4 ?_|refine Q5 ?_|refine Q6 ?_|refine Q7 ?_|refine Q8 ?_|refine Q9 ?_|refine Qa ?_|refine Qb ?_|refine Qc ?_|refine Qd ?_|refine Qe ?_|refine Qf ?_)|((with_reducible refine Qo ?_ ?_);focus rfl)|((with_reducible first|refine QT 11 (l:=?_) ?_ ?_|refine QF 11 (l:=?_) ?_ ?_);rotate_left 1;focus (simp only [Zu,Nat.reduceSub,Nat.reduceBEq];with_reducible rfl))|((with_reducible first|refine QS (cfg_ok 92) T0 (s':=?_) ?_ ?_|refine QC (b:=?_) ?_ ?_);rotate_left 1;focus ((with_reducible refine QW ?_);simp only [Zg,seval,if_true,if_false,reduceCtorEq,Nat.reduceEqDiff,T0,List.length_map,List.length_append,Int.ofNat_lt,h,Int.natCast_nonneg,Int.toNat_natCast,map_get h,eCt,hw,he,hn2,q1,q2,q3,q4,ht1];with_reducible rfl))|((with_reducible refine QD (cfg_ok 92) T0 mixed_ok (tr:=?_) (s':=?_) ?_ ?_ ?_);rotate_left 2;(focus ((with_reducible refine QW ?_);simp only [Zg,Zd,seval,if_true,if_false,reduceCtorEq,Nat.reduceEqDiff,T0,List.length_map,List.length_append,Int.ofNat_lt,h,Int.natCast_nonneg,Int.toNat_natCast,map_get h,eCt,hw,he,hn2,q1,q2,q3,q4,ht1];with_reducible rfl));focus ((with_reducible refine QK ?_);simp only [Zk];kernel_rfl)))
      refine roundK.on (i + 1) ⟨h,by omega⟩ ?_
      rw [hs1,if_pos ⟨rfl,he⟩,putEl_ne he]
      (repeat' (first|with_reducible refine Qn|((with_reducible refine Qr ?_ ?_);focus (first|with_reducible rfl|(simp only [Zz,Nat.reduceBEq,eCt];done)|rfl))|((with_reducible refine Qj (o':=?_) ?_ ?_ ?_);rotate_left 1;focus rfl)|((with_reducible refine Qw ?_ ?_);(focus (first|with_reducible rfl|(simp only [Zv,eCt];done)));focus (first|exact id|exact (fun h => nomatch h)|exact (fun _ => rfl)))))
     ·have hb:((i:Int) == (k:Int)) = false:=beq_eq_false_iff_ne.2 (by omega)
      repeat' (first|with_reducible (first|refine Q1 ?_|refine Q2 ?_|refine Q3 ?_|refine Q4 ?_|refine Q5 ?_|refine Q6 ?_|refine Q7 ?_|refine Q8 ?_|refine Q9 ?_|refine Qa ?_|refine Qb ?_|refine Qc ?_|refine Qd ?_|refine Qe ?_|refine Qf ?_)|((with_reducible refine Qo ?_ ?_);focus rfl)|((with_reducible first|refine QT 11 (l:=?_) ?_ ?_|refine QF 11 (l:=?_) ?_ ?_);rotate_left 1;focus (simp only [Zu,Nat.reduceSub,Nat.reduceBEq];with_reducible rfl))|((with_reducible first|refine QS (cfg_ok 92) T0 (s':=?_) ?_ ?_|refine QC (b:=?_) ?_ ?_);rotate_left 1;focus ((with_reducible refine QW ?_);simp only [Zg,seval,if_true,if_false,reduceCtorEq,Nat.reduceEqDiff,T0,List.length_map,Int.ofNat_lt,h,Int.natCast_nonneg,Int.toNat_natCast,map_get h,eCt,hw,he,hb,hn2,q1,q2,ht1];with_reducible rfl))|((with_reducible refine QD (cfg_ok 92) T0 mixed_ok (tr:=?_) (s':=?_) ?_ ?_ ?_);rotate_left 2;(focus ((with_reducible refine QW ?_);simp only [Zg,Zd,seval,if_true,if_false,reduceCtorEq,Nat.reduceEqDiff,T0,List.length_map,Int.ofNat_lt,h,Int.natCast_nonneg,Int.toNat_natCast,map_get h,eCt,hw,he,hb,hn2,q1,q2,ht1];with_reducible rfl));focus ((with_reducible refine QK ?_);simp only [Zk];kernel_rfl)))
      refine roundK.on (i + 1) ⟨h,by omega⟩ ?_
      rw [hs1,if_neg (fun h => hk2 h.1),putEl_ne he]
      (repeat' (first|with_reducible refine Qn|((with_reducible refine Qr ?_ ?_);focus (first|with_reducible rfl|(simp only [Zz,Nat.reduceBEq,eCt];done)|rfl))|((with_reducible refine Qj (o':=?_) ?_ ?_ ?_);rotate_left 1;focus rfl)|((with_reducible refine Qw ?_ ?_);(focus (first|with_reducible rfl|(simp only [Zv,eCt];done)));focus (first|exact id|exact (fun h => nomatch h)|exact (fun _ => rfl)))))
   ·repeat' (first|with_reducible (first|refine Q1 ?_|refine Q2 ?_|refine Q3 ?_|refine Q4 ?_|refine Q5 ?_|refine Q6 ?_|refine Q7 ?_|refine Q8 ?_|refine Q9 ?_|refine Qa ?_|refine Qb ?_|refine Qc ?_|refine Qd ?_|refine Qe ?_|refine Qf ?_)|((with_reducible refine Qo ?_ ?_);focus rfl)|((with_reducible first|refine QT 11 (l:=?_) ?_ ?_|refine QF 11 (l:=?_) ?_ ?_);rotate_left 1;focus (simp only [Zu,Nat.reduceSub,Nat.reduceBEq];with_reducible rfl))|((with_reducible first|refine QS (cfg_ok 92) T0 (s':=?_) ?_ ?_|refine QC (b:=?_) ?_ ?_);rotate_left 1;focus ((with_reducible refine QW ?_);simp only [Zg,seval,if_true,if_false,reduceCtorEq,Nat.reduceEqDiff,T0,List.length_map,Int.ofNat_lt,h,Int.natCast_nonneg,Int.toNat_natCast,eCt,hw,ht1];with_reducible rfl))|((with_reducible refine QD (cfg_ok 92) T0 mixed_ok (tr:=?_) (s':=?_) ?_ ?_ ?_);rotate_left 2;(focus ((with_reducible refine QW ?_);simp only [Zg,Zd,seval,if_true,if_false,reduceCtorEq,Nat.reduceEqDiff,T0,List.length_map,Int.ofNat_lt,h,Int.natCast_nonneg,Int.toNat_natCast,eCt,hw,ht1];with_reducible rfl));focus ((with_reducible refine QK ?_);simp only [Zk];kernel_rfl)))
    refine roundK.out i (by omega) ?_
    (repeat' (first|with_reducible refine Qn|((with_reducible refine Qr ?_ ?_);focus (first|with_reducible rfl|(simp only [Zz,Nat.reduceBEq];done)|rfl))|((with_reducible refine Qj (o':=?_) ?_ ?_ ?_);rotate_left 1;focus rfl)|((with_reducible refine Qw ?_ ?_);(focus (first|with_reducible rfl|(simp only [Zv];done)));focus (first|exact id|exact (fun h => nomatch h)|exact (fun _ => rfl)))))
  ·rintro i rfl
   have hsum:putC s t n = if k = s.length then putTo s t n k s.length ++ [(t,n)] else putTo s t n k s.length:=by
    have h1:=putTo_all (s.take k) (s.drop k) t n (by rw [List.take_append_drop];exact hr) hlow (fun z hz => by
     rw [List.head?_drop] at hz
     obtain ⟨h2,e⟩:=List.getElem?_eq_some_iff.1 hz
     rw [← e];exact hhigh h2)
    rw [List.take_append_drop,List.length_take,Nat.min_eq_left hk] at h1
    rw [← h1]
    split <;> simp
   have hpl:=putTo_len s t n k s.length
   have hpl':(putTo s t n k s.length).length ≤ 2000:=by split at hpl <;> omega
   have q1:=big_le (n:=(putTo s t n k s.length).length + 1) (by omega)
   have q2:=big_mul (n:=(putTo s t n k s.length).length + 1) (c:=32) (by omega) (by omega)
   have ht1:=eq_true (show t.length ≤ 1000000000 by omega)
   by_cases hk2:k = s.length
   ·rw [if_pos hk2] at hsum
    rw [hsum]
    subst hk2
    repeat' (first|with_reducible (first|refine Q1 ?_|refine Q2 ?_|refine Q3 ?_|refine Q4 ?_|refine Q5 ?_|refine Q6 ?_|refine Q7 ?_|refine Q8 ?_|refine Q9 ?_|refine Qa ?_|refine Qb ?_|refine Qc ?_|refine Qd ?_|refine Qe ?_|refine Qf ?_)|((with_reducible refine Qo ?_ ?_);focus rfl)|((with_reducible first|refine QT 11 (l:=?_) ?_ ?_|refine QF 11 (l:=?_) ?_ ?_);rotate_left 1;focus (simp only [Zu,Nat.reduceSub,Nat.reduceBEq];with_reducible rfl))|((with_reducible first|refine QS (cfg_ok 92) T0 (s':=?_) ?_ ?_|refine QC (b:=?_) ?_ ?_);rotate_left 1;focus ((with_reducible refine QW ?_);simp only [Zg,seval,if_true,if_false,reduceCtorEq,Nat.reduceEqDiff,T0,List.length_map,eCt,q1,q2,ht1];with_reducible rfl))|((with_reducible refine QD (cfg_ok 92) T0 mixed_ok (tr:=?_) (s':=?_) ?_ ?_ ?_);rotate_left 2;(focus ((with_reducible refine QW ?_);simp only [Zg,Zd,seval,if_true,if_false,reduceCtorEq,Nat.reduceEqDiff,T0,List.length_map,eCt,q1,q2,ht1];with_reducible rfl));focus ((with_reducible refine QK ?_);simp only [Zk];kernel_rfl)))
    (refine Ends.mk (by simp) (rs:=?_) (ks:=?_) hres hrts ?_ ?_ ?_;rotate_left 2;(focus (simp only [Ze,Zg,seval,if_true,if_false,reduceCtorEq,Nat.reduceEqDiff,eCt];with_reducible rfl));(focus simp);focus (first|with_reducible rfl|(simp only [Zv,eCt];done)))
   ·rw [if_neg hk2] at hsum
    rw [hsum]
    have hb:((k:Int) == (s.length:Int)) = false:=beq_eq_false_iff_ne.2 (by omega)
    repeat' (first|with_reducible (first|refine Q1 ?_|refine Q2 ?_|refine Q3 ?_|refine Q4 ?_|refine Q5 ?_|refine Q6 ?_|refine Q7 ?_|refine Q8 ?_|refine Q9 ?_|refine Qa ?_|refine Qb ?_|refine Qc ?_|refine Qd ?_|refine Qe ?_|refine Qf ?_)|((with_reducible refine Qo ?_ ?_);focus rfl)|((with_reducible first|refine QT 11 (l:=?_) ?_ ?_|refine QF 11 (l:=?_) ?_ ?_);rotate_left 1;focus (simp only [Zu,Nat.reduceSub,Nat.reduceBEq];with_reducible rfl))|((with_reducible first|refine QS (cfg_ok 92) T0 (s':=?_) ?_ ?_|refine QC (b:=?_) ?_ ?_);rotate_left 1;focus ((with_reducible refine QW ?_);simp only [Zg,seval,if_true,if_false,reduceCtorEq,Nat.reduceEqDiff,T0,List.length_map,eCt,hb];with_reducible rfl))|((with_reducible refine QD (cfg_ok 92) T0 mixed_ok (tr:=?_) (s':=?_) ?_ ?_ ?_);rotate_left 2;(focus ((with_reducible refine QW ?_);simp only [Zg,Zd,seval,if_true,if_false,reduceCtorEq,Nat.reduceEqDiff,T0,List.length_map,eCt,hb];with_reducible rfl));focus ((with_reducible refine QK ?_);simp only [Zk];kernel_rfl)))
    (refine Ends.mk (by simp) (rs:=?_) (ks:=?_) hres hrts ?_ ?_ ?_;rotate_left 2;(focus (simp only [Ze,Zg,seval,if_true,if_false,reduceCtorEq,Nat.reduceEqDiff,eCt];with_reducible rfl));(focus simp);focus (first|with_reducible rfl|(simp only [Zv,eCt];done)))
end Go.Proofs.Ytofpjonggpjneaa
namespace Go.Proofs.Ytofpjonggpjneaa
open Go.RowKit
section
variable {β:Type} {S:Rep β} {w:World}
end
theorem ChgF.toChg {F:List Nat} {w w':World} {lo hi:Nat} (h:ChgF F w w') (hF:∀ b,b ∈ F→lo ≤ b∧b < hi):Chg lo hi w w' :=
 ⟨h.os,h.tape,h.output,h.size,fun k hk hne => h.block k hk (fun e => by have:=hF k e;omega)⟩
end Go.Proofs.Ytofpjonggpjneaa
namespace Go.Proofs.Ytofpjonggpjneaa
open Go.RowKit
section
variable {β:Type} {S:Rep β} {w:World}
theorem OwnF.ctAt {v:Value} {xs:List (β × Int)} {F:List Nat} (h:OwnF (RS (RP S RI)) F w [v] xs) (hS:S.k = 1) (i:Nat) (hi:i < xs.length) :
  ∃ g cap s G,v = .slice (some ⟨g,0,none⟩) xs.length cap∧xs.length ≤ cap∧cap ≤ 9223372036854775807∧g < w.heap.size∧w.cell? ⟨g,i * 2,none⟩ = some s∧w.cell? ⟨g,i * 2 + 1,none⟩ = some (.int .i64 xs[i].2)∧w.frozen? ⟨g,i * 2 + 1,none⟩ = false ∧
   OwnF S G w [s] xs[i].1∧(∀ b,b ∈ G→b ∈ F∧b ≠ g) ∧
   (∀ n,In64 n→OwnF (RS (RP S RI)) F (w.setCell ⟨g,i * 2 + 1,none⟩ (.int .i64 n)) [v] (xs.set i (xs[i].1,n))∧ChgF F w (w.setCell ⟨g,i * 2 + 1,none⟩ (.int .i64 n))) ∧
   (∀ (w':World) (y:β),OwnF S G w' [s] y→ChgF G w w'→OwnF (RS (RP S RI)) F w' [v] (xs.set i (y,xs[i].2))∧ChgF F w w'):=by
 have hlt:=h.lt
 have hnd:=h.2
 have hk2:(RP S RI).k = 2:=by show S.k + 1 = 2;omega
 obtain ⟨g,cap,d1,c,d2,F1,G0,F2,hv,hc1,hc2,rfl,hcl,hd1,hx,hrow,hK⟩:=h.lens i hi
 rw [hk2] at hd1 hrow
 have hx0:=hx
 obtain ⟨c1,c2,G,Gb,rfl,rfl,hs,⟨⟨rfl,hb⟩,rfl⟩⟩:=hx0
 have hsl:=S.rd_len (S.own_rd hs)
 rw [hS] at hsl
 match c1,hsl with
 | [s],_ =>
 simp only [List.append_nil] at *
 have hn1:=List.nodup_cons.1 hnd
 have hn2:=List.nodup_append.1 hn1.2
 have hn3:=List.nodup_append.1 hn2.2.1
 have e1:d1 ++ ([s] ++ [Value.int IntKind.i64 xs[i].2] ++ d2) = d1 ++ (s :: Value.int IntKind.i64 xs[i].2 :: d2):=by simp
 have g1:w.cell? ⟨g,i * 2,none⟩ = some s:=hrow.cells (i * 2) _ (by rw [e1,List.getElem?_append_right (by omega),hd1];simp)
 have g2:w.cell? ⟨g,i * 2 + 1,none⟩ = some (.int .i64 xs[i].2):=hrow.cells (i * 2 + 1) _ (by rw [e1,List.getElem?_append_right (by omega),hd1];simp)
 have hGF:∀ b,b ∈ G→b ∈ g :: (F1 ++ (G ++ F2))∧b ≠ g:=fun b hb => ⟨by simp [hb],fun e => hn1.1 (by subst e;simp [hb])⟩
 refine ⟨g,cap,s,G,hv,hc1,hc2,hlt g (by simp),g1,g2,hrow.frozen _,⟨hs,hn3.1⟩,hGF,?_,?_⟩
 ·intro n hn
  obtain ⟨hst,hgr⟩:=hrow.store (i * 2 + 1) (.int .i64 n)
  have hset:(d1 ++ ([s] ++ [Value.int IntKind.i64 xs[i].2] ++ d2)).set (i * 2 + 1) (.int .i64 n) = d1 ++ ([s] ++ [Value.int IntKind.i64 n] ++ d2):=by
   rw [List.set_append_right _ _ (by omega),hd1,Nat.add_sub_cancel_left];rfl
  rw [hset] at hst
  have hfr:∀ b,b ≠ g→(w.setCell ⟨g,i * 2 + 1,none⟩ (.int .i64 n)).heap[b]? = w.heap[b]?:=fun b hb => heap_setCell_other w ⟨g,i * 2 + 1,none⟩ b _ hb
  refine ⟨hK _ [s,.int .i64 n] (xs[i].1,n) G (by rw [hk2];rfl) ⟨[s],[.int .i64 n],G,[],rfl,by simp,S.own_frame hs (fun b hb => hfr b (hGF b hb).2),⟨⟨rfl,hn⟩,rfl⟩⟩ (fun b hb => hfr b ?_) (by rw [hk2];exact hst) hnd,(ChgF.of_grown hgr).mono (fun b hb => by simp at hb;simp [hb])⟩
  intro e
  subst e
  rcases List.mem_append.1 hb with h|h
  ·exact hn1.1 (by simp [h])
  ·exact hn1.1 (by simp [h])
 ·intro w' y hy hch
  have hfr:∀ b,b ∈ F1 ++ F2→w'.heap[b]? = w.heap[b]?:=by
   intro b hm
   refine hch.block b (hlt b ?_) ?_
   ·rcases List.mem_append.1 hm with hm|hm
    ·simp [hm]
    ·simp [hm]
   ·intro hG
    rcases List.mem_append.1 hm with hm|hm
    ·exact hn2.2.2 b hm b (by simp [hG]) rfl
    ·exact hn3.2.2 b hG b hm rfl
  have hrow':Row w' v 2 xs.length (d1 ++ ([s] ++ [Value.int IntKind.i64 xs[i].2] ++ d2)) (some g):=hrow.frame (fun g' hg' => by cases hg';exact hch.block g (hlt g (by simp)) (fun e => (hGF g e).2 rfl))
  exact ⟨hK _ [s,.int .i64 xs[i].2] (y,xs[i].2) G (by rw [hk2];rfl) ⟨[s],[.int .i64 xs[i].2],G,[],rfl,by simp,hy.1,⟨⟨rfl,hb⟩,rfl⟩⟩ hfr (by rw [hk2];exact hrow') hnd,hch.mono (fun b hb => (hGF b hb).1)⟩
theorem Rd.ctAt {v:Value} {xs:List (β × Int)} (h:Rd (RS (RP S RI)) w [v] xs) (hS:S.k = 1) (i:Nat) (hi:i < xs.length) :
  ∃ b off cap s,v = .slice (some ⟨b,off,none⟩) xs.length cap∧b < w.heap.size∧w.cell? ⟨b,off + i * 2,none⟩ = some s∧w.cell? ⟨b,off + i * 2 + 1,none⟩ = some (.int .i64 xs[i].2)∧In64 xs[i].2∧Rd S w [s] xs[i].1:=by
 have hk2:(RP S RI).k = 2:=by show S.k + 1 = 2;omega
 obtain ⟨oa,cap,ds,h1,h2,h3,h4,h5,h6⟩:=h
 simp only [List.cons.injEq,and_true] at h1
 subst h1
 obtain ⟨c,hc,hpos⟩:=h5.get i hi
 rw [hk2] at hpos
 obtain ⟨c1,c2,rfl,hs,⟨rfl,hb⟩⟩:=hc
 have hsl:=S.rd_len hs
 rw [hS] at hsl
 match c1,hsl with
 | [s],_ =>
 rcases h6 with h6|⟨b,off,rfl,hbl,hcell⟩
 ·have:=h5.len
  rw [h6,hk2] at this
  simp at this
  omega
 ·refine ⟨b,off,cap,s,rfl,hbl,hcell _ _ (hpos 0 _ rfl),(by rw [Nat.add_assoc];exact hcell _ _ (hpos 1 _ rfl)),hb,Rd.of hs⟩
end
abbrev RCounted:Rep (List Int × Int):=RP (RS RI) RI
def cnt_C:List (List Int × Int)→Nat
 | [] => 0
 | p :: ps => cnt_I p.1 + 1 + cnt_C ps
def mkd_C:List (List Int × Int)→Int→List (List Int × Int)
 | [],_ => []
 | p :: ps,k => (mkd_I p.1 k,k + cnt_I p.1) :: mkd_C ps (k + cnt_I p.1 + 1)
theorem mkd_C_len:∀ (ps:List (List Int × Int)) (k:Int),(mkd_C ps k).length = ps.length
 | [],_ => rfl
 | p :: ps,k => by simp [mkd_C,mkd_C_len ps]
theorem mkd_C_get:∀ (ps:List (List Int × Int)) (k:Int) (i:Nat) (h:i < ps.length),(mkd_C ps k)[i]'(by rw [mkd_C_len];exact h) = (mkd_I ps[i].1 (k + cnt_C (ps.take i)),k + cnt_C (ps.take i) + cnt_I ps[i].1)
 | p :: ps,k,0,h => by simp [mkd_C,cnt_C]
 | p :: ps,k,i + 1,h => by
  simp only [mkd_C,List.getElem_cons_succ,List.take_succ_cons]
  rw [mkd_C_get ps _ i (by simpa using h)]
  simp only [cnt_C]
  have e:k + (cnt_I p.1:Int) + 1 + (cnt_C (ps.take i):Nat) = k + ((cnt_I p.1 + 1 + cnt_C (ps.take i):Nat):Int):=by omega
  rw [e]
theorem cnt_C_append:∀ (ps qs:List (List Int × Int)),cnt_C (ps ++ qs) = cnt_C ps + cnt_C qs
 | [],qs => by simp [cnt_C]
 | p :: ps,qs => by simp only [List.cons_append,cnt_C,cnt_C_append ps qs];omega
theorem cnt_C_take_succ (ps:List (List Int × Int)) (k:Nat) (h:k < ps.length):cnt_C (ps.take (k + 1)) = cnt_C (ps.take k) + (cnt_I ps[k].1 + 1):=by
 rw [List.take_succ_eq_append_getElem h,cnt_C_append];simp [cnt_C]
theorem cnt_C_take (ps:List (List Int × Int)) (k:Nat):cnt_C (ps.take k) ≤ cnt_C ps:=by
 have:cnt_C (ps.take k ++ ps.drop k) = cnt_C ps:=by rw [List.take_append_drop]
 rw [cnt_C_append] at this
 omega
set_option maxRecDepth 100000 in
set_option maxHeartbeats 1000000 in
theorem markF_C (v:Value) (xs:List (List Int × Int)) (F:List Nat) (k0:Int) (w:World) (h:OwnF (RS RCounted) F w [v] xs) (hk0:0 ≤ k0) (hk:k0 + cnt_C xs ≤ 4611686018427387904) :
  Calls Try.prog 81 #[v,.int .i64 k0] w fun e w' => e = .returned (.int .i64 (k0 + (cnt_C xs:Nat)))∧OwnF (RS RCounted) F w' [v] (mkd_C xs k0)∧ChgF F w w':=by
 obtain ⟨oa,cap,rfl,m1,m2⟩:=h.rd.val
 unfold maxLen at m2
 have H0:=Lib.hid h
 clear h
 go_enter Try.func81,Try.ntmps81
 go_wp2_with fail
 go_loopw [1,5] (fun q i wr => ∃ (k:Nat) (z:List (List Int × Int)),k ≤ xs.length∧i = .int .i64 k∧q = .int .i64 (k0 + (cnt_C (xs.take k):Nat))∧Hid (z = (mkd_C xs k0).take k ++ xs.drop k)∧Hid (OwnF (RS RCounted) F wr [.slice oa xs.length cap] z∧ChgF F w wr)) (fun _ i _ => xs.length - (intOf i).toNat)
 case atStart => exact ⟨0,xs,Nat.zero_le _,rfl,by simp [cnt_C],Lib.hid (by simp),Lib.hid ⟨H0.out,ChgF.refl _ _⟩⟩
 case round =>
  obtain ⟨k,z,hkl,rfl,rfl,hz,hown⟩:=hrel
  clear H0
  by_cases hlt:k < xs.length
  ·have hml:=mkd_C_len xs k0
   have hzl:z.length = xs.length:=by rw [hz.out];simp [hml];omega
   obtain ⟨g,cap',s,G,hv,-,-,hgl,g1,g2,hfz,hGs,hGF,-,hK2⟩:=hown.out.1.ctAt rfl k (by omega)
   rw [hzl] at hv
   simp only [Value.slice.injEq,true_and] at hv
   obtain ⟨rfl,rfl⟩:=hv
   have hzk:z[k]'(by omega) = xs[k]:=by
    simp only [hz.out]
    rw [List.getElem_append_right (by simp [hml];omega)]
    simp [List.getElem_drop,hml]
    congr 1;omega
   have hst:=cnt_C_take_succ xs k hlt
   have hle:=cnt_C_take xs (k + 1)
   have hmk:=mkd_C_get xs k0 k hlt
   obtain ⟨n,hn⟩:∃ n,n = cnt_C (xs.take k):=⟨_,rfl⟩
   rw [← hn] at hst hmk
   rw [← hn]
   have hset:z.set k (mkd_I xs[k].1 (k0 + n),k0 + (n:Int) + cnt_I xs[k].1) = (mkd_C xs k0).take (k + 1) ++ xs.drop (k + 1):=by
    rw [hz.out,List.set_append_right _ _ (by simp [hml];omega)]
    have e:k - ((mkd_C xs k0).take k).length = 0:=by simp [hml];omega
    rw [e,List.drop_eq_getElem_cons hlt,List.set_cons_zero,List.take_succ_eq_append_getElem (by rw [hml];exact hlt),hmk]
    simp
   rw [hzk] at hGs hK2 g2
   obtain ⟨pf,hpf⟩:∃ pf,pf = xs[k].1:=⟨_,rfl⟩
   rw [← hpf] at hset hst hGs
   obtain ⟨os,cs,rfl,q1,q2⟩:=hGs.rd.val
   have hmkF:=markF_I _ pf G (k0 + n) wr hGs (by omega) (by omega)
   have HK2:=Lib.hid hK2
   have HSET:=Lib.hid hset
   have HST:=Lib.hid hst
   have HZL:=Lib.hid hzl
   have i1:(0:Int) ≤ (k:Int):=by omega
   have i2:(k:Int) < (xs.length:Int):=by omega
   obtain ⟨cf,hcf⟩:∃ cf,cf = cnt_I pf:=⟨_,rfl⟩
   rw [← hcf] at hmkF HST HSET hst
   have HCF:=Lib.hid hcf
   have hw1:IntKind.i64.wrap (k0 + (n:Int) + (cf:Int)) = k0 + n + cf:=IntWalk.i64_in _ (by omega)
   have hw2:IntKind.i64.wrap (k0 + (n:Int) + (cf:Int) + 1) = k0 + n + cf + 1:=IntWalk.i64_in _ (by omega)
   have HIN:Hid (In64 (k0 + (n:Int) + (cf:Int))):=Lib.hid (by unfold In64;omega)
   obtain ⟨p2,hp2⟩:∃ p2,p2 = xs[k].2:=⟨_,rfl⟩
   rw [← hp2] at g2 HK2
   clear hK2 hset hst hmk hzk hzl hn hpf hGs hml hcf hp2 g2 hfz
   go_wp2_with fail
   refine hmkF.mono ?_
   rintro e w2 ⟨rfl,hr2,hc2⟩
   obtain ⟨k1,k2⟩:=HK2.out w2 (mkd_I pf (k0 + n)) hr2 hc2
   have hzl2:(z.set k (mkd_I pf (k0 + n),p2)).length = xs.length:=by rw [List.length_set,HZL.out]
   obtain ⟨g',cap',s',G',hv',-,-,-,g1',g2',hfz',-,-,hK1',-⟩:=k1.ctAt rfl k (by omega)
   rw [hzl2] at hv'
   simp only [Value.slice.injEq,Option.some.injEq,Addr.mk.injEq,and_true,true_and] at hv'
   obtain ⟨rfl,rfl⟩:=hv'
   simp only [List.getElem_set_self] at g2' hK1'
   obtain ⟨f1,f2⟩:=hK1' (k0 + n + cf) HIN.out
   rw [List.set_set] at f1
   rw [HSET.out] at f1
   have HF:Hid (OwnF (RS RCounted) F (w2.setCell ⟨g,k * 2 + 1,none⟩ (.int .i64 (k0 + n + cf))) [.slice (some ⟨g,0,none⟩) xs.length cap] ((mkd_C xs k0).take (k + 1) ++ xs.drop (k + 1))∧ChgF F w (w2.setCell ⟨g,k * 2 + 1,none⟩ (.int .i64 (k0 + n + cf)))):=Lib.hid ⟨f1,hown.out.2.trans (k2.trans f2)⟩
   clear k1 k2 hr2 hc2 hmkF f1 f2 hK1' hzl2 g1'
   go_wp2_with fail
   go_roundw
   case rel => exact ⟨k + 1,_,by omega,by go_num,by rw [HST.out];congr 1;omega,Lib.hid rfl,HF⟩
   case measure => simp [intOf] <;> omega
  ·have hfin:Hid (z = mkd_C xs k0):=Lib.hid (by rw [hz.out,List.take_of_length_le (by rw [mkd_C_len];omega),List.drop_of_length_le (by omega),List.append_nil])
   have hf2:xs.take k = xs:=List.take_of_length_le (by omega)
   rw [hf2]
   go_wp2_with fail
   go_ret
   exact ⟨rfl,hfin.out ▸ hown.out.1,hown.out.2⟩
theorem mark_C (v:Value) (xs:List (List Int × Int)) (lo hi:Nat) (k0:Int) (w:World) (h:Own (RS RCounted) lo hi w [v] xs) (hk0:0 ≤ k0) (hk:k0 + cnt_C xs ≤ 4611686018427387904) :
  Calls Try.prog 81 #[v,.int .i64 k0] w fun e w' => e = .returned (.int .i64 (k0 + (cnt_C xs:Nat)))∧Own (RS RCounted) lo hi w' [v] (mkd_C xs k0)∧Chg lo hi w w':=by
 obtain ⟨F,hF,hb⟩:=OwnF.of h
 refine (markF_C v xs F k0 w hF hk0 hk).mono ?_
 rintro e w' ⟨rfl,h1,h2⟩
 exact ⟨rfl,h1.to hb,h2.toChg hb⟩
set_option maxRecDepth 100000 in
set_option maxHeartbeats 1000000 in
theorem held_C (v:Value) (xs:List (List Int × Int)) (k0:Int) (w:World) (h:Rd (RS RCounted) w [v] (mkd_C xs k0)) (hk0:0 ≤ k0) (hk:k0 + cnt_C xs ≤ 4611686018427387904) :
  Calls Try.prog 82 #[v,.int .i64 k0] w (RetS w (.int .i64 (k0 + (cnt_C xs:Nat)))):=by
 have hml:=mkd_C_len xs k0
 have hAt:=fun i hi => h.ctAt (S:=RS RI) rfl i hi
 obtain ⟨oa,cap,rfl,m1,m2⟩:=h.val
 unfold maxLen at m2
 have HAT:=Lib.hid hAt
 obtain ⟨N,hN⟩:∃ N,N = (mkd_C xs k0).length:=⟨_,rfl⟩
 have hNx:N = xs.length:=by rw [hN,hml]
 rw [← hN] at m1
 rw [← hN]
 have HNN:=Lib.hid hN
 have HNX:=Lib.hid hNx
 clear h hAt hml hN hNx
 go_enter Try.func82,Try.ntmps82
 go_wp2_with fail
 go_loopw [1,5] (fun q i wr => ∃ (k:Nat),k ≤ N∧i = .int .i64 k∧q = .int .i64 (k0 + (cnt_C (xs.take k):Nat))∧wr = w) (fun _ i _ => N - (intOf i).toNat)
 case atStart => exact ⟨0,Nat.zero_le _,rfl,by simp [cnt_C],rfl⟩
 case round =>
  obtain ⟨k,hkl,rfl,rfl,rfl⟩:=hrel
  by_cases hlt:k < N
  ·have hltm:k < (mkd_C xs k0).length:=by rw [← HNN.out];exact hlt
   have hltx:k < xs.length:=by rw [← HNX.out];exact hlt
   obtain ⟨b,off,cap',s,hv,hb,g1,g2,_,hrd⟩:=HAT.out k hltm
   rw [← HNN.out] at hv
   simp only [Value.slice.injEq,true_and] at hv
   obtain ⟨rfl,rfl⟩:=hv
   have hgt:=mkd_C_get xs k0 k hltx
   rw [hgt] at g2 hrd
   have hst:=cnt_C_take_succ xs k hltx
   have hle:=cnt_C_take xs (k + 1)
   obtain ⟨n,hn⟩:∃ n,n = cnt_C (xs.take k):=⟨_,rfl⟩
   rw [← hn] at hst g2 hrd
   rw [← hn]
   obtain ⟨pf,hpf⟩:∃ pf,pf = xs[k].1:=⟨_,rfl⟩
   rw [← hpf] at hst hrd g2
   obtain ⟨os,cs,rfl,q1,q2⟩:=hrd.val
   have hh:=held_I _ pf (k0 + n) wr hrd (by omega) (by omega)
   have HST:=Lib.hid hst
   obtain ⟨cf,hcf⟩:∃ cf,cf = cnt_I pf:=⟨_,rfl⟩
   rw [← hcf] at hh HST g2
   have i1:(0:Int) ≤ (k:Int):=by omega
   have i2:(k:Int) < (N:Int):=by omega
   have i3:¬ (k0 + (n:Int) + (cf:Nat) < 0):=by omega
   have i4:(k0 + (n:Int) + (cf:Int) != k0 + n + cf) = false:=by simp
   have hw1:IntKind.i64.wrap (k0 + (n:Int) + (cf:Int)) = k0 + n + cf:=IntWalk.i64_in _ (by omega)
   have hw2:IntKind.i64.wrap (k0 + (n:Int) + (cf:Int) + 1) = k0 + n + cf + 1:=IntWalk.i64_in _ (by omega)
   clear hrd hgt hn hpf hst hcf
   go_wp2_with fail
   refine hh.mono ?_
   rintro e w2 ⟨rfl,rfl⟩
   go_wp2_with fail
   go_roundw
   case rel => exact ⟨k + 1,by omega,by go_num,by rw [HST.out];congr 1;omega,(by first|rfl|trivial)⟩
   case measure => simp [intOf];omega
  ·have hf2:xs.take k = xs:=List.take_of_length_le (by rw [← HNX.out];omega)
   rw [hf2]
   go_wp2_with fail
   go_ret
   exact ⟨rfl,rfl⟩
set_option maxRecDepth 100000 in
set_option maxHeartbeats 1000000 in
theorem eqv_Counted (s1 s2:Value) (n:Int) (f:List Int) (w:World) (h1:Rd (RS RI) w [s1] f) (h2:Rd (RS RI) w [s2] f) :
  Calls Try.prog 147 #[.agg #[s1,.int .i64 n],.agg #[s2,.int .i64 n]] w (RetV w (.bool true)):=by
 obtain ⟨o1,c1,rfl,_,_⟩:=h1.val
 obtain ⟨o2,c2,rfl,_,_⟩:=h2.val
 have H1:=Lib.hid h1
 have H2:=Lib.hid h2
 have hne:(n != n) = false:=by simp
 clear h1 h2
 go_enter Try.func147,Try.ntmps147
 go_wp2_with fail
 have b1:Below w.heap.size w (w.alloc (.cells #[.slice o1 f.length c1,.int .i64 n] 53)):=(Below.refl _ _).alloc (Nat.le_refl _) _
 have b2:Below w.heap.size w ((w.alloc (.cells #[.slice o1 f.length c1,.int .i64 n] 53)).alloc (.cells #[.slice o2 f.length c2,.int .i64 n] 53)):=b1.alloc (by simp) _
 obtain ⟨W,hW⟩:∃ W,W = (w.alloc (.cells #[.slice o1 f.length c1,.int .i64 n] 53)).alloc (.cells #[.slice o2 f.length c2,.int .i64 n] 53):=⟨_,rfl⟩
 have k1:W.heap[w.heap.size]? = some (.cells #[.slice o1 f.length c1,.int .i64 n] 53):=by rw [hW,Go.heap_alloc_old _ _ (by simp),Go.heap_alloc_new]
 have k2:W.heap[w.heap.size + 1]? = some (.cells #[.slice o2 f.length c2,.int .i64 n] 53):=by rw [hW,Go.heap_alloc2_new]
 have n1:W.cell? ⟨w.heap.size,1,none⟩ = some (.int .i64 n):=by simp [World.cell?,k1]
 have n2:W.cell? ⟨w.heap.size + 1,1,none⟩ = some (.int .i64 n):=by simp [World.cell?,k2]
 clear k1 k2
 rw [← hW] at b2
 rw [← hW]
 refine (eqv_I _ _ f W (H1.out.below b2 (Nat.le_refl _)) (H2.out.below b2 (Nat.le_refl _))).mono ?_
 rintro e w' ⟨rfl,b3⟩
 have n1:=(b3.cell (p:=⟨w.heap.size,1,none⟩) (by rw [hW];simp;omega)).trans n1
 have n2:=(b3.cell (p:=⟨w.heap.size + 1,1,none⟩) (by rw [hW];simp)).trans n2
 go_wp2_with fail
 go_ret
 exact ⟨rfl,b2.trans (b3.mono b2.size)⟩
set_option maxRecDepth 100000 in
set_option maxHeartbeats 1000000 in
theorem eqv_C (v1 v2:Value) (xs:List (List Int × Int)) (w:World) (h1:Rd (RS RCounted) w [v1] xs) (h2:Rd (RS RCounted) w [v2] xs) :
  Calls Try.prog 76 #[v1,v2] w (RetV w (.bool true)):=by
 have a1:=fun i hi => h1.ctAt (S:=RS RI) rfl i hi
 have a2:=fun i hi => h2.ctAt (S:=RS RI) rfl i hi
 obtain ⟨oa,cap,rfl,m1,m2⟩:=h1.val
 obtain ⟨ob,cap2,rfl,m3,m4⟩:=h2.val
 unfold maxLen at m2 m4
 have A1:=Lib.hid a1
 have A2:=Lib.hid a2
 have hne:((xs.length:Int) != (xs.length:Int)) = false:=by simp
 have EG:=Lib.hid (enters (P:=Try.prog) (f:=147) Try.func147 (by kernel_rfl) rfl)
 clear h1 h2 a1 a2
 go_enter Try.func76,Try.ntmps76
 go_wp2_with fail
 go_loopw [5] (fun i wr => ∃ k:Nat,k ≤ xs.length∧i = .int .i64 k∧Below w.heap.size w wr) (fun i _ => xs.length - (intOf i).toNat)
 case atStart => exact ⟨0,Nat.zero_le _,rfl,Below.refl _ _⟩
 case round =>
  obtain ⟨k,hk,rfl,hbel⟩:=hrel
  have hsz1:=hbel.size
  by_cases hlt:k < xs.length
  ·obtain ⟨b1,f1,c1,s1,hv1,hb1,g1,g2,_,r1⟩:=A1.out k hlt
   obtain ⟨b2,f2,c2,s2,hv2,hb2,g3,g4,_,r2⟩:=A2.out k hlt
   simp only [Value.slice.injEq,true_and] at hv1 hv2
   obtain ⟨rfl,rfl⟩:=hv1
   obtain ⟨rfl,rfl⟩:=hv2
   have k1:=(hbel.cell (p:=⟨b1,f1 + k * 2,none⟩) hb1).trans g1
   have k2:=(hbel.cell (p:=⟨b1,f1 + k * 2 + 1,none⟩) hb1).trans g2
   have k3:=(hbel.cell (p:=⟨b2,f2 + k * 2,none⟩) hb2).trans g3
   have k4:=(hbel.cell (p:=⟨b2,f2 + k * 2 + 1,none⟩) hb2).trans g4
   obtain ⟨n,hn⟩:∃ n,n = xs[k].2:=⟨_,rfl⟩
   obtain ⟨f,hf⟩:∃ f,f = xs[k].1:=⟨_,rfl⟩
   rw [← hn] at k2 k4
   rw [← hf] at r1 r2
   obtain ⟨o1,d1,rfl,_,_⟩:=r1.val
   obtain ⟨o2,d2,rfl,_,_⟩:=r2.val
   have HEQ:Hid (∀ W:World,W.heap = wr.heap→Calls Try.prog 147 #[.agg #[.slice o1 f.length d1,.int .i64 n],.agg #[.slice o2 f.length d2,.int .i64 n]] W (RetV W (.bool true))):=Lib.hid (fun W hW => eqv_Counted _ _ n f W ((r1.below hbel (Nat.le_refl _)).of_heap hW) ((r2.below hbel (Nat.le_refl _)).of_heap hW))
   have i1:(0:Int) ≤ (k:Int):=by omega
   have i2:(k:Int) < (xs.length:Int):=by omega
   clear g1 g2 g3 g4 r1 r2 hn hf
   go_wp2_with fail
   go_region_law ((refine step_call rfl 147 _ _ rfl EG.out #[.agg #[.slice o1 f.length d1,.int .i64 n],.agg #[.slice o2 f.length d2,.int .i64 n]] (by simp [Act.eval]) ?_;refine Calls.mono (HEQ.out _ (by rfl)) ?_;rintro e w2 ⟨rfl,b3⟩;have b3':Below wr.heap.size wr w2:=⟨b3.os,b3.tape,b3.output,b3.size,b3.block⟩;refine ⟨_,rfl,?_⟩))
   all_goals
    have hb4:=hbel.trans (b3'.mono hsz1)
    go_wp2_with fail
    go_roundw
    case rel => exact ⟨k + 1,by omega,by go_num,hb4⟩
    case measure => simp [intOf] <;> omega
  ·go_wp2_with fail
   go_ret
   exact ⟨rfl,hbel⟩
end Go.Proofs.Ytofpjonggpjneaa
namespace Go.Proofs.Ytofpjonggpjneaa
open Go.RowKit
theorem sub_flat2 {α:Type} {l1 l2:List (List α)} (h:l1.Sublist l2):l1.flatten.Sublist l2.flatten:=by
 induction h with
 | slnil => exact .slnil
 | cons a _ ih => rw [List.flatten_cons];exact ih.trans (List.sublist_append_right _ _)
 | cons_cons a _ ih => rw [List.flatten_cons,List.flatten_cons];exact List.Sublist.append (List.Sublist.refl _) ih
def eCtT (z:(List Int × List Nat) × Int):List D:=[.tag z.1.2 (.sl 1 (z.1.1.map eI)),.int z.2]
theorem tag_mk2:∀ (zs:List ((List Int × List Nat) × Int)),TagL ((zs.map fun z => (z.1.1,z.2)).map eCt) (zs.map eCtT) ((zs.map (·.1.2)).flatten)
 | [] => ⟨rfl,rfl⟩
 | z :: zs => ⟨_,_,z.1.2,_,rfl,rfl,⟨_,[.int z.2],z.1.2,[],rfl,(List.append_nil _).symm,.inl rfl,⟨.int z.2,[],[],[],rfl,rfl,.inr ⟨rfl,rfl,rfl⟩,rfl,rfl⟩⟩,tag_mk2 zs⟩
noncomputable def TEq:Tab Try.prog:=Tab.none.add 104 (tab2 codL codL fun xs ys => some [.val (.bool (decide (xs = ys)))]) (tab2_ok fun xs ys rs h => by cases h;exact a_slicesEqual xs ys)
end Go.Proofs.Ytofpjonggpjneaa
namespace Go.Proofs.Ytofpjonggpjneaa
open Go.RowKit
theorem encCt:Enc RCounted eCt:=encP (encS encI) encI
theorem cnt_C_le {m:Nat}:∀ (s:List (List Int × Int)),(∀ z ∈ s,z.1.length ≤ m)→cnt_C s ≤ (m + 1) * s.length
 | [],_ => by simp [cnt_C]
 | z :: s,h => by
  have h1:=h z (by simp)
  have ih:=cnt_C_le s (fun c hc => h c (by simp [hc]))
  simp only [cnt_C,cnt_I,List.length_cons]
  rw [Nat.mul_succ];omega
end Go.Proofs.Ytofpjonggpjneaa
namespace Go.Proofs.Ytofpjonggpjneaa
open Go.RowKit
set_option maxRecDepth 100000 in
set_option maxHeartbeats 1000000 in
theorem c_impl_forestOfB (v:Value) (bs:List (List Int)) (w:World) (h:Rd (RS (RS RI)) w [v] bs) (hsz:bs.length ≤ 1000000000) (hsl:∀ b ∈ bs,b.length ≤ 1000000000) :
  Calls Try.prog 126 #[v] w (RetO (RS (RS RI)) w (forest bs)):=by
 have hc:=c_impl_cloneRows v bs w h (by omega) hsl
 have EG:=Lib.hid (enters (P:=Try.prog) (f:=107) Try.func107 (by kernel_rfl) rfl)
 have HA:Hid (CmpAsk Try.prog 107 cmpT (fun _ => True)):=Lib.hid (fun w h1 h2 x y r1 r2 _ _ => c_impl_compareTrees h1 h2 x y w r1 r2)
 clear h hsl
 go_enter Try.func126,Try.ntmps126
 go_wp2_with (go_at_call 172;refine hc.mono ?_;rintro e w1 ⟨u,rfl,o1,b1⟩;obtain ⟨ou,cu,rfl,lu1,lu2⟩:=o1.val)
 have hs:=c_SortStableB 107 cmpT cmpT_cmp (fun _ => True) EG.out HA.out _ bs w.heap.size w1.heap.size w1 o1 (fun _ _ => trivial) (by omega)
 have hb1:=b1.size
 clear o1 hc
 go_wp2_with (go_at_call 173;refine hs.mono ?_;rintro e w3 ⟨rfl,o3,ch3⟩)
 go_ret
 have hb3:Below w.heap.size w w3:=b1.trans (ch3.below (Nat.le_refl _) hb1)
 exact ⟨_,rfl,o3.mono (Nat.le_refl _) ch3.size,hb3⟩
theorem a_forestOfB (f:List (List Int)) (hl:f.length ≤ 1000000000) (hs:sumLen f ≤ 1000000000):AFn Try.prog 126 [eLL f] (· = [.own 1 ((forest f).map eL) true]) :=
 afn_LLL_oo (enters_of Try.func126 rfl rfl) (fun u w h => c_impl_forestOfB u f w h hl (fun b hb => Nat.le_trans (sumLen_mem hb) hs))
set_option maxHeartbeats 4000000 in
theorem a_countedB (ts:List (List Int)) (hl:ts.length ≤ 100000) (hs:sumLen ts ≤ 1000000):AFn Try.prog 114 [eLL ts] (· = [.own 2 ((cntOf ts).map eCt) true]):=by
 have hfo:=a_forestOfB ts (by omega) (by omega)
 refine AFn.of_runs (cfg_ok 45) Try.func114 rfl rfl rfl (by simp only [List.length_cons,List.length_nil];decide) ?_
 have hres:Try.f114.results.toList = [.tmp 2]:=rfl
 have hrts:Try.f114.resultTypes.toList = [40]:=rfl
 simp only [argRegs,argAV1,eL,eI,eLL,eB,Nat.zero_add,Nat.reduceAdd]
 intro M
 refine RunK.of ?_
 repeat' (first|with_reducible (first|refine Q1 ?_|refine Q2 ?_|refine Q3 ?_|refine Q4 ?_|refine Q5 ?_|refine Q6 ?_|refine Q7 ?_|refine Q8 ?_|refine Q9 ?_|refine Qa ?_|refine Qb ?_|refine Qc ?_|refine Qd ?_|refine Qe ?_|refine Qf ?_)|((with_reducible refine Qo ?_ ?_);focus rfl)|((with_reducible first|refine QT 12 (l:=?_) ?_ ?_|refine QF 12 (l:=?_) ?_ ?_);rotate_left 1;focus (simp only [Zu,Nat.reduceSub,Nat.reduceBEq];with_reducible rfl))|((with_reducible first|refine QS (cfg_ok 45) Tab.none (s':=?_) ?_ ?_|refine QC (b:=?_) ?_ ?_);rotate_left 1;focus ((with_reducible refine QW ?_);simp only [Zg,seval,if_true,if_false,reduceCtorEq,Nat.reduceEqDiff];with_reducible rfl)))
 refine RunK.regTag (cfg_ok 45) (Tab.none.at' 126 hfo) 2 9 (k:=1) (xs:=(forest ts).map eL) (s1:=?_) ?_ ?_ ?_
 rotate_left 1
 focus (simp only [Zg,seval,if_true,if_false,reduceCtorEq,Nat.reduceEqDiff,eL,eLL];with_reducible rfl)
 focus rfl
 intro xs' F ht hnd hF
 obtain ⟨ps,e1,e2,e3⟩:=tag_rows ht
 subst e2
 have hpl:ps.length = ts.length:=by
  have:=congrArg List.length e1
  rw [List.length_map] at this
  rw [← this]
  exact (show (sortC cmpT ts).Perm ts from sortC_perm ts).length_eq
 refine ROps.opsT (cfg_ok 45) (T:=Tab.none) (s':=?_) ?_ ?_
 rotate_left 1
 focus (simp only [Zg,seval,if_true,if_false,reduceCtorEq,Nat.reduceEqDiff,List.length_map];with_reducible rfl)
 repeat' (first|with_reducible (first|refine Q1 ?_|refine Q2 ?_|refine Q3 ?_|refine Q4 ?_|refine Q5 ?_|refine Q6 ?_|refine Q7 ?_|refine Q8 ?_|refine Q9 ?_|refine Qa ?_|refine Qb ?_|refine Qc ?_|refine Qd ?_|refine Qe ?_|refine Qf ?_)|((with_reducible refine Qo ?_ ?_);focus rfl)|((with_reducible first|refine QT 12 (l:=?_) ?_ ?_|refine QF 12 (l:=?_) ?_ ?_);rotate_left 1;focus (simp only [Zu,Nat.reduceSub,Nat.reduceBEq];with_reducible rfl))|((with_reducible first|refine QS (cfg_ok 45) Tab.none (s':=?_) ?_ ?_|refine QC (b:=?_) ?_ ?_);rotate_left 1;focus ((with_reducible refine QW ?_);simp only [Zg,seval,if_true,if_false,reduceCtorEq,Nat.reduceEqDiff];with_reducible rfl)))
 obtain ⟨R,hR⟩:∃ R,R = fun i => runsF (fun p:List Int × List Nat => p.1) (ps.take i):=⟨_,rfl⟩
 have hRb:∀ i,i ≤ ps.length→(R i).length ≤ 100000∧∀ z ∈ R i,1 ≤ z.2∧z.2 ≤ 100000:=fun i hi => by
  rw [hR]
  obtain ⟨h1,h2⟩:=runsF_sub (fun p:List Int × List Nat => p.1) _ (ps.take i) rfl
  have h3:=h1.length_le
  rw [List.length_map,List.length_take] at h3
  rw [List.length_take] at h2
  exact ⟨by show (runsF _ _).length ≤ 100000;omega,fun z hz => by have:=h2 z hz;omega⟩
 refine RunK.loop (β:=Nat) (γ:=Unit) (fun i => ⟨[(3,.c (.own 3 (R i).length)),(9,.c (.own 9 ps.length)),(10,.c (.val (.int ps.length))),(11,.c (.val (.int i)))],[(3,.row 2 ((R i).map eCtT) false),(9,.row 1 (ps.map eLT) false)]⟩) (fun i => i ≤ ps.length) (fun i => ps.length - i)
  (fun _ => ⟨[(3,.c (.own 3 (R ps.length).length))],[(3,.row 2 ((R ps.length).map eCtT) false)]⟩) (fun _ => True) 0 (Nat.zero_le _) ?_ ?_ ?_
 ·have e0:R 0 = []:=by rw [hR];rfl
  have hfl:(forest ts).length = ps.length:=by rw [hpl];exact (show (sortC cmpT ts).Perm ts from sortC_perm ts).length_eq
  rw [e0,hfl]
  (repeat' (first|with_reducible refine Qn|((with_reducible refine Qr ?_ ?_);focus (first|with_reducible rfl|(simp only [Zz,Nat.reduceBEq,List.map_nil,List.length_map,Int.natCast_zero];done)|rfl))|((with_reducible refine Qj (o':=?_) ?_ ?_ ?_);rotate_left 1;focus rfl)|((with_reducible refine Qw ?_ ?_);(focus (first|with_reducible rfl|(simp only [Zv,List.map_nil,List.length_map,Int.natCast_zero];done)));focus (first|exact id|exact (fun h => nomatch h)|exact (fun _ => rfl)))))
 ·intro i hi
  have hi:i ≤ ps.length:=hi
  have hw:=w64_succ (n:=i) (by omega)
  obtain ⟨hb1,hb2⟩:=hRb i hi
  by_cases h:i < ps.length
  ·have i1:((i:Int) < (ps.length:Int)) = True:=eq_true (by omega)
   have i2:((0:Int) ≤ (i:Int)) = True:=eq_true (by omega)
   obtain ⟨p,hp⟩:∃ p,p = ps[i]:=⟨_,rfl⟩
   have hg:(ps.map eLT)[i]? = some [.tag p.2 (.sl 1 (p.1.map eI))]:=by rw [map_get h,hp];rfl
   have hst:R (i + 1) = stepC (fun p:List Int × List Nat => p.1) (R i) p:=by
    rw [hR]
    show runsF _ (ps.take (i + 1)) = stepC _ (runsF _ (ps.take i)) p
    rw [List.take_succ_eq_append_getElem h,runsF_snoc,hp]
   have q1:=big_le (n:=(R i).length + 1) (by omega)
   have q2:=big_mul (n:=(R i).length + 1) (c:=32) (by omega) (by omega)
   by_cases h0:R i = []
   ·rw [h0,stepC_nil] at hst
    have j1:(((0:Nat):Int) > 0) = False:=eq_false (by omega)
    rw [h0] at q1 q2 ⊢
    simp only [List.length_nil] at q1 q2
    repeat' (first|with_reducible (first|refine Q1 ?_|refine Q2 ?_|refine Q3 ?_|refine Q4 ?_|refine Q5 ?_|refine Q6 ?_|refine Q7 ?_|refine Q8 ?_|refine Q9 ?_|refine Qa ?_|refine Qb ?_|refine Qc ?_|refine Qd ?_|refine Qe ?_|refine Qf ?_)|((with_reducible refine Qo ?_ ?_);focus rfl)|((with_reducible first|refine QT 12 (l:=?_) ?_ ?_|refine QF 12 (l:=?_) ?_ ?_);rotate_left 1;focus (simp only [Zu,Nat.reduceSub,Nat.reduceBEq];with_reducible rfl))|((with_reducible first|refine QS (cfg_ok 45) TEq (s':=?_) ?_ ?_|refine QC (b:=?_) ?_ ?_);rotate_left 1;focus ((with_reducible refine QW ?_);simp only [Zg,seval,if_true,if_false,reduceCtorEq,Nat.reduceEqDiff,TEq,i1,i2,hg,hw,j1,q1,q2,Int.toNat_natCast,List.length_map,List.length_nil];with_reducible rfl)))
    refine roundK.on (i + 1) ⟨h,by omega⟩ ?_
    rw [hst]
    (repeat' (first|with_reducible refine Qn|((with_reducible refine Qr ?_ ?_);focus (first|with_reducible rfl|(simp only [Zz,Nat.reduceBEq,eCtT,List.map_nil];done)|rfl))|((with_reducible refine Qj (o':=?_) ?_ ?_ ?_);rotate_left 1;focus rfl)|((with_reducible refine Qw ?_ ?_);(focus (first|with_reducible rfl|(simp only [Zv,eCtT,List.map_nil];done)));focus (first|exact id|exact (fun h => nomatch h)|exact (fun _ => rfl)))))
   ·obtain ⟨out,z,ez⟩:=snoc_of h0
    have hzb:=hb2 z (by rw [ez];simp)
    rw [ez] at hst hb1 q1 q2 ⊢
    simp only [List.length_append,List.length_singleton] at hb1 q1 q2
    have hlz:(out ++ [z]).length = out.length + 1:=by simp
    have j1:((((out.length + 1:Nat)):Int) > 0) = True:=eq_true (by omega)
    have hw1:w64 (((out.length + 1:Nat):Int) - 1) = ((out.length:Nat):Int):=by rw [w64_eq (by omega)];omega
    have i3:((0:Int) ≤ ((out.length:Nat):Int)) = True:=eq_true (by omega)
    have i4:(((out.length:Nat):Int) < ((out.length + 1:Nat):Int)) = True:=eq_true (by omega)
    have hgz:((out ++ [z]).map eCtT)[out.length]? = some [.tag z.1.2 (.sl 1 (z.1.1.map eI)),.int z.2]:=by
     rw [List.map_append,List.getElem?_append_right (by simp)];simp [eCtT]
    by_cases he:z.1.1 = p.1
    ·rw [stepC_eq _ out z p he] at hst
     have hd:decide (z.1.1 = p.1) = true:=decide_eq_true he
     have hwz:=w64_eq (n:=z.2 + 1) (by omega)
     repeat' (first|with_reducible (first|refine Q1 ?_|refine Q2 ?_|refine Q3 ?_|refine Q4 ?_|refine Q5 ?_|refine Q6 ?_|refine Q7 ?_|refine Q8 ?_|refine Q9 ?_|refine Qa ?_|refine Qb ?_|refine Qc ?_|refine Qd ?_|refine Qe ?_|refine Qf ?_)|((with_reducible refine Qo ?_ ?_);focus rfl)|((with_reducible first|refine QT 12 (l:=?_) ?_ ?_|refine QF 12 (l:=?_) ?_ ?_);rotate_left 1;focus (simp only [Zu,Nat.reduceSub,Nat.reduceBEq];with_reducible rfl))|((with_reducible first|refine QS (cfg_ok 45) TEq (s':=?_) ?_ ?_|refine QC (b:=?_) ?_ ?_);rotate_left 1;focus ((with_reducible refine QW ?_);simp only [Zg,seval,if_true,if_false,reduceCtorEq,Nat.reduceEqDiff,TEq,TEq,i1,i2,i3,i4,hg,hgz,hlz,hw,hw1,hwz,hd,j1,Int.toNat_natCast,List.length_map];with_reducible rfl)))
     have hse:((out ++ [z]).map eCtT).set out.length [.tag z.1.2 (.sl 1 (z.1.1.map eI)),.int (z.2 + 1)] = (out ++ [(z.1,z.2 + 1)]).map eCtT:=by
      rw [List.map_append,List.set_append_right _ _ (by simp)];simp [eCtT]
     refine roundK.on (i + 1) ⟨h,by omega⟩ ?_
     rw [hst,hse]
     (repeat' (first|with_reducible refine Qn|((with_reducible refine Qr ?_ ?_);focus (first|with_reducible rfl|(simp only [Zz,Nat.reduceBEq,eCtT];done)|rfl))|((with_reducible refine Qj (o':=?_) ?_ ?_ ?_);rotate_left 1;focus rfl)|((with_reducible refine Qw ?_ ?_);(focus (first|with_reducible rfl|(simp only [Zv,eCtT];done)));focus (first|exact id|exact (fun h => nomatch h)|exact (fun _ => rfl)))))
    ·rw [stepC_ne _ out z p he] at hst
     have hd:decide (z.1.1 = p.1) = false:=decide_eq_false he
     repeat' (first|with_reducible (first|refine Q1 ?_|refine Q2 ?_|refine Q3 ?_|refine Q4 ?_|refine Q5 ?_|refine Q6 ?_|refine Q7 ?_|refine Q8 ?_|refine Q9 ?_|refine Qa ?_|refine Qb ?_|refine Qc ?_|refine Qd ?_|refine Qe ?_|refine Qf ?_)|((with_reducible refine Qo ?_ ?_);focus rfl)|((with_reducible first|refine QT 12 (l:=?_) ?_ ?_|refine QF 12 (l:=?_) ?_ ?_);rotate_left 1;focus (simp only [Zu,Nat.reduceSub,Nat.reduceBEq];with_reducible rfl))|((with_reducible first|refine QS (cfg_ok 45) TEq (s':=?_) ?_ ?_|refine QC (b:=?_) ?_ ?_);rotate_left 1;focus ((with_reducible refine QW ?_);simp only [Zg,seval,if_true,if_false,reduceCtorEq,Nat.reduceEqDiff,TEq,TEq,i1,i2,i3,i4,hg,hgz,hlz,hw,hw1,hd,j1,q1,q2,Int.toNat_natCast,List.length_map];with_reducible rfl)))
     refine roundK.on (i + 1) ⟨h,by omega⟩ ?_
     rw [hst]
     (repeat' (first|with_reducible refine Qn|((with_reducible refine Qr ?_ ?_);focus (first|with_reducible rfl|(simp only [Zz,Nat.reduceBEq,eCtT];done)|rfl))|((with_reducible refine Qj (o':=?_) ?_ ?_ ?_);rotate_left 1;focus rfl)|((with_reducible refine Qw ?_ ?_);(focus (first|with_reducible rfl|(simp only [Zv,eCtT];done)));focus (first|exact id|exact (fun h => nomatch h)|exact (fun _ => rfl)))))
  ·have i1:((i:Int) < (ps.length:Int)) = False:=eq_false (by omega)
   obtain rfl:i = ps.length:=by omega
   repeat' (first|with_reducible (first|refine Q1 ?_|refine Q2 ?_|refine Q3 ?_|refine Q4 ?_|refine Q5 ?_|refine Q6 ?_|refine Q7 ?_|refine Q8 ?_|refine Q9 ?_|refine Qa ?_|refine Qb ?_|refine Qc ?_|refine Qd ?_|refine Qe ?_|refine Qf ?_)|((with_reducible refine Qo ?_ ?_);focus rfl)|((with_reducible first|refine QT 12 (l:=?_) ?_ ?_|refine QF 12 (l:=?_) ?_ ?_);rotate_left 1;focus (simp only [Zu,Nat.reduceSub,Nat.reduceBEq];with_reducible rfl))|((with_reducible first|refine QS (cfg_ok 45) Tab.none (s':=?_) ?_ ?_|refine QC (b:=?_) ?_ ?_);rotate_left 1;focus ((with_reducible refine QW ?_);simp only [Zg,seval,if_true,if_false,reduceCtorEq,Nat.reduceEqDiff,i1];with_reducible rfl)))
   refine roundK.out () trivial ?_
   (repeat' (first|with_reducible refine Qn|((with_reducible refine Qr ?_ ?_);focus (first|with_reducible rfl|(simp only [Zz,Nat.reduceBEq];done)|rfl))|((with_reducible refine Qj (o':=?_) ?_ ?_ ?_);rotate_left 1;focus rfl)|((with_reducible refine Qw ?_ ?_);(focus (first|with_reducible rfl|(simp only [Zv];done)));focus (first|exact id|exact (fun h => nomatch h)|exact (fun _ => rfl)))))
 ·rintro _ _
  repeat' (first|with_reducible (first|refine Q1 ?_|refine Q2 ?_|refine Q3 ?_|refine Q4 ?_|refine Q5 ?_|refine Q6 ?_|refine Q7 ?_|refine Q8 ?_|refine Q9 ?_|refine Qa ?_|refine Qb ?_|refine Qc ?_|refine Qd ?_|refine Qe ?_|refine Qf ?_)|((with_reducible refine Qo ?_ ?_);focus rfl)|((with_reducible first|refine QT 12 (l:=?_) ?_ ?_|refine QF 12 (l:=?_) ?_ ?_);rotate_left 1;focus (simp only [Zu,Nat.reduceSub,Nat.reduceBEq];with_reducible rfl))|((with_reducible first|refine QS (cfg_ok 45) Tab.none (s':=?_) ?_ ?_|refine QC (b:=?_) ?_ ?_);rotate_left 1;focus ((with_reducible refine QW ?_);simp only [Zg,seval,if_true,if_false,reduceCtorEq,Nat.reduceEqDiff];with_reducible rfl)))
  have hRe:(R ps.length).map (fun z => (z.1.1,z.2)) = cntOf ts:=by
   rw [hR]
   show (runsF _ (ps.take ps.length)).map _ = _
   rw [List.take_length,runsF_map _ _ ps rfl,← e1];rfl
  refine Ends.un (by simp) hres hrts (r:=?_) (r':=.own 2 ((cntOf ts).map eCt) true) (l:=[]) (ks:=?_) ?_ ?_ (by simp) ?_ rfl
  rotate_left 2
  focus (simp only [aresults,ares,Zg,seval,if_true,if_false,reduceCtorEq,Nat.reduceEqDiff];with_reducible rfl)
  focus simp
  rw [← hRe]
  have hsub:((R ps.length).map (·.1)).Sublist ps:=by
   have:=(runsF_sub (fun p:List Int × List Nat => p.1) _ (ps.take ps.length) rfl).1
   rw [hR]
   show (List.map _ (runsF (fun p:List Int × List Nat => p.1) (ps.take ps.length))).Sublist ps
   rw [List.take_length] at this ⊢
   exact this
  have hsub2:((R ps.length).map (·.1.2)).Sublist (ps.map (·.2)):=by
   have:=hsub.map (·.2)
   rwa [List.map_map] at this
  refine ⟨((R ps.length).map (·.1.2)).flatten,?_,fun b hb => hF b ?_,.inl ⟨2,_,_,rfl,rfl,tag_mk2 _⟩⟩
  ·rw [e3] at hnd
   exact hnd.sublist (sub_flat2 hsub2)
  ·rw [e3]
   exact (sub_flat2 hsub2).subset hb
end Go.Proofs.Ytofpjonggpjneaa
namespace Go.Proofs.Ytofpjonggpjneaa
open Go.RowKit
set_option maxRecDepth 20000 in
set_option maxHeartbeats 8000000 in
theorem a_l05Cuts (t:List Int) (h:LevP t) (hc:canon t = t) (hl:t.length ≤ 8):AFn Try.prog 150 [eL t] (· = [.own 3 ((cutsL t).map eCu) false]):=by
 have htr:=a_l05Tree 8 (Nat.le_refl _) t h hc hl
 have hone:=gath_trunk t h
 have hgood:=gath_good (split_good _ (Nat.le_refl _) h)
 have hgl:(gathS (split t)).length ≤ 256:=by
  have h0:=(gathS_is (split t)).len
  rw [List.length_map] at h0
  have h1:=split_len _ (Nat.le_refl _) h
  have h2:2 ^ t.length ≤ 2 ^ 8:=Nat.pow_le_pow_right (by decide) hl
  omega
 obtain ⟨L,hL⟩:∃ L,L = gathS (split t):=⟨_,rfl⟩
 have hcl:cutsL t = L.map cutS:=by rw [hL];rfl
 rw [hcl]
 rw [← hL] at htr hone hgood hgl
 simp only [eL] at htr
 have hLm:(L.map eSp).length = L.length:=List.length_map _
 refine AFn.of_runs (cfg_ok 49) Try.func150 rfl rfl rfl (by simp only [List.length_cons,List.length_nil];decide) ?_
 have hres:Try.f150.results.toList = [.tmp 2]:=rfl
 have hrts:Try.f150.resultTypes.toList = [127]:=rfl
 simp only [argRegs,argAV1,eL,eI,eLL,eB,Nat.zero_add,Nat.reduceAdd]
 intro M
 refine RunK.of ?_
 repeat' (first|with_reducible (first|refine Q1 ?_|refine Q2 ?_|refine Q3 ?_|refine Q4 ?_|refine Q5 ?_|refine Q6 ?_|refine Q7 ?_|refine Q8 ?_|refine Q9 ?_|refine Qa ?_|refine Qb ?_|refine Qc ?_|refine Qd ?_|refine Qe ?_|refine Qf ?_)|((with_reducible refine Qo ?_ ?_);focus rfl)|((with_reducible first|refine QT 7 (l:=?_) ?_ ?_|refine QF 7 (l:=?_) ?_ ?_);rotate_left 1;focus (simp only [Zu,Nat.reduceSub,Nat.reduceBEq];with_reducible rfl))|((with_reducible first|refine QS (cfg_ok 49) (Tab.none.at' 183 htr) (s':=?_) ?_ ?_|refine QC (b:=?_) ?_ ?_);rotate_left 1;focus ((with_reducible refine QW ?_);simp only [Zg,seval,if_true,if_false,reduceCtorEq,Nat.reduceEqDiff];with_reducible rfl))|((with_reducible refine QD (cfg_ok 49) (Tab.none.at' 183 htr) mixed_ok (tr:=?_) (s':=?_) ?_ ?_ ?_);rotate_left 2;(focus ((with_reducible refine QW ?_);simp only [Zg,Zd,seval,if_true,if_false,reduceCtorEq,Nat.reduceEqDiff];with_reducible rfl));focus ((with_reducible refine QK ?_);simp only [Zk];kernel_rfl)))
 refine RunK.loop (β:=Nat) (γ:=Unit) (fun i => ⟨[(3,.c (.val (.sl 3 (L.map eSp)))),(4,.c (.own 4 i)),(5,.c (.val (.int i)))],[(4,.row 3 (((L.take i).map cutS).map eCu) false)]⟩) (fun i => i ≤ L.length) (fun i => L.length - i)
  (fun _ => ⟨[(4,.c (.own 4 L.length))],[(4,.row 3 ((L.map cutS).map eCu) false)]⟩) (fun _ => True) 0 (Nat.zero_le _) ?_ ?_ ?_
 ·(repeat' (first|with_reducible refine Qn|((with_reducible refine Qr ?_ ?_);focus (first|with_reducible rfl|(simp only [Zz,Nat.reduceBEq,List.take_zero,List.map_nil,Int.natCast_zero];done)|rfl))|((with_reducible refine Qj (o':=?_) ?_ ?_ ?_);rotate_left 1;focus rfl)|((with_reducible refine Qw ?_ ?_);(focus (first|with_reducible rfl|(simp only [Zv,List.take_zero,List.map_nil,Int.natCast_zero];done)));focus (first|exact id|exact (fun h => nomatch h)|exact (fun _ => rfl)))))
 ·intro i hi
  have hi:i ≤ L.length:=hi
  have hw:=w64_succ (n:=i) (by omega)
  have hrl:(((L.take i).map cutS).map eCu).length = i:=by rw [List.length_map,List.length_map,List.length_take];omega
  by_cases hiL:i < L.length
  ·have i1:((i:Int) < (L.length:Int)) = True:=eq_true (by omega)
   have i2:((0:Int) ≤ (i:Int)) = True:=eq_true (by omega)
   obtain ⟨z,hz⟩:∃ z,z = L[i]:=⟨_,rfl⟩
   have hg:(L.map eSp)[i]? = some [.sl 1 (z.1.1.map eL),.sl 1 (z.1.2.map eL),.int z.2]:=by rw [map_get hiL,hz];rfl
   have htk:((L.take (i + 1)).map cutS).map eCu = ((L.take i).map cutS).map eCu ++ [eCu (cutS z)]:=by
    rw [hz,List.take_succ_eq_append_getElem hiL,List.map_append,List.map_append];rfl
   have hz1:=hone L[i] (List.getElem_mem _)
   have hz2:=(hgood L[i] (List.getElem_mem _)).2.2
   rw [← hz] at hz1 hz2
   have hha:=hz2.ha (by omega)
   have how:=AFn.val1 (a_l01Own2 z.1.1 (by have:=hha.1.1;omega) (fun b hb => by have:=sumLen_mem hb;have:=hha.1.2;omega))
   have q1:=big_le (n:=i + 1) (by omega)
   have q2:=big_mul (n:=i + 1) (c:=56) (by omega) (by omega)
   obtain ⟨⟨f,g⟩,n⟩:=z
   simp only at hg hz1 how hha
   simp only [eLL] at how
   match g,hz1 with
   | [],_ =>
    have j1:((([]:List (List Int)).length:Int) > 0) = False:=eq_false (by simp)
    repeat' (first|with_reducible (first|refine Q1 ?_|refine Q2 ?_|refine Q3 ?_|refine Q4 ?_|refine Q5 ?_|refine Q6 ?_|refine Q7 ?_|refine Q8 ?_|refine Q9 ?_|refine Qa ?_|refine Qb ?_|refine Qc ?_|refine Qd ?_|refine Qe ?_|refine Qf ?_)|((with_reducible refine Qo ?_ ?_);focus rfl)|((with_reducible first|refine QT 7 (l:=?_) ?_ ?_|refine QF 7 (l:=?_) ?_ ?_);rotate_left 1;focus (simp only [Zu,Nat.reduceSub,Nat.reduceBEq];with_reducible rfl))|((with_reducible first|refine QS (cfg_ok 49) (Tab.none.at' 180 how) (s':=?_) ?_ ?_|refine QC (b:=?_) ?_ ?_);rotate_left 1;focus ((with_reducible refine QW ?_);simp only [Zg,seval,if_true,if_false,reduceCtorEq,Nat.reduceEqDiff,i1,i2,j1,hg,hLm,hw,hrl,q1,q2,Int.toNat_natCast,List.length_map,List.length_nil];with_reducible rfl))|((with_reducible refine QD (cfg_ok 49) (Tab.none.at' 180 how) mixed_ok (tr:=?_) (s':=?_) ?_ ?_ ?_);rotate_left 2;(focus ((with_reducible refine QW ?_);simp only [Zg,Zd,seval,if_true,if_false,reduceCtorEq,Nat.reduceEqDiff,i1,i2,j1,hg,hLm,hw,hrl,q1,q2,Int.toNat_natCast,List.length_map,List.length_nil];with_reducible rfl));focus ((with_reducible refine QK ?_);simp only [Zk];kernel_rfl)))
    refine roundK.on (i + 1) ⟨hiL,by omega⟩ ?_
    rw [htk]
    (repeat' (first|with_reducible refine Qn|((with_reducible refine Qr ?_ ?_);focus (first|with_reducible rfl|(simp only [Zz,Nat.reduceBEq,eCu,cutS,e3,List.headD_nil,List.map_nil];done)|rfl))|((with_reducible refine Qj (o':=?_) ?_ ?_ ?_);rotate_left 1;focus rfl)|((with_reducible refine Qw ?_ ?_);(focus (first|with_reducible rfl|(simp only [Zv,eCu,cutS,e3,List.headD_nil,List.map_nil];done)));focus (first|exact id|exact (fun h => nomatch h)|exact (fun _ => rfl)))))
   | [tr],_ =>
    have j1:((([tr]:List (List Int)).length:Int) > 0) = True:=eq_true (by simp)
    have hot:=AFn.valT (a_l01Own tr (by have h6:sumLen [tr] ≤ 50:=hha.2.2;have h5:sumLen [tr] = tr.length + 0:=rfl;omega))
    simp only [eL] at hot
    repeat' (first|with_reducible (first|refine Q1 ?_|refine Q2 ?_|refine Q3 ?_|refine Q4 ?_|refine Q5 ?_|refine Q6 ?_|refine Q7 ?_|refine Q8 ?_|refine Q9 ?_|refine Qa ?_|refine Qb ?_|refine Qc ?_|refine Qd ?_|refine Qe ?_|refine Qf ?_)|((with_reducible refine Qo ?_ ?_);focus rfl)|((with_reducible first|refine QT 7 (l:=?_) ?_ ?_|refine QF 7 (l:=?_) ?_ ?_);rotate_left 1;focus (simp only [Zu,Nat.reduceSub,Nat.reduceBEq];with_reducible rfl))|((with_reducible first|refine QS (cfg_ok 49) ((Tab.none.at' 180 how).at' 164 hot) (s':=?_) ?_ ?_|refine QC (b:=?_) ?_ ?_);rotate_left 1;focus ((with_reducible refine QW ?_);simp only [Zg,seval,if_true,if_false,reduceCtorEq,Nat.reduceEqDiff,i1,i2,j1,hg,hLm,hw,hrl,q1,q2,Int.toNat_natCast,List.length_map,List.length_nil,eL];with_reducible rfl))|((with_reducible refine QD (cfg_ok 49) ((Tab.none.at' 180 how).at' 164 hot) mixed_ok (tr:=?_) (s':=?_) ?_ ?_ ?_);rotate_left 2;(focus ((with_reducible refine QW ?_);simp only [Zg,Zd,seval,if_true,if_false,reduceCtorEq,Nat.reduceEqDiff,i1,i2,j1,hg,hLm,hw,hrl,q1,q2,Int.toNat_natCast,List.length_map,List.length_nil,eL];with_reducible rfl));focus ((with_reducible refine QK ?_);simp only [Zk];kernel_rfl)))
    refine roundK.on (i + 1) ⟨hiL,by omega⟩ ?_
    rw [htk]
    (repeat' (first|with_reducible refine Qn|((with_reducible refine Qr ?_ ?_);focus (first|with_reducible rfl|(simp only [Zz,Nat.reduceBEq,eCu,cutS,e3,List.headD_cons,List.map_nil];done)|rfl))|((with_reducible refine Qj (o':=?_) ?_ ?_ ?_);rotate_left 1;focus rfl)|((with_reducible refine Qw ?_ ?_);(focus (first|with_reducible rfl|(simp only [Zv,eCu,cutS,e3,List.headD_cons,List.map_nil];done)));focus (first|exact id|exact (fun h => nomatch h)|exact (fun _ => rfl)))))
  ·have i1:((i:Int) < (L.length:Int)) = False:=eq_false (by omega)
   obtain rfl:i = L.length:=by omega
   repeat' (first|with_reducible (first|refine Q1 ?_|refine Q2 ?_|refine Q3 ?_|refine Q4 ?_|refine Q5 ?_|refine Q6 ?_|refine Q7 ?_|refine Q8 ?_|refine Q9 ?_|refine Qa ?_|refine Qb ?_|refine Qc ?_|refine Qd ?_|refine Qe ?_|refine Qf ?_)|((with_reducible refine Qo ?_ ?_);focus rfl)|((with_reducible first|refine QT 7 (l:=?_) ?_ ?_|refine QF 7 (l:=?_) ?_ ?_);rotate_left 1;focus (simp only [Zu,Nat.reduceSub,Nat.reduceBEq];with_reducible rfl))|((with_reducible first|refine QS (cfg_ok 49) Tab.none (s':=?_) ?_ ?_|refine QC (b:=?_) ?_ ?_);rotate_left 1;focus ((with_reducible refine QW ?_);simp only [Zg,seval,if_true,if_false,reduceCtorEq,Nat.reduceEqDiff,i1,hLm];with_reducible rfl))|((with_reducible refine QD (cfg_ok 49) Tab.none mixed_ok (tr:=?_) (s':=?_) ?_ ?_ ?_);rotate_left 2;(focus ((with_reducible refine QW ?_);simp only [Zg,Zd,seval,if_true,if_false,reduceCtorEq,Nat.reduceEqDiff,i1,hLm];with_reducible rfl));focus ((with_reducible refine QK ?_);simp only [Zk];kernel_rfl)))
   refine roundK.out () trivial ?_
   rw [List.take_length]
   (repeat' (first|with_reducible refine Qn|((with_reducible refine Qr ?_ ?_);focus (first|with_reducible rfl|(simp only [Zz,Nat.reduceBEq];done)|rfl))|((with_reducible refine Qj (o':=?_) ?_ ?_ ?_);rotate_left 1;focus rfl)|((with_reducible refine Qw ?_ ?_);(focus (first|with_reducible rfl|(simp only [Zv];done)));focus (first|exact id|exact (fun h => nomatch h)|exact (fun _ => rfl)))))
 ·rintro _ _
  repeat' (first|with_reducible (first|refine Q1 ?_|refine Q2 ?_|refine Q3 ?_|refine Q4 ?_|refine Q5 ?_|refine Q6 ?_|refine Q7 ?_|refine Q8 ?_|refine Q9 ?_|refine Qa ?_|refine Qb ?_|refine Qc ?_|refine Qd ?_|refine Qe ?_|refine Qf ?_)|((with_reducible refine Qo ?_ ?_);focus rfl)|((with_reducible first|refine QT 7 (l:=?_) ?_ ?_|refine QF 7 (l:=?_) ?_ ?_);rotate_left 1;focus (simp only [Zu,Nat.reduceSub,Nat.reduceBEq];with_reducible rfl))|((with_reducible first|refine QS (cfg_ok 49) Tab.none (s':=?_) ?_ ?_|refine QC (b:=?_) ?_ ?_);rotate_left 1;focus ((with_reducible refine QW ?_);simp only [Zg,seval,if_true,if_false,reduceCtorEq,Nat.reduceEqDiff];with_reducible rfl))|((with_reducible refine QD (cfg_ok 49) Tab.none mixed_ok (tr:=?_) (s':=?_) ?_ ?_ ?_);rotate_left 2;(focus ((with_reducible refine QW ?_);simp only [Zg,Zd,seval,if_true,if_false,reduceCtorEq,Nat.reduceEqDiff];with_reducible rfl));focus ((with_reducible refine QK ?_);simp only [Zk];kernel_rfl)))
  (refine Ends.mk (by simp) (rs:=?_) (ks:=?_) hres hrts ?_ ?_ ?_;rotate_left 2;(focus (simp only [Ze,Zg,seval,if_true,if_false,reduceCtorEq,Nat.reduceEqDiff];with_reducible rfl));(focus simp);focus (first|with_reducible rfl|(simp only [Zv];done)))
end Go.Proofs.Ytofpjonggpjneaa
namespace Go.Proofs.Ytofpjonggpjneaa
open Go.RowKit
theorem ChgF.cell {F:List Nat} {w w':World} (h:ChgF F w w') {g off:Nat} (hg:g < w.heap.size) (hn:g ∉ F):w'.cell? ⟨g,off,none⟩ = w.cell? ⟨g,off,none⟩:=by
 have:=h.block g hg hn
 simp only [World.cell?,this]
section
variable {β γ:Type} {S:Rep β} {T:Rep γ} {w:World}
end
end Go.Proofs.Ytofpjonggpjneaa
namespace Go.Proofs.Ytofpjonggpjneaa
open Go.RowKit
theorem cuts_good {t:List Int} (h:LevP t) (hl:t.length ≤ 8):(cutsL t).length ≤ 256∧∀ x ∈ cutsL t,(1 ≤ x.2∧x.2 ≤ 256)∧sumLen x.1.1 ≤ 8∧x.1.2.length ≤ 8:=by
 have h0:=(gathS_is (split t)).len
 rw [List.length_map] at h0
 have h1:=split_len _ (Nat.le_refl _) h
 have h2:2 ^ t.length ≤ 2 ^ 8:=Nat.pow_le_pow_right (by decide) hl
 refine ⟨by unfold cutsL;rw [List.length_map];omega,fun x hx => ?_⟩
 obtain ⟨z,hz,rfl⟩:=List.mem_map.1 hx
 obtain ⟨g1,g2,g3⟩:=gath_good (split_good _ (Nat.le_refl _) h) z hz
 have hone:=gath_trunk t h z hz
 have hsum:=g3.2
 refine ⟨⟨g1,by show z.2 ≤ 256;omega⟩,by show sumLen z.1.1 ≤ 8;omega,?_⟩
 obtain ⟨⟨f,g⟩,n⟩:=z
 match g,hone with
 | [],_ => exact Nat.zero_le _
 | [tr],_ =>
  have h5:sumLen [tr] = tr.length + 0:=rfl
  have hsum:sumLen f + sumLen [tr] = t.length:=hsum
  show tr.length ≤ 8;omega
end Go.Proofs.Ytofpjonggpjneaa
