/- Lemmas (8). -/
import Derived.Test.YtofpjonggpjneaaZC1
import Derived.Test.YtofpjonggpjneaaZC2
import Derived.Test.YtofpjonggpjneaaZC3
import Derived.Test.YtofpjonggpjneaaZC6
import Derived.Test.YtofpjonggpjneaaZC7
set_option linter.unusedSimpArgs false
set_option linter.unusedVariables false
namespace Go.Proofs.Ytofpjonggpjneaa
open Go.RowKit
noncomputable def T0:Tab Try.prog :=
 ((Tab.none.add 124 (tab2 codL codL fun xs ys => some [.val (.bool (decide (cmpT xs ys < 0)))]) (tab2_ok fun xs ys rs h => by cases h;exact a_l03Before xs ys)).add
   182 (tab2 codL codL fun xs ys => some [.val (.bool (decide (xs = ys)))]) (tab2_ok fun xs ys rs h => by cases h;exact a_l01Same xs ys)).add
   164 (tab1 codL fun xs => if xs.length ≤ 1000000000 then some [.own 1 (xs.map eI) true] else none) (tab1_ok fun xs rs h => by split at h;cases h;exact a_l01Own xs ‹_›;cases h)
set_option maxHeartbeats 2000000 in
theorem a_l04Put (s:List (List Int × Int)) (t:List Int) (n:Int) (hr:RiseC s) (hsz:s.length ≤ 1000) (htz:t.length ≤ 1000) (hadd:∀ z ∈ s,In64 (z.2 + n)):AFn Try.prog 145 [[.sl 2 (s.map eCt)],eL t,eI n] (· = [.own 2 ((putC s t n).map eCt) false]):=by
 refine AFn.of_runs (cfg_ok 92) Try.func145 rfl rfl rfl (by simp only [List.length_cons,List.length_nil];decide) ?_
 have hres:Try.f145.results.toList = [.tmp 6]:=rfl
 have hrts:Try.f145.resultTypes.toList = [40]:=rfl
 simp only [argRegs,argAV1,eL,eI,eLL,eB,Nat.zero_add,Nat.reduceAdd]
 intro M
 refine RunK.of ?_
 repeat' (first|with_reducible (first|refine Q1 ?_|refine Q2 ?_|refine Q3 ?_|refine Q4 ?_|refine Q5 ?_|refine Q6 ?_|refine Q7 ?_|refine Q8 ?_|refine Q9 ?_|refine Qa ?_|refine Qb ?_|refine Qc ?_|refine Qd ?_|refine Qe ?_|refine Qf ?_)|((with_reducible refine Qo ?_ ?_);focus rfl)|((with_reducible first|refine QT 11 (l:=?_) ?_ ?_|refine QF 11 (l:=?_) ?_ ?_);rotate_left 1;focus (simp only [Zu,Nat.reduceSub,Nat.reduceBEq];with_reducible rfl))|((with_reducible first|refine QS (cfg_ok 92) T0 (s':=?_) ?_ ?_|refine QC (b:=?_) ?_ ?_);rotate_left 1;focus ((with_reducible refine QW ?_);simp only [Zg,seval,if_true,if_false,reduceCtorEq,Nat.reduceEqDiff,T0];with_reducible rfl))|((with_reducible refine QD (cfg_ok 92) T0 mixed_ok (tr:=?_) (s':=?_) ?_ ?_ ?_);rotate_left 2;(focus ((with_reducible refine QW ?_);simp only [Zg,Zd,seval,if_true,if_false,reduceCtorEq,Nat.reduceEqDiff,T0];with_reducible rfl));focus ((with_reducible refine QK ?_);simp only [Zk];kernel_rfl)))
 refine RunK.loop (β:=Nat) (γ:=Nat) (fun i => ⟨[(0,.c (.val (.sl 2 (s.map eCt)))),(1,.c (.val (.sl 1 (t.map eI)))),(2,.c (.val (.int n))),(7,.c (.val (.int i)))],[]⟩) (fun i => i ≤ s.length∧∀ z ∈ s.take i,cmpT z.1 t < 0) (fun i => s.length - i)
  (fun i => ⟨[(0,.c (.val (.sl 2 (s.map eCt)))),(1,.c (.val (.sl 1 (t.map eI)))),(2,.c (.val (.int n))),(7,.c (.val (.int i)))],[]⟩) (fun i => i ≤ s.length∧(∀ z ∈ s.take i,cmpT z.1 t < 0)∧∀ h:i < s.length,¬ cmpT s[i].1 t < 0) 0 ⟨Nat.zero_le _,by simp⟩ ?_ ?_ ?_
 ·(repeat' (first|with_reducible refine Qn|((with_reducible refine Qr ?_ ?_);focus (first|with_reducible rfl|(simp only [Zz,Nat.reduceBEq];done)|rfl))|((with_reducible refine Qj (o':=?_) ?_ ?_ ?_);rotate_left 1;focus rfl)|((with_reducible refine Qw ?_ ?_);(focus (first|with_reducible rfl|(simp only [Zv];done)));focus (first|exact id|exact (fun h => nomatch h)|exact (fun _ => rfl)))))
 ·rintro i ⟨hi,hlow⟩
  have hw:=w64_succ (n:=i) (by omega)
  by_cases h:i < s.length
  ·by_cases hc:cmpT s[i].1 t < 0
   ·repeat' (first|with_reducible (first|refine Q1 ?_|refine Q2 ?_|refine Q3 ?_|refine Q4 ?_|refine Q5 ?_|refine Q6 ?_|refine Q7 ?_|refine Q8 ?_|refine Q9 ?_|refine Qa ?_|refine Qb ?_|refine Qc ?_|refine Qd ?_|refine Qe ?_|refine Qf ?_)|((with_reducible refine Qo ?_ ?_);focus rfl)|((with_reducible first|refine QT 11 (l:=?_) ?_ ?_|refine QF 11 (l:=?_) ?_ ?_);rotate_left 1;focus (simp only [Zu,Nat.reduceSub,Nat.reduceBEq];with_reducible rfl))|((with_reducible first|refine QS (cfg_ok 92) T0 (s':=?_) ?_ ?_|refine QC (b:=?_) ?_ ?_);rotate_left 1;focus ((with_reducible refine QW ?_);simp only [Zg,seval,if_true,if_false,reduceCtorEq,Nat.reduceEqDiff,T0,List.length_map,Int.ofNat_lt,h,hc,Int.natCast_nonneg,Int.toNat_natCast,List.getElem?_map,List.getElem?_eq_getElem h,eCt,hw];with_reducible rfl))|((with_reducible refine QD (cfg_ok 92) T0 mixed_ok (tr:=?_) (s':=?_) ?_ ?_ ?_);rotate_left 2;(focus ((with_reducible refine QW ?_);simp only [Zg,Zd,seval,if_true,if_false,reduceCtorEq,Nat.reduceEqDiff,T0,List.length_map,Int.ofNat_lt,h,hc,Int.natCast_nonneg,Int.toNat_natCast,List.getElem?_map,List.getElem?_eq_getElem h,eCt,hw];with_reducible rfl));focus ((with_reducible refine QK ?_);simp only [Zk];kernel_rfl)))
    refine roundK.on (i + 1) ⟨⟨h,?_⟩,by omega⟩ ?_
    ·intro z hz
     rw [List.take_succ_eq_append_getElem h,List.mem_append,List.mem_singleton] at hz
     rcases hz with hz|rfl
     ·exact hlow z hz
     ·exact hc
    ·(repeat' (first|with_reducible refine Qn|((with_reducible refine Qr ?_ ?_);focus (first|with_reducible rfl|(simp only [Zz,Nat.reduceBEq];done)|rfl))|((with_reducible refine Qj (o':=?_) ?_ ?_ ?_);rotate_left 1;focus rfl)|((with_reducible refine Qw ?_ ?_);(focus (first|with_reducible rfl|(simp only [Zv];done)));focus (first|exact id|exact (fun h => nomatch h)|exact (fun _ => rfl)))))
   ·repeat' (first|with_reducible (first|refine Q1 ?_|refine Q2 ?_|refine Q3 ?_|refine Q4 ?_|refine Q5 ?_|refine Q6 ?_|refine Q7 ?_|refine Q8 ?_|refine Q9 ?_|refine Qa ?_|refine Qb ?_|refine Qc ?_|refine Qd ?_|refine Qe ?_|refine Qf ?_)|((with_reducible refine Qo ?_ ?_);focus rfl)|((with_reducible first|refine QT 11 (l:=?_) ?_ ?_|refine QF 11 (l:=?_) ?_ ?_);rotate_left 1;focus (simp only [Zu,Nat.reduceSub,Nat.reduceBEq];with_reducible rfl))|((with_reducible first|refine QS (cfg_ok 92) T0 (s':=?_) ?_ ?_|refine QC (b:=?_) ?_ ?_);rotate_left 1;focus ((with_reducible refine QW ?_);simp only [Zg,seval,if_true,if_false,reduceCtorEq,Nat.reduceEqDiff,T0,List.length_map,Int.ofNat_lt,h,hc,Int.natCast_nonneg,Int.toNat_natCast,List.getElem?_map,List.getElem?_eq_getElem h,eCt,hw];with_reducible rfl))|((with_reducible refine QD (cfg_ok 92) T0 mixed_ok (tr:=?_) (s':=?_) ?_ ?_ ?_);rotate_left 2;(focus ((with_reducible refine QW ?_);simp only [Zg,Zd,seval,if_true,if_false,reduceCtorEq,Nat.reduceEqDiff,T0,List.length_map,Int.ofNat_lt,h,hc,Int.natCast_nonneg,Int.toNat_natCast,List.getElem?_map,List.getElem?_eq_getElem h,eCt,hw];with_reducible rfl));focus ((with_reducible refine QK ?_);simp only [Zk];kernel_rfl)))
    refine roundK.out i ⟨hi,hlow,fun _ => hc⟩ ?_
    (repeat' (first|with_reducible refine Qn|((with_reducible refine Qr ?_ ?_);focus (first|with_reducible rfl|(simp only [Zz,Nat.reduceBEq];done)|rfl))|((with_reducible refine Qj (o':=?_) ?_ ?_ ?_);rotate_left 1;focus rfl)|((with_reducible refine Qw ?_ ?_);(focus (first|with_reducible rfl|(simp only [Zv];done)));focus (first|exact id|exact (fun h => nomatch h)|exact (fun _ => rfl)))))
  ·repeat' (first|with_reducible (first|refine Q1 ?_|refine Q2 ?_|refine Q3 ?_|refine Q4 ?_|refine Q5 ?_|refine Q6 ?_|refine Q7 ?_|refine Q8 ?_|refine Q9 ?_|refine Qa ?_|refine Qb ?_|refine Qc ?_|refine Qd ?_|refine Qe ?_|refine Qf ?_)|((with_reducible refine Qo ?_ ?_);focus rfl)|((with_reducible first|refine QT 11 (l:=?_) ?_ ?_|refine QF 11 (l:=?_) ?_ ?_);rotate_left 1;focus (simp only [Zu,Nat.reduceSub,Nat.reduceBEq];with_reducible rfl))|((with_reducible first|refine QS (cfg_ok 92) T0 (s':=?_) ?_ ?_|refine QC (b:=?_) ?_ ?_);rotate_left 1;focus ((with_reducible refine QW ?_);simp only [Zg,seval,if_true,if_false,reduceCtorEq,Nat.reduceEqDiff,T0,List.length_map,Int.ofNat_lt,h,Int.natCast_nonneg,Int.toNat_natCast,List.getElem?_map,eCt,hw];with_reducible rfl))|((with_reducible refine QD (cfg_ok 92) T0 mixed_ok (tr:=?_) (s':=?_) ?_ ?_ ?_);rotate_left 2;(focus ((with_reducible refine QW ?_);simp only [Zg,Zd,seval,if_true,if_false,reduceCtorEq,Nat.reduceEqDiff,T0,List.length_map,Int.ofNat_lt,h,Int.natCast_nonneg,Int.toNat_natCast,List.getElem?_map,eCt,hw];with_reducible rfl));focus ((with_reducible refine QK ?_);simp only [Zk];kernel_rfl)))
   refine roundK.out i ⟨hi,hlow,fun h' => absurd h' h⟩ ?_
   (repeat' (first|with_reducible refine Qn|((with_reducible refine Qr ?_ ?_);focus (first|with_reducible rfl|(simp only [Zz,Nat.reduceBEq];done)|rfl))|((with_reducible refine Qj (o':=?_) ?_ ?_ ?_);rotate_left 1;focus rfl)|((with_reducible refine Qw ?_ ?_);(focus (first|with_reducible rfl|(simp only [Zv];done)));focus (first|exact id|exact (fun h => nomatch h)|exact (fun _ => rfl)))))
 ·rintro k ⟨hk,hlow,hhigh⟩
  repeat' (first|with_reducible (first|refine Q1 ?_|refine Q2 ?_|refine Q3 ?_|refine Q4 ?_|refine Q5 ?_|refine Q6 ?_|refine Q7 ?_|refine Q8 ?_|refine Q9 ?_|refine Qa ?_|refine Qb ?_|refine Qc ?_|refine Qd ?_|refine Qe ?_|refine Qf ?_)|((with_reducible refine Qo ?_ ?_);focus rfl)|((with_reducible first|refine QT 11 (l:=?_) ?_ ?_|refine QF 11 (l:=?_) ?_ ?_);rotate_left 1;focus (simp only [Zu,Nat.reduceSub,Nat.reduceBEq];with_reducible rfl))|((with_reducible first|refine QS (cfg_ok 92) T0 (s':=?_) ?_ ?_|refine QC (b:=?_) ?_ ?_);rotate_left 1;focus ((with_reducible refine QW ?_);simp only [Zg,seval,if_true,if_false,reduceCtorEq,Nat.reduceEqDiff,T0];with_reducible rfl))|((with_reducible refine QD (cfg_ok 92) T0 mixed_ok (tr:=?_) (s':=?_) ?_ ?_ ?_);rotate_left 2;(focus ((with_reducible refine QW ?_);simp only [Zg,Zd,seval,if_true,if_false,reduceCtorEq,Nat.reduceEqDiff,T0];with_reducible rfl));focus ((with_reducible refine QK ?_);simp only [Zk];kernel_rfl)))
  refine RunK.loop (β:=Nat) (γ:=Nat) (fun i => ⟨[(0,.c (.val (.sl 2 (s.map eCt)))),(1,.c (.val (.sl 1 (t.map eI)))),(2,.c (.val (.int n))),(7,.c (.val (.int k))),(8,.c (.own 8 (putTo s t n k i).length)),(9,.c (.val (.int i)))],[(8,.row 2 ((putTo s t n k i).map eCt) false)]⟩) (fun i => i ≤ s.length) (fun i => s.length - i)
   (fun i => ⟨[(0,.c (.val (.sl 2 (s.map eCt)))),(1,.c (.val (.sl 1 (t.map eI)))),(2,.c (.val (.int n))),(7,.c (.val (.int k))),(8,.c (.own 8 (putTo s t n k i).length)),(9,.c (.val (.int i)))],[(8,.row 2 ((putTo s t n k i).map eCt) false)]⟩) (fun i => i = s.length) 0 (Nat.zero_le _) ?_ ?_ ?_
  ·(repeat' (first|with_reducible refine Qn|((with_reducible refine Qr ?_ ?_);focus (first|with_reducible rfl|(simp only [Zz,Nat.reduceBEq,putTo];done)|rfl))|((with_reducible refine Qj (o':=?_) ?_ ?_ ?_);rotate_left 1;focus rfl)|((with_reducible refine Qw ?_ ?_);(focus (first|with_reducible rfl|(simp only [Zv,putTo];done)));focus (first|exact id|exact (fun h => nomatch h)|exact (fun _ => rfl)))))
  ·rintro i hi
   have hw:=w64_succ (n:=i) (by omega)
   have hpl:=putTo_len s t n k i
   have hpl':(putTo s t n k i).length ≤ 2000:=by split at hpl <;> omega
   have q1:=big_le (n:=(putTo s t n k i).length + 1) (by omega)
   have q2:=big_mul (n:=(putTo s t n k i).length + 1) (c:=32) (by omega) (by omega)
   have q3:=big_le (n:=(putTo s t n k i).length + 1 + 1) (by omega)
   have q4:=big_mul (n:=(putTo s t n k i).length + 1 + 1) (c:=32) (by omega) (by omega)
   have ht1:=eq_true (show t.length ≤ 1000000000 by omega)
   by_cases h:i < s.length
   ·have hg:s.getD i ([],0) = s[i]:=by simp [List.getD,h]
    have hn:=hadd s[i] (List.getElem_mem _)
    have hn2:=w64_eq hn
    have hs1:putTo s t n k (i + 1) = (if i = k∧s[i].1 ≠ t then putTo s t n k i ++ [(t,n)] else putTo s t n k i) ++ [putEl t n s[i]]:=by rw [← hg];rfl
    by_cases he:s[i].1 = t
    ·have hs2:putTo s t n k (i + 1) = putTo s t n k i ++ [(t,s[i].2 + n)]:=by
      rw [hs1,if_neg (fun h => h.2 he)];unfold putEl;rw [if_pos he,he]
     by_cases hk2:i = k
     ·subst hk2
      repeat' (first|with_reducible (first|refine Q1 ?_|refine Q2 ?_|refine Q3 ?_|refine Q4 ?_|refine Q5 ?_|refine Q6 ?_|refine Q7 ?_|refine Q8 ?_|refine Q9 ?_|refine Qa ?_|refine Qb ?_|refine Qc ?_|refine Qd ?_|refine Qe ?_|refine Qf ?_)|((with_reducible refine Qo ?_ ?_);focus rfl)|((with_reducible first|refine QT 11 (l:=?_) ?_ ?_|refine QF 11 (l:=?_) ?_ ?_);rotate_left 1;focus (simp only [Zu,Nat.reduceSub,Nat.reduceBEq];with_reducible rfl))|((with_reducible first|refine QS (cfg_ok 92) T0 (s':=?_) ?_ ?_|refine QC (b:=?_) ?_ ?_);rotate_left 1;focus ((with_reducible refine QW ?_);simp only [Zg,seval,if_true,if_false,reduceCtorEq,Nat.reduceEqDiff,T0,List.length_map,Int.ofNat_lt,h,Int.natCast_nonneg,Int.toNat_natCast,map_get h,eCt,hw,he,hn2,q1,q2,ht1];with_reducible rfl))|((with_reducible refine QD (cfg_ok 92) T0 mixed_ok (tr:=?_) (s':=?_) ?_ ?_ ?_);rotate_left 2;(focus ((with_reducible refine QW ?_);simp only [Zg,Zd,seval,if_true,if_false,reduceCtorEq,Nat.reduceEqDiff,T0,List.length_map,Int.ofNat_lt,h,Int.natCast_nonneg,Int.toNat_natCast,map_get h,eCt,hw,he,hn2,q1,q2,ht1];with_reducible rfl));focus ((with_reducible refine QK ?_);simp only [Zk];kernel_rfl)))
      refine roundK.on (i + 1) ⟨h,by omega⟩ ?_
      rw [hs2]
      (repeat' (first|with_reducible refine Qn|((with_reducible refine Qr ?_ ?_);focus (first|with_reducible rfl|(simp only [Zz,Nat.reduceBEq,eCt];done)|rfl))|((with_reducible refine Qj (o':=?_) ?_ ?_ ?_);rotate_left 1;focus rfl)|((with_reducible refine Qw ?_ ?_);(focus (first|with_reducible rfl|(simp only [Zv,eCt];done)));focus (first|exact id|exact (fun h => nomatch h)|exact (fun _ => rfl)))))
     ·have hb:((i:Int) == (k:Int)) = false:=beq_eq_false_iff_ne.2 (by omega)
      repeat' (first|with_reducible (first|refine Q1 ?_|refine Q2 ?_|refine Q3 ?_|refine Q4 ?_|refine Q5 ?_|refine Q6 ?_|refine Q7 ?_|refine Q8 ?_|refine Q9 ?_|refine Qa ?_|refine Qb ?_|refine Qc ?_|refine Qd ?_|refine Qe ?_|refine Qf ?_)|((with_reducible refine Qo ?_ ?_);focus rfl)|((with_reducible first|refine QT 11 (l:=?_) ?_ ?_|refine QF 11 (l:=?_) ?_ ?_);rotate_left 1;focus (simp only [Zu,Nat.reduceSub,Nat.reduceBEq];with_reducible rfl))|((with_reducible first|refine QS (cfg_ok 92) T0 (s':=?_) ?_ ?_|refine QC (b:=?_) ?_ ?_);rotate_left 1;focus ((with_reducible refine QW ?_);simp only [Zg,seval,if_true,if_false,reduceCtorEq,Nat.reduceEqDiff,T0,List.length_map,Int.ofNat_lt,h,Int.natCast_nonneg,Int.toNat_natCast,map_get h,eCt,hw,he,hb,hn2,q1,q2,ht1];with_reducible rfl))|((with_reducible refine QD (cfg_ok 92) T0 mixed_ok (tr:=?_) (s':=?_) ?_ ?_ ?_);rotate_left 2;(focus ((with_reducible refine QW ?_);simp only [Zg,Zd,seval,if_true,if_false,reduceCtorEq,Nat.reduceEqDiff,T0,List.length_map,Int.ofNat_lt,h,Int.natCast_nonneg,Int.toNat_natCast,map_get h,eCt,hw,he,hb,hn2,q1,q2,ht1];with_reducible rfl));focus ((with_reducible refine QK ?_);simp only [Zk];kernel_rfl)))
      refine roundK.on (i + 1) ⟨h,by omega⟩ ?_
      rw [hs2]
      (repeat' (first|with_reducible refine Qn|((with_reducible refine Qr ?_ ?_);focus (first|with_reducible rfl|(simp only [Zz,Nat.reduceBEq,eCt];done)|rfl))|((with_reducible refine Qj (o':=?_) ?_ ?_ ?_);rotate_left 1;focus rfl)|((with_reducible refine Qw ?_ ?_);(focus (first|with_reducible rfl|(simp only [Zv,eCt];done)));focus (first|exact id|exact (fun h => nomatch h)|exact (fun _ => rfl)))))
    ·by_cases hk2:i = k
     ·subst hk2
      repeat' (first|with_reducible (first|refine Q1 ?_|refine Q2 ?_|refine Q3 ?_|refine Q4 ?_|refine Q5 ?_|refine Q6 ?_|refine Q7 ?_|refine Q8 ?_|refine Q9 ?_|refine Qa ?_|refine Qb ?_|refine Qc ?_|refine Qd ?_|refine Qe ?_|refine Qf ?_)|((with_reducible refine Qo ?_ ?_);focus rfl)|((with_reducible first|refine QT 11 (l:=?_) ?_ ?_|refine QF 11 (l:=?_) ?_ ?_);rotate_left 1;focus (simp only [Zu,Nat.reduceSub,Nat.reduceBEq];with_reducible rfl))|((with_reducible first|refine QS (cfg_ok 92) T0 (s':=?_) ?_ ?_|refine QC (b:=?_) ?_ ?_);rotate_left 1;focus ((with_reducible refine QW ?_);simp only [Zg,seval,if_true,if_false,reduceCtorEq,Nat.reduceEqDiff,T0,List.length_map,List.length_append,Int.ofNat_lt,h,Int.natCast_nonneg,Int.toNat_natCast,map_get h,eCt,hw,he,hn2,q1,q2,q3,q4,ht1];with_reducible rfl))|((with_reducible refine QD (cfg_ok 92) T0 mixed_ok (tr:=?_) (s':=?_) ?_ ?_ ?_);rotate_left 2;(focus ((with_reducible refine QW ?_);simp only [Zg,Zd,seval,if_true,if_false,reduceCtorEq,Nat.reduceEqDiff,T0,List.length_map,List.length_append,Int.ofNat_lt,h,Int.natCast_nonneg,Int.toNat_natCast,map_get h,eCt,hw,he,hn2,q1,q2,q3,q4,ht1];with_reducible rfl));focus ((with_reducible refine QK ?_);simp only [Zk];kernel_rfl)))
      refine roundK.on (i + 1) ⟨h,by omega⟩ ?_
      rw [hs1,if_pos ⟨rfl,he⟩,putEl_ne he]
      (repeat' (first|with_reducible refine Qn|((with_reducible refine Qr ?_ ?_);focus (first|with_reducible rfl|(simp only [Zz,Nat.reduceBEq,eCt];done)|rfl))|((with_reducible refine Qj (o':=?_) ?_ ?_ ?_);rotate_left 1;focus rfl)|((with_reducible refine Qw ?_ ?_);(focus (first|with_reducible rfl|(simp only [Zv,eCt];done)));focus (first|exact id|exact (fun h => nomatch h)|exact (fun _ => rfl)))))
     ·have hb:((i:Int) == (k:Int)) = false:=beq_eq_false_iff_ne.2 (by omega)
      repeat' (first|with_reducible (first|refine Q1 ?_|refine Q2 ?_|refine Q3 ?_|refine Q4 ?_|refine Q5 ?_|refine Q6 ?_|refine Q7 ?_|refine Q8 ?_|refine Q9 ?_|refine Qa ?_|refine Qb ?_|refine Qc ?_|refine Qd ?_|refine Qe ?_|refine Qf ?_)|((with_reducible refine Qo ?_ ?_);focus rfl)|((with_reducible first|refine QT 11 (l:=?_) ?_ ?_|refine QF 11 (l:=?_) ?_ ?_);rotate_left 1;focus (simp only [Zu,Nat.reduceSub,Nat.reduceBEq];with_reducible rfl))|((with_reducible first|refine QS (cfg_ok 92) T0 (s':=?_) ?_ ?_|refine QC (b:=?_) ?_ ?_);rotate_left 1;focus ((with_reducible refine QW ?_);simp only [Zg,seval,if_true,if_false,reduceCtorEq,Nat.reduceEqDiff,T0,List.length_map,Int.ofNat_lt,h,Int.natCast_nonneg,Int.toNat_natCast,map_get h,eCt,hw,he,hb,hn2,q1,q2,ht1];with_reducible rfl))|((with_reducible refine QD (cfg_ok 92) T0 mixed_ok (tr:=?_) (s':=?_) ?_ ?_ ?_);rotate_left 2;(focus ((with_reducible refine QW ?_);simp only [Zg,Zd,seval,if_true,if_false,reduceCtorEq,Nat.reduceEqDiff,T0,List.length_map,Int.ofNat_lt,h,Int.natCast_nonneg,Int.toNat_natCast,map_get h,eCt,hw,he,hb,hn2,q1,q2,ht1];with_reducible rfl));focus ((with_reducible refine QK ?_);simp only [Zk];kernel_rfl)))
      refine roundK.on (i + 1) ⟨h,by omega⟩ ?_
      rw [hs1,if_neg (fun h => hk2 h.1),putEl_ne he]
      (repeat' (first|with_reducible refine Qn|((with_reducible refine Qr ?_ ?_);focus (first|with_reducible rfl|(simp only [Zz,Nat.reduceBEq,eCt];done)|rfl))|((with_reducible refine Qj (o':=?_) ?_ ?_ ?_);rotate_left 1;focus rfl)|((with_reducible refine Qw ?_ ?_);(focus (first|with_reducible rfl|(simp only [Zv,eCt];done)));focus (first|exact id|exact (fun h => nomatch h)|exact (fun _ => rfl)))))
   ·repeat' (first|with_reducible (first|refine Q1 ?_|refine Q2 ?_|refine Q3 ?_|refine Q4 ?_|refine Q5 ?_|refine Q6 ?_|refine Q7 ?_|refine Q8 ?_|refine Q9 ?_|refine Qa ?_|refine Qb ?_|refine Qc ?_|refine Qd ?_|refine Qe ?_|refine Qf ?_)|((with_reducible refine Qo ?_ ?_);focus rfl)|((with_reducible first|refine QT 11 (l:=?_) ?_ ?_|refine QF 11 (l:=?_) ?_ ?_);rotate_left 1;focus (simp only [Zu,Nat.reduceSub,Nat.reduceBEq];with_reducible rfl))|((with_reducible first|refine QS (cfg_ok 92) T0 (s':=?_) ?_ ?_|refine QC (b:=?_) ?_ ?_);rotate_left 1;focus ((with_reducible refine QW ?_);simp only [Zg,seval,if_true,if_false,reduceCtorEq,Nat.reduceEqDiff,T0,List.length_map,Int.ofNat_lt,h,Int.natCast_nonneg,Int.toNat_natCast,eCt,hw,ht1];with_reducible rfl))|((with_reducible refine QD (cfg_ok 92) T0 mixed_ok (tr:=?_) (s':=?_) ?_ ?_ ?_);rotate_left 2;(focus ((with_reducible refine QW ?_);simp only [Zg,Zd,seval,if_true,if_false,reduceCtorEq,Nat.reduceEqDiff,T0,List.length_map,Int.ofNat_lt,h,Int.natCast_nonneg,Int.toNat_natCast,eCt,hw,ht1];with_reducible rfl));focus ((with_reducible refine QK ?_);simp only [Zk];kernel_rfl)))
    refine roundK.out i (by omega) ?_
    (repeat' (first|with_reducible refine Qn|((with_reducible refine Qr ?_ ?_);focus (first|with_reducible rfl|(simp only [Zz,Nat.reduceBEq];done)|rfl))|((with_reducible refine Qj (o':=?_) ?_ ?_ ?_);rotate_left 1;focus rfl)|((with_reducible refine Qw ?_ ?_);(focus (first|with_reducible rfl|(simp only [Zv];done)));focus (first|exact id|exact (fun h => nomatch h)|exact (fun _ => rfl)))))
  ·rintro i rfl
   have hsum:putC s t n = if k = s.length then putTo s t n k s.length ++ [(t,n)] else putTo s t n k s.length:=by
    have h1:=putTo_all (s.take k) (s.drop k) t n (by rw [List.take_append_drop];exact hr) hlow (fun z hz => by
     rw [List.head?_drop] at hz
     obtain ⟨h2,e⟩:=List.getElem?_eq_some_iff.1 hz
     rw [← e];exact hhigh h2)
    rw [List.take_append_drop,List.length_take,Nat.min_eq_left hk] at h1
    rw [← h1]
    split <;> simp
   have hpl:=putTo_len s t n k s.length
   have hpl':(putTo s t n k s.length).length ≤ 2000:=by split at hpl <;> omega
   have q1:=big_le (n:=(putTo s t n k s.length).length + 1) (by omega)
   have q2:=big_mul (n:=(putTo s t n k s.length).length + 1) (c:=32) (by omega) (by omega)
   have ht1:=eq_true (show t.length ≤ 1000000000 by omega)
   by_cases hk2:k = s.length
   ·rw [if_pos hk2] at hsum
    rw [hsum]
    subst hk2
    repeat' (first|with_reducible (first|refine Q1 ?_|refine Q2 ?_|refine Q3 ?_|refine Q4 ?_|refine Q5 ?_|refine Q6 ?_|refine Q7 ?_|refine Q8 ?_|refine Q9 ?_|refine Qa ?_|refine Qb ?_|refine Qc ?_|refine Qd ?_|refine Qe ?_|refine Qf ?_)|((with_reducible refine Qo ?_ ?_);focus rfl)|((with_reducible first|refine QT 11 (l:=?_) ?_ ?_|refine QF 11 (l:=?_) ?_ ?_);rotate_left 1;focus (simp only [Zu,Nat.reduceSub,Nat.reduceBEq];with_reducible rfl))|((with_reducible first|refine QS (cfg_ok 92) T0 (s':=?_) ?_ ?_|refine QC (b:=?_) ?_ ?_);rotate_left 1;focus ((with_reducible refine QW ?_);simp only [Zg,seval,if_true,if_false,reduceCtorEq,Nat.reduceEqDiff,T0,List.length_map,eCt,q1,q2,ht1];with_reducible rfl))|((with_reducible refine QD (cfg_ok 92) T0 mixed_ok (tr:=?_) (s':=?_) ?_ ?_ ?_);rotate_left 2;(focus ((with_reducible refine QW ?_);simp only [Zg,Zd,seval,if_true,if_false,reduceCtorEq,Nat.reduceEqDiff,T0,List.length_map,eCt,q1,q2,ht1];with_reducible rfl));focus ((with_reducible refine QK ?_);simp only [Zk];kernel_rfl)))
    (refine Ends.mk (by simp) (rs:=?_) (ks:=?_) hres hrts ?_ ?_ ?_;rotate_left 2;(focus (simp only [Ze,Zg,seval,if_true,if_false,reduceCtorEq,Nat.reduceEqDiff,eCt];with_reducible rfl));(focus simp);focus (first|with_reducible rfl|(simp only [Zv,eCt];done)))
   ·rw [if_neg hk2] at hsum
    rw [hsum]
    have hb:((k:Int) == (s.length:Int)) = false:=beq_eq_false_iff_ne.2 (by omega)
    repeat' (first|with_reducible (first|refine Q1 ?_|refine Q2 ?_|refine Q3 ?_|refine Q4 ?_|refine Q5 ?_|refine Q6 ?_|refine Q7 ?_|refine Q8 ?_|refine Q9 ?_|refine Qa ?_|refine Qb ?_|refine Qc ?_|refine Qd ?_|refine Qe ?_|refine Qf ?_)|((with_reducible refine Qo ?_ ?_);focus rfl)|((with_reducible first|refine QT 11 (l:=?_) ?_ ?_|refine QF 11 (l:=?_) ?_ ?_);rotate_left 1;focus (simp only [Zu,Nat.reduceSub,Nat.reduceBEq];with_reducible rfl))|((with_reducible first|refine QS (cfg_ok 92) T0 (s':=?_) ?_ ?_|refine QC (b:=?_) ?_ ?_);rotate_left 1;focus ((with_reducible refine QW ?_);simp only [Zg,seval,if_true,if_false,reduceCtorEq,Nat.reduceEqDiff,T0,List.length_map,eCt,hb];with_reducible rfl))|((with_reducible refine QD (cfg_ok 92) T0 mixed_ok (tr:=?_) (s':=?_) ?_ ?_ ?_);rotate_left 2;(focus ((with_reducible refine QW ?_);simp only [Zg,Zd,seval,if_true,if_false,reduceCtorEq,Nat.reduceEqDiff,T0,List.length_map,eCt,hb];with_reducible rfl));focus ((with_reducible refine QK ?_);simp only [Zk];kernel_rfl)))
    (refine Ends.mk (by simp) (rs:=?_) (ks:=?_) hres hrts ?_ ?_ ?_;rotate_left 2;(focus (simp only [Ze,Zg,seval,if_true,if_false,reduceCtorEq,Nat.reduceEqDiff,eCt];with_reducible rfl));(focus simp);focus (first|with_reducible rfl|(simp only [Zv,eCt];done)))
theorem putC_bd {m:Int}:∀ (s:List (List Int × Int)) (t:List Int),(∀ z ∈ s,0 ≤ z.2∧z.2 ≤ m)→0 ≤ m→∀ z ∈ putC s t 1,0 ≤ z.2∧z.2 ≤ m + 1
 | [],t,_,hm,z,h => by simp [putC] at h;subst h;simp;omega
 | (x,c) :: s,t,hs,hm,z,h => by
  have hx:=hs (x,c) (by simp)
  unfold putC at h
  split at h
  ·rcases List.mem_cons.1 h with rfl|h
   ·simp at hx ⊢;omega
   ·exact putC_bd s t (fun z hz => hs z (by simp [hz])) hm z h
  ·split at h
   ·rcases List.mem_cons.1 h with rfl|h
    ·simp at hx ⊢;omega
    ·have:=hs z (by simp [h]);omega
   ·rcases List.mem_cons.1 h with rfl|h
    ·simp;omega
    ·have:=hs z h;omega
theorem sumOf_bd:∀ (n:Nat) (ts:List (List Int)),ts.length = n→∀ z ∈ sumOf ts,0 ≤ z.2∧z.2 ≤ (n:Int)
 | 0,ts,h,z,hz => by rw [List.length_eq_zero_iff.1 h] at hz;simp [sumOf] at hz
 | n + 1,ts,h,z,hz => by
  have hne:ts ≠ []:=by intro e;rw [e] at h;simp at h
  rw [← List.dropLast_concat_getLast hne,sumOf_snoc] at hz
  have:=putC_bd (sumOf ts.dropLast) _ (sumOf_bd n ts.dropLast (by simp [h])) (by omega) z hz
  push_cast at this ⊢
  omega
end Go.Proofs.Ytofpjonggpjneaa
namespace Go.Proofs.Ytofpjonggpjneaa
open Go.RowKit
theorem sub_flat2 {α:Type} {l1 l2:List (List α)} (h:l1.Sublist l2):l1.flatten.Sublist l2.flatten:=by
 induction h with
 | slnil => exact .slnil
 | cons a _ ih => rw [List.flatten_cons];exact ih.trans (List.sublist_append_right _ _)
 | cons_cons a _ ih => rw [List.flatten_cons,List.flatten_cons];exact List.Sublist.append (List.Sublist.refl _) ih
def eCtT (z:(List Int × List Nat) × Int):List D:=[.tag z.1.2 (.sl 1 (z.1.1.map eI)),.int z.2]
theorem tag_mk2:∀ (zs:List ((List Int × List Nat) × Int)),TagL ((zs.map fun z => (z.1.1,z.2)).map eCt) (zs.map eCtT) ((zs.map (·.1.2)).flatten)
 | [] => ⟨rfl,rfl⟩
 | z :: zs => ⟨_,_,z.1.2,_,rfl,rfl,⟨_,[.int z.2],z.1.2,[],rfl,(List.append_nil _).symm,.inl rfl,⟨.int z.2,[],[],[],rfl,rfl,.inr ⟨rfl,rfl,rfl⟩,rfl,rfl⟩⟩,tag_mk2 zs⟩
theorem a_forestOf' (f:List (List Int)) (hl:f.length ≤ 19) (hs:sumLen f ≤ 1000000000):AFn Try.prog 126 [eLL f] (· = [.own 1 ((forest f).map eL) true]) :=
 afn_LLL_oo (enters_of Try.func126 rfl rfl) (fun u w h => c_impl_forestOf u f w h hl (fun b hb => Nat.le_trans (sumLen_mem hb) hs))
noncomputable def TEq:Tab Try.prog:=Tab.none.add 104 (tab2 codL codL fun xs ys => some [.val (.bool (decide (xs = ys)))]) (tab2_ok fun xs ys rs h => by cases h;exact a_slicesEqual xs ys)
set_option maxHeartbeats 4000000 in
theorem a_counted (ts:List (List Int)) (hl:ts.length ≤ 19) (hs:sumLen ts ≤ 1000000):AFn Try.prog 114 [eLL ts] (· = [.own 2 ((cntOf ts).map eCt) true]):=by
 have hfo:=a_forestOf' ts hl (by omega)
 refine AFn.of_runs (cfg_ok 45) Try.func114 rfl rfl rfl (by simp only [List.length_cons,List.length_nil];decide) ?_
 have hres:Try.f114.results.toList = [.tmp 2]:=rfl
 have hrts:Try.f114.resultTypes.toList = [40]:=rfl
 simp only [argRegs,argAV1,eL,eI,eLL,eB,Nat.zero_add,Nat.reduceAdd]
 intro M
 refine RunK.of ?_
 repeat' (first|with_reducible (first|refine Q1 ?_|refine Q2 ?_|refine Q3 ?_|refine Q4 ?_|refine Q5 ?_|refine Q6 ?_|refine Q7 ?_|refine Q8 ?_|refine Q9 ?_|refine Qa ?_|refine Qb ?_|refine Qc ?_|refine Qd ?_|refine Qe ?_|refine Qf ?_)|((with_reducible refine Qo ?_ ?_);focus rfl)|((with_reducible first|refine QT 12 (l:=?_) ?_ ?_|refine QF 12 (l:=?_) ?_ ?_);rotate_left 1;focus (simp only [Zu,Nat.reduceSub,Nat.reduceBEq];with_reducible rfl))|((with_reducible first|refine QS (cfg_ok 45) Tab.none (s':=?_) ?_ ?_|refine QC (b:=?_) ?_ ?_);rotate_left 1;focus ((with_reducible refine QW ?_);simp only [Zg,seval,if_true,if_false,reduceCtorEq,Nat.reduceEqDiff];with_reducible rfl)))
 refine RunK.regTag (cfg_ok 45) (Tab.none.at' 126 hfo) 2 9 (k:=1) (xs:=(forest ts).map eL) (s1:=?_) ?_ ?_ ?_
 rotate_left 1
 focus (simp only [Zg,seval,if_true,if_false,reduceCtorEq,Nat.reduceEqDiff,eL,eLL];with_reducible rfl)
 focus rfl
 intro xs' F ht hnd hF
 obtain ⟨ps,e1,e2,e3⟩:=tag_rows ht
 subst e2
 have hpl:ps.length = ts.length:=by
  have:=congrArg List.length e1
  rw [List.length_map] at this
  rw [← this]
  exact (show (sortC cmpT ts).Perm ts from sortC_perm ts).length_eq
 refine ROps.opsT (cfg_ok 45) (T:=Tab.none) (s':=?_) ?_ ?_
 rotate_left 1
 focus (simp only [Zg,seval,if_true,if_false,reduceCtorEq,Nat.reduceEqDiff,List.length_map];with_reducible rfl)
 repeat' (first|with_reducible (first|refine Q1 ?_|refine Q2 ?_|refine Q3 ?_|refine Q4 ?_|refine Q5 ?_|refine Q6 ?_|refine Q7 ?_|refine Q8 ?_|refine Q9 ?_|refine Qa ?_|refine Qb ?_|refine Qc ?_|refine Qd ?_|refine Qe ?_|refine Qf ?_)|((with_reducible refine Qo ?_ ?_);focus rfl)|((with_reducible first|refine QT 12 (l:=?_) ?_ ?_|refine QF 12 (l:=?_) ?_ ?_);rotate_left 1;focus (simp only [Zu,Nat.reduceSub,Nat.reduceBEq];with_reducible rfl))|((with_reducible first|refine QS (cfg_ok 45) Tab.none (s':=?_) ?_ ?_|refine QC (b:=?_) ?_ ?_);rotate_left 1;focus ((with_reducible refine QW ?_);simp only [Zg,seval,if_true,if_false,reduceCtorEq,Nat.reduceEqDiff];with_reducible rfl)))
 obtain ⟨R,hR⟩:∃ R,R = fun i => runsF (fun p:List Int × List Nat => p.1) (ps.take i):=⟨_,rfl⟩
 have hRb:∀ i,i ≤ ps.length→(R i).length ≤ 19∧∀ z ∈ R i,1 ≤ z.2∧z.2 ≤ 19:=fun i hi => by
  rw [hR]
  obtain ⟨h1,h2⟩:=runsF_sub (fun p:List Int × List Nat => p.1) _ (ps.take i) rfl
  have h3:=h1.length_le
  rw [List.length_map,List.length_take] at h3
  rw [List.length_take] at h2
  exact ⟨by show (runsF _ _).length ≤ 19;omega,fun z hz => by have:=h2 z hz;omega⟩
 refine RunK.loop (β:=Nat) (γ:=Unit) (fun i => ⟨[(3,.c (.own 3 (R i).length)),(9,.c (.own 9 ps.length)),(10,.c (.val (.int ps.length))),(11,.c (.val (.int i)))],[(3,.row 2 ((R i).map eCtT) false),(9,.row 1 (ps.map eLT) false)]⟩) (fun i => i ≤ ps.length) (fun i => ps.length - i)
  (fun _ => ⟨[(3,.c (.own 3 (R ps.length).length))],[(3,.row 2 ((R ps.length).map eCtT) false)]⟩) (fun _ => True) 0 (Nat.zero_le _) ?_ ?_ ?_
 ·have e0:R 0 = []:=by rw [hR];rfl
  have hfl:(forest ts).length = ps.length:=by rw [hpl];exact (show (sortC cmpT ts).Perm ts from sortC_perm ts).length_eq
  rw [e0,hfl]
  (repeat' (first|with_reducible refine Qn|((with_reducible refine Qr ?_ ?_);focus (first|with_reducible rfl|(simp only [Zz,Nat.reduceBEq,List.map_nil,List.length_map,Int.natCast_zero];done)|rfl))|((with_reducible refine Qj (o':=?_) ?_ ?_ ?_);rotate_left 1;focus rfl)|((with_reducible refine Qw ?_ ?_);(focus (first|with_reducible rfl|(simp only [Zv,List.map_nil,List.length_map,Int.natCast_zero];done)));focus (first|exact id|exact (fun h => nomatch h)|exact (fun _ => rfl)))))
 ·intro i hi
  have hi:i ≤ ps.length:=hi
  have hw:=w64_succ (n:=i) (by omega)
  obtain ⟨hb1,hb2⟩:=hRb i hi
  by_cases h:i < ps.length
  ·have i1:((i:Int) < (ps.length:Int)) = True:=eq_true (by omega)
   have i2:((0:Int) ≤ (i:Int)) = True:=eq_true (by omega)
   obtain ⟨p,hp⟩:∃ p,p = ps[i]:=⟨_,rfl⟩
   have hg:(ps.map eLT)[i]? = some [.tag p.2 (.sl 1 (p.1.map eI))]:=by rw [map_get h,hp];rfl
   have hst:R (i + 1) = stepC (fun p:List Int × List Nat => p.1) (R i) p:=by
    rw [hR]
    show runsF _ (ps.take (i + 1)) = stepC _ (runsF _ (ps.take i)) p
    rw [List.take_succ_eq_append_getElem h,runsF_snoc,hp]
   have q1:=big_le (n:=(R i).length + 1) (by omega)
   have q2:=big_mul (n:=(R i).length + 1) (c:=32) (by omega) (by omega)
   by_cases h0:R i = []
   ·rw [h0,stepC_nil] at hst
    have j1:(((0:Nat):Int) > 0) = False:=eq_false (by omega)
    rw [h0] at q1 q2 ⊢
    simp only [List.length_nil] at q1 q2
    repeat' (first|with_reducible (first|refine Q1 ?_|refine Q2 ?_|refine Q3 ?_|refine Q4 ?_|refine Q5 ?_|refine Q6 ?_|refine Q7 ?_|refine Q8 ?_|refine Q9 ?_|refine Qa ?_|refine Qb ?_|refine Qc ?_|refine Qd ?_|refine Qe ?_|refine Qf ?_)|((with_reducible refine Qo ?_ ?_);focus rfl)|((with_reducible first|refine QT 12 (l:=?_) ?_ ?_|refine QF 12 (l:=?_) ?_ ?_);rotate_left 1;focus (simp only [Zu,Nat.reduceSub,Nat.reduceBEq];with_reducible rfl))|((with_reducible first|refine QS (cfg_ok 45) TEq (s':=?_) ?_ ?_|refine QC (b:=?_) ?_ ?_);rotate_left 1;focus ((with_reducible refine QW ?_);simp only [Zg,seval,if_true,if_false,reduceCtorEq,Nat.reduceEqDiff,TEq,i1,i2,hg,hw,j1,q1,q2,Int.toNat_natCast,List.length_map,List.length_nil];with_reducible rfl)))
    refine roundK.on (i + 1) ⟨h,by omega⟩ ?_
    rw [hst]
    (repeat' (first|with_reducible refine Qn|((with_reducible refine Qr ?_ ?_);focus (first|with_reducible rfl|(simp only [Zz,Nat.reduceBEq,eCtT,List.map_nil];done)|rfl))|((with_reducible refine Qj (o':=?_) ?_ ?_ ?_);rotate_left 1;focus rfl)|((with_reducible refine Qw ?_ ?_);(focus (first|with_reducible rfl|(simp only [Zv,eCtT,List.map_nil];done)));focus (first|exact id|exact (fun h => nomatch h)|exact (fun _ => rfl)))))
   ·obtain ⟨out,z,ez⟩:=snoc_of h0
    have hzb:=hb2 z (by rw [ez];simp)
    rw [ez] at hst hb1 q1 q2 ⊢
    simp only [List.length_append,List.length_singleton] at hb1 q1 q2
    have hlz:(out ++ [z]).length = out.length + 1:=by simp
    have j1:((((out.length + 1:Nat)):Int) > 0) = True:=eq_true (by omega)
    have hw1:w64 (((out.length + 1:Nat):Int) - 1) = ((out.length:Nat):Int):=by rw [w64_eq (by omega)];omega
    have i3:((0:Int) ≤ ((out.length:Nat):Int)) = True:=eq_true (by omega)
    have i4:(((out.length:Nat):Int) < ((out.length + 1:Nat):Int)) = True:=eq_true (by omega)
    have hgz:((out ++ [z]).map eCtT)[out.length]? = some [.tag z.1.2 (.sl 1 (z.1.1.map eI)),.int z.2]:=by
     rw [List.map_append,List.getElem?_append_right (by simp)];simp [eCtT]
    by_cases he:z.1.1 = p.1
    ·rw [stepC_eq _ out z p he] at hst
     have hd:decide (z.1.1 = p.1) = true:=decide_eq_true he
     have hwz:=w64_eq (n:=z.2 + 1) (by omega)
     repeat' (first|with_reducible (first|refine Q1 ?_|refine Q2 ?_|refine Q3 ?_|refine Q4 ?_|refine Q5 ?_|refine Q6 ?_|refine Q7 ?_|refine Q8 ?_|refine Q9 ?_|refine Qa ?_|refine Qb ?_|refine Qc ?_|refine Qd ?_|refine Qe ?_|refine Qf ?_)|((with_reducible refine Qo ?_ ?_);focus rfl)|((with_reducible first|refine QT 12 (l:=?_) ?_ ?_|refine QF 12 (l:=?_) ?_ ?_);rotate_left 1;focus (simp only [Zu,Nat.reduceSub,Nat.reduceBEq];with_reducible rfl))|((with_reducible first|refine QS (cfg_ok 45) TEq (s':=?_) ?_ ?_|refine QC (b:=?_) ?_ ?_);rotate_left 1;focus ((with_reducible refine QW ?_);simp only [Zg,seval,if_true,if_false,reduceCtorEq,Nat.reduceEqDiff,TEq,TEq,i1,i2,i3,i4,hg,hgz,hlz,hw,hw1,hwz,hd,j1,Int.toNat_natCast,List.length_map];with_reducible rfl)))
     have hse:((out ++ [z]).map eCtT).set out.length [.tag z.1.2 (.sl 1 (z.1.1.map eI)),.int (z.2 + 1)] = (out ++ [(z.1,z.2 + 1)]).map eCtT:=by
      rw [List.map_append,List.set_append_right _ _ (by simp)];simp [eCtT]
     refine roundK.on (i + 1) ⟨h,by omega⟩ ?_
     rw [hst,hse]
     (repeat' (first|with_reducible refine Qn|((with_reducible refine Qr ?_ ?_);focus (first|with_reducible rfl|(simp only [Zz,Nat.reduceBEq,eCtT];done)|rfl))|((with_reducible refine Qj (o':=?_) ?_ ?_ ?_);rotate_left 1;focus rfl)|((with_reducible refine Qw ?_ ?_);(focus (first|with_reducible rfl|(simp only [Zv,eCtT];done)));focus (first|exact id|exact (fun h => nomatch h)|exact (fun _ => rfl)))))
    ·rw [stepC_ne _ out z p he] at hst
     have hd:decide (z.1.1 = p.1) = false:=decide_eq_false he
     repeat' (first|with_reducible (first|refine Q1 ?_|refine Q2 ?_|refine Q3 ?_|refine Q4 ?_|refine Q5 ?_|refine Q6 ?_|refine Q7 ?_|refine Q8 ?_|refine Q9 ?_|refine Qa ?_|refine Qb ?_|refine Qc ?_|refine Qd ?_|refine Qe ?_|refine Qf ?_)|((with_reducible refine Qo ?_ ?_);focus rfl)|((with_reducible first|refine QT 12 (l:=?_) ?_ ?_|refine QF 12 (l:=?_) ?_ ?_);rotate_left 1;focus (simp only [Zu,Nat.reduceSub,Nat.reduceBEq];with_reducible rfl))|((with_reducible first|refine QS (cfg_ok 45) TEq (s':=?_) ?_ ?_|refine QC (b:=?_) ?_ ?_);rotate_left 1;focus ((with_reducible refine QW ?_);simp only [Zg,seval,if_true,if_false,reduceCtorEq,Nat.reduceEqDiff,TEq,TEq,i1,i2,i3,i4,hg,hgz,hlz,hw,hw1,hd,j1,q1,q2,Int.toNat_natCast,List.length_map];with_reducible rfl)))
     refine roundK.on (i + 1) ⟨h,by omega⟩ ?_
     rw [hst]
     (repeat' (first|with_reducible refine Qn|((with_reducible refine Qr ?_ ?_);focus (first|with_reducible rfl|(simp only [Zz,Nat.reduceBEq,eCtT];done)|rfl))|((with_reducible refine Qj (o':=?_) ?_ ?_ ?_);rotate_left 1;focus rfl)|((with_reducible refine Qw ?_ ?_);(focus (first|with_reducible rfl|(simp only [Zv,eCtT];done)));focus (first|exact id|exact (fun h => nomatch h)|exact (fun _ => rfl)))))
  ·have i1:((i:Int) < (ps.length:Int)) = False:=eq_false (by omega)
   obtain rfl:i = ps.length:=by omega
   repeat' (first|with_reducible (first|refine Q1 ?_|refine Q2 ?_|refine Q3 ?_|refine Q4 ?_|refine Q5 ?_|refine Q6 ?_|refine Q7 ?_|refine Q8 ?_|refine Q9 ?_|refine Qa ?_|refine Qb ?_|refine Qc ?_|refine Qd ?_|refine Qe ?_|refine Qf ?_)|((with_reducible refine Qo ?_ ?_);focus rfl)|((with_reducible first|refine QT 12 (l:=?_) ?_ ?_|refine QF 12 (l:=?_) ?_ ?_);rotate_left 1;focus (simp only [Zu,Nat.reduceSub,Nat.reduceBEq];with_reducible rfl))|((with_reducible first|refine QS (cfg_ok 45) Tab.none (s':=?_) ?_ ?_|refine QC (b:=?_) ?_ ?_);rotate_left 1;focus ((with_reducible refine QW ?_);simp only [Zg,seval,if_true,if_false,reduceCtorEq,Nat.reduceEqDiff,i1];with_reducible rfl)))
   refine roundK.out () trivial ?_
   (repeat' (first|with_reducible refine Qn|((with_reducible refine Qr ?_ ?_);focus (first|with_reducible rfl|(simp only [Zz,Nat.reduceBEq];done)|rfl))|((with_reducible refine Qj (o':=?_) ?_ ?_ ?_);rotate_left 1;focus rfl)|((with_reducible refine Qw ?_ ?_);(focus (first|with_reducible rfl|(simp only [Zv];done)));focus (first|exact id|exact (fun h => nomatch h)|exact (fun _ => rfl)))))
 ·rintro _ _
  repeat' (first|with_reducible (first|refine Q1 ?_|refine Q2 ?_|refine Q3 ?_|refine Q4 ?_|refine Q5 ?_|refine Q6 ?_|refine Q7 ?_|refine Q8 ?_|refine Q9 ?_|refine Qa ?_|refine Qb ?_|refine Qc ?_|refine Qd ?_|refine Qe ?_|refine Qf ?_)|((with_reducible refine Qo ?_ ?_);focus rfl)|((with_reducible first|refine QT 12 (l:=?_) ?_ ?_|refine QF 12 (l:=?_) ?_ ?_);rotate_left 1;focus (simp only [Zu,Nat.reduceSub,Nat.reduceBEq];with_reducible rfl))|((with_reducible first|refine QS (cfg_ok 45) Tab.none (s':=?_) ?_ ?_|refine QC (b:=?_) ?_ ?_);rotate_left 1;focus ((with_reducible refine QW ?_);simp only [Zg,seval,if_true,if_false,reduceCtorEq,Nat.reduceEqDiff];with_reducible rfl)))
  have hRe:(R ps.length).map (fun z => (z.1.1,z.2)) = cntOf ts:=by
   rw [hR]
   show (runsF _ (ps.take ps.length)).map _ = _
   rw [List.take_length,runsF_map _ _ ps rfl,← e1];rfl
  refine Ends.un (by simp) hres hrts (r:=?_) (r':=.own 2 ((cntOf ts).map eCt) true) (l:=[]) (ks:=?_) ?_ ?_ (by simp) ?_ rfl
  rotate_left 2
  focus (simp only [aresults,ares,Zg,seval,if_true,if_false,reduceCtorEq,Nat.reduceEqDiff];with_reducible rfl)
  focus simp
  rw [← hRe]
  have hsub:((R ps.length).map (·.1)).Sublist ps:=by
   have:=(runsF_sub (fun p:List Int × List Nat => p.1) _ (ps.take ps.length) rfl).1
   rw [hR]
   show (List.map _ (runsF (fun p:List Int × List Nat => p.1) (ps.take ps.length))).Sublist ps
   rw [List.take_length] at this ⊢
   exact this
  have hsub2:((R ps.length).map (·.1.2)).Sublist (ps.map (·.2)):=by
   have:=hsub.map (·.2)
   rwa [List.map_map] at this
  refine ⟨((R ps.length).map (·.1.2)).flatten,?_,fun b hb => hF b ?_,.inl ⟨2,_,_,rfl,rfl,tag_mk2 _⟩⟩
  ·rw [e3] at hnd
   exact hnd.sublist (sub_flat2 hsub2)
  ·rw [e3]
   exact (sub_flat2 hsub2).subset hb
end Go.Proofs.Ytofpjonggpjneaa
namespace Go.Proofs.Ytofpjonggpjneaa
open Go.RowKit
theorem sumLen_le {m:Nat}:∀ (f:List (List Int)),(∀ b ∈ f,b.length ≤ m)→sumLen f ≤ m * f.length
 | [],_ => by simp [sumLen]
 | b :: f,h => by
  have h1:=h b (by simp)
  have ih:=sumLen_le f (fun c hc => h c (by simp [hc]))
  simp only [sumLen,List.map_cons,List.sum_cons,List.length_cons] at ih ⊢
  rw [Nat.mul_succ];omega
end Go.Proofs.Ytofpjonggpjneaa
namespace Go.Proofs.Ytofpjonggpjneaa
open Go.RowKit
set_option maxRecDepth 100000 in
set_option maxHeartbeats 400000 in
theorem c_slicesCloneInt (v:Value) (xs:List Int) (w:World) (h:Rd (RS RI) w [v] xs) (hsz:xs.length ≤ 1000000000) :
  Calls Try.prog 166 #[v] w (RetO (RS RI) w xs):=by
 obtain ⟨oa,c1,I1⟩:=h.ints
 obtain rfl:=I1.val
 have m1:=I1.le;have m2:=I1.capLe
 unfold maxLen at m2
 have q22:∀ (w:World) (a:Option Addr) (n c n' c':Nat),(binOp .eql 108 (.slice a n c) (.slice none n' c')).run Try.prog w = .ok (.bool a.isNone) w:=fun w a n c n' c' => Lib.run_eql_slice_nil w _ _ a n c n' c' tInt.ht
 cases oa with
 | none =>
  have hc:=I1.noneCap rfl
  have hx:xs = []:=List.eq_nil_of_length_eq_zero (by omega)
  subst hx;subst hc
  clear h I1
  go_enter Try.func166,Try.ntmps166
  go_wp2_with fail
  go_ret
  exact ⟨_,rfl,Own.nil _ _,Below.refl _ _⟩
 | some ad =>
 have I2:Ints (w.alloc (.cells #[] 3)) (.slice (some ad) xs.length c1) xs (some ad) c1:=by
  refine ⟨rfl,m1,I1.capLe,I1.noneCap,I1.bd,?_⟩
  rcases I1.row with h|⟨b,off,e,hb,hc⟩
  ·exact .inl h
  ·refine .inr ⟨b,off,e,by simp;omega,fun j hj => ?_⟩
   rw [World.cell?_alloc_lt _ _ _ hb];exact hc j hj
 have hrow:=Row.lit w #[] 3 1 0 (by decide) (by simp)
 have HI:=Lib.hid I2
 have HR:=Lib.hid hrow
 clear I2 hrow
 go_enter Try.func166,Try.ntmps166
 go_wp2_with (at_builtin;refine StopAt (o:=⟨some 7,_,_,_,_,_⟩) ?_)
 refine Stop.go ?_
 refine wpList_appendS rfl _ _ 108 rfl 3 (.int .i64 0) 1 8 tInt (.slice (some ⟨w.heap.size,0,none⟩) 0 0) 0 [] (some w.heap.size) rfl (by simpa using HR.out) (some ad) xs.length c1 (xs.map (Value.int .i64)) rfl (by simp) (fun h => by cases h) (Row.cells_ints HI.out) (by intro u hu;obtain ⟨x,_,rfl⟩:=List.mem_map.1 hu;rfl) (by omega) (by unfold maxLen;omega) ?_
 intro v' w' og' happ
 rw [Nat.zero_add,List.nil_append] at happ
 have hlow:=happ.low (B:=w.heap.size) (by simp) (fun g hg => by cases hg;exact Nat.le_refl _)
 have hbel:Below w.heap.size w w':=((Below.refl w.heap.size w).alloc (Nat.le_refl _) (.cells #[] 3)).trans hlow.2
 have hown:Own (RS RI) w.heap.size w'.heap.size w' [v'] xs:=Row.OwnI (by simpa using happ.1) I1.bd hlow.1
 have HO:=Lib.hid hown
 obtain ⟨oa',cap',rfl,_⟩:=hown.val
 clear hown happ hlow
 go_wp2_with fail
 go_ret
 exact ⟨_,rfl,HO.out,hbel⟩
theorem shareKey {A B C D E:Type} {goal:Prop} (FACTS:A→B→C→D→E→Prop) {G:A→B→C→D→E→Prop} (use:(∀ a b c d e,FACTS a b c d e→G a b c d e)→goal) (key:∀ a b c d e,FACTS a b c d e→G a b c d e):goal:=use key
theorem moved_take (base:Nat) (xs:List Int) (k:Nat) (h:k < xs.length):(xs.take (k + 1)).map (fun x => (base:Int) + x) = (xs.take k).map (fun x => (base:Int) + x) ++ [(base:Int) + xs[k]]:=by
 rw [List.take_succ_eq_append_getElem h,List.map_append];rfl
set_option maxRecDepth 100000 in
set_option maxHeartbeats 20000000 in
theorem c_impl_grafted (vu vn vl:Value) (u:List Int) (nodes:List Int) (list:List (List Int)) (w:World) (hu:Rd (RS RI) w [vu] u) (hn:Rd (RS RI) w [vn] nodes) (hl:Rd (RS (RS RI)) w [vl] list)
  (hu8:lev8 u = true) (hl8:∀ v ∈ list,lev8 v = true) (hnl:nodes.length = list.length) (hnb:∀ x ∈ nodes,0 ≤ x∧x < u.length) (hsum:u.length + sumLen list ≤ 8) (hok:graftOk u nodes list = true) :
  Calls Try.prog 116 #[vu,vn,vl] w (RetO (RS RI) w (graftN u nodes list)):=by
 have hupos:=(lev8_lev hu8).pos
 have hne:=c_impl_nearOf vu u w hu hu8
 unfold graftOk at hok
 rw [Bool.and_eq_true] at hok
 have hTF:∀ (W:World) (v:Value),Rd (RS (RS RI)) W [v] (graftTo u nodes list list.length)→Calls Try.prog 168 #[v,.int .i64 0,.int .i64 (-1)] W (RetO (RS RI) W (graftN u nodes list)):=fun W v r =>
  c_impl_treeFrom 9 v _ 0 (-1) W r hok.1 (Nat.le_of_ble_eq_true hok.2)
 have HTF:=Lib.hid hTF
 obtain ⟨oa,c1,rfl,m1,m2⟩:=hu.val
 obtain ⟨on,cn,IN⟩:=hn.ints
 obtain rfl:=IN.val
 obtain ⟨ol,cl,LL⟩:=hl.lists
 obtain rfl:=LL.val
 have k1:=IN.le;have k2:=IN.capLe;have k3:=LL.le;have k4:=LL.capLe
 unfold maxLen at k2
 have HIN:=Lib.hid IN
 have HLL:=Lib.hid LL
 have HL8:=Lib.hid hl8
 have HNB:=Lib.hid hnb
 have HNL:=Lib.hid hnl
 have HSUM:=Lib.hid hsum
 have hGL:=fun i hi => graftTo_len u nodes list i hi
 have HGL:=Lib.hid hGL
 have HLEN:Hid (list.length ≤ 8):=Lib.hid (by
  have:=len_le_sumLen list (fun b hb => lev8_lev (hl8 b hb))
  omega)
 obtain ⟨ll,hll⟩:∃ ll,ll = list.length:=⟨_,rfl⟩
 rw [← hll] at k3 HTF
 rw [← hll]
 have HLN:=Lib.hid hll
 have HEACH:=Lib.hid (graftTo_each (u:=u) (nodes:=nodes) (list:=list) (by omega) (fun v hv => lev8_len (hl8 v hv)))
 clear hu hn hl IN LL hl8 hnl hnb hsum hok hTF hGL hll
 go_enter Try.func116,Try.ntmps116
 go_wp2_with fail
 refine hne.mono ?_
 rintro e w1 ⟨u1,rfl,o1,b1⟩
 obtain ⟨F1,oF1,hF1⟩:=OwnF.of o1
 obtain ⟨o1a,c1a,rfl,_⟩:=o1.val
 have HO1:=Lib.hid oF1
 have HF1:=Lib.hid hF1
 clear o1 hne oF1 hF1
 go_wp2_with fail
 go_loopw [7,20] (fun nr i wr => ∃ (k:Nat) (F:List Nat) (near:List (List Int)),k ≤ ll∧i = .int .i64 k∧Hid (near = graftTo u nodes list k)∧(∃ oa cap,nr = .slice oa near.length cap)∧Hid (OwnF (RS (RS RI)) F wr [nr] near)∧Hid (∀ b,b ∈ F→w.heap.size ≤ b)∧Below w.heap.size w wr) (fun _ i _ => ll - (intOf i).toNat)
 case atStart => exact ⟨0,F1,nears u,Nat.zero_le _,rfl,Lib.hid rfl,⟨_,_,rfl⟩,HO1.out,Lib.hid (fun b hb => (HF1.out b hb).1),b1⟩
 case round =>
  obtain ⟨k,F,near,hk,rfl,hnear,⟨o2,c2,rfl⟩,hown,hF,hbel⟩:=hrel
  clear HO1
  obtain ⟨wo,hwo⟩:∃ wo:World,wo = wr:=⟨_,rfl⟩
  subst hwo
  have hsz1:=hbel.size
  by_cases hlt:k < ll
  ·have hlt2:k < list.length:=by rw [← HLN.out];exact hlt
   have hltn:k < nodes.length:=by rw [HNL.out];exact hlt2
   obtain ⟨bl,fl,rfl,hbl,hcl⟩:=HLL.out.get hlt2
   obtain ⟨oi,ci,g1,hrd,q1,q2⟩:=hcl k hlt2
   have g2:wo.cell? ⟨bl,fl + k,none⟩ = some (.slice oi list[k].length ci):=(hbel.cell (p:=⟨bl,fl + k,none⟩) hbl).trans g1
   obtain ⟨bn,fn,rfl,hbn,hcn⟩:=HIN.out.get hltn
   have gn:=hcn k hltn
   have hv8:=HL8.out list[k] (List.getElem_mem hlt2)
   have hvn:=c_impl_nearOf (.slice oi list[k].length ci) list[k] wo (hrd.below hbel (Nat.le_refl _)) hv8
   have hnd:=HNB.out nodes[k] (List.getElem_mem hltn)
   have hgl:=HGL.out k (by omega)
   rw [← hnear.out] at hgl
   have hss:=sumLen_take_succ list k hlt2
   have hsl:=sumLen_take list (k + 1)
   have hgs:graftTo u nodes list (k + 1) = graft1 near nodes[k] list[k]:=by rw [graftTo,← hnear.out];congr 1 <;> simp [hltn,hlt2]
   have hnbd:=nearTo_bd list[k] list[k].length (Nat.le_refl _)
   have hnel:=nearTo_each list[k] list[k].length
   have hnvl:(nears list[k]).length = list[k].length:=nearTo_len _ _
   have hvl8:=lev8_len hv8
   obtain ⟨x,hx⟩:∃ x,x = list[k]'hlt2:=⟨_,rfl⟩
   obtain ⟨nd,hnd'⟩:∃ nd,nd = nodes[k]'hltn:=⟨_,rfl⟩
   rw [← hx] at g2 q1 hvn hss hgs hnbd hnel hnvl hvl8
   rw [← hnd'] at gn hnd hgs
   have hsum:=HSUM.out
   have hnn:near.length + x.length ≤ 8:=by omega
   obtain ⟨n0,n1⟩:=hnd
   obtain ⟨nq,rfl⟩:∃ nq:Nat,nd = nq:=⟨nd.toNat,by omega⟩
   have hnq:nq < near.length:=by omega
   have HGS:=Lib.hid hgs
   have HNBD:=Lib.hid hnbd
   have HNEL:=Lib.hid hnel
   have hxl:=hnvl
   obtain ⟨nvs,hnvs⟩:∃ nvs,nvs = nears x:=⟨_,rfl⟩
   change ∀ y ∈ nears x,_ at hnbd
   have HNV0:Hid (∀ y ∈ nvs,y.length ≤ 16∧∀ z ∈ y,0 ≤ z∧z < 8):=Lib.hid (by
    intro y hy
    rw [hnvs] at hy
    refine ⟨by have:=HNEL.out y hy;omega,fun z hz => ?_⟩
    have:=HNBD.out y hy z hz
    omega)
   rw [← hnvs] at hvn hxl
   have HXL:=Lib.hid hxl
   have HNVS:=Lib.hid hnvs
   have HOW:=hown
   have hFl:=hown.out.lt
   have hnd0:=hown.out.2
   have hnb:near.length ≤ 8:=by omega
   clear hcl hcn g1 hrd hx hnd' hgl hss hsl hgs hnbd hnel hnvl hv8 hsum hxl hnvs
   go_wp2_with fail
   refine hvn.mono ?_
   rintro e w2 ⟨u2,rfl,o3,b3⟩
   obtain ⟨ov,cv,rfl,v1,v2⟩:=o3.val
   have HNV:=Lib.hid o3
   rw [HXL.out] at v1
   rw [HXL.out]
   have HO2:Hid (OwnF (RS (RS RI)) F w2 [.slice o2 near.length c2] near):=Lib.hid (HOW.out.frame (fun b hb => b3.block b (hFl b hb)))
   have s3:=b3.size
   have hbel2:=hbel.trans (b3.mono hsz1)
   obtain ⟨base,hbase⟩:∃ base,base = near.length:=⟨_,rfl⟩
   rw [← hbase]
   have HBASE:=Lib.hid hbase
   rw [← hbase] at hnn hnq hnb HO2 HOW hown
   clear o3 hvn hbase
   go_wp2_with fail
   go_loopw [7,30] (fun nr i wz => ∃ (q:Nat) (F':List Nat) (z:List (List Int)),q ≤ x.length∧i = .int .i64 q∧Hid (z = near ++ addTo base nvs nq q)∧Hid (z.length = base + q)∧(∃ oa cap,nr = .slice oa z.length cap)∧Hid (OwnF (RS (RS RI)) F' wz [nr] z)∧Hid (∀ b,b ∈ F'→b ∈ F ∨ w2.heap.size ≤ b)∧Hid (ChgF F w2 wz)) (fun _ i _ => x.length - (intOf i).toNat)
   case atStart => exact ⟨0,F,near,Nat.zero_le _,rfl,Lib.hid (by simp [addTo]),Lib.hid HBASE.out.symm,⟨_,_,by rw [← HBASE.out]⟩,Lib.hid HO2.out,Lib.hid (fun b hb => .inl hb),Lib.hid (ChgF.refl _ _)⟩
   case round =>
    obtain ⟨q,F',z,hq,rfl,hz,hzl,⟨o4,c4,rfl⟩,hown4,hF4,hch4⟩:=hrel
    obtain ⟨wz,hwz⟩:∃ wz:World,wz = wr:=⟨_,rfl⟩
    subst hwz
    have hzlt:=hown4.out.lt
    have s4:=hch4.out.size
    have hbz:Below w.heap.size w wz:=hbel2.trans (hch4.out.below (by omega) hF.out)
    have hszz:=hbz.size
    by_cases hlq:q < x.length
    ·have HNZ:Own (RS (RS RI)) wo.heap.size w2.heap.size wz [.slice ov x.length cv] nvs:=by
      have:=HNV.out.frame (w':=wz) (fun b h1 h2 => hch4.out.block b h2 (fun hm => by have:=hFl b hm;omega))
      rw [HXL.out] at this
      exact this
     obtain ⟨oaz,caz,LZ⟩:=HNZ.rd.lists
     have hvz:=LZ.val
     simp only [Value.slice.injEq] at hvz
     obtain ⟨rfl,hvz2,rfl⟩:=hvz
     clear hvz2
     have hlq2:q < nvs.length:=by rw [HXL.out];exact hlq
     obtain ⟨bv,fv,rfl,hbv,hcv⟩:=LZ.get hlq2
     obtain ⟨oy,cy,g3,hry,y1,y2⟩:=hcv q hlq2
     have hyb:=HNV0.out nvs[q] (List.getElem_mem hlq2)
     have hgd:nvs.getD q [] = nvs[q]:=by simp [hlq2]
     have had:addTo base nvs nq (q + 1) = addTo base nvs nq q ++ [movedL base q (nvs.getD q []) nq]:=rfl
     rw [hgd] at had
     obtain ⟨y,hy⟩:∃ y,y = nvs[q]'hlq2:=⟨_,rfl⟩
     rw [← hy] at g3 hry y1 hyb had
     obtain ⟨oy2,cy2,IY⟩:=hry.ints
     have hvy:=IY.val
     simp only [Value.slice.injEq,true_and] at hvy
     obtain ⟨rfl,rfl⟩:=hvy
     obtain ⟨hyl,hye⟩:=hyb
     have HIY:=Lib.hid IY
     have HYE:=Lib.hid hye
     have HAD:=Lib.hid had
     have HZB:Hid (z.length ≤ 8):=Lib.hid (by rw [hzl.out];omega)
     have gnz:wz.cell? ⟨bn,fn + k,none⟩ = some (.int .i64 (nq:Int)):=(hbz.cell (p:=⟨bn,fn + k,none⟩) hbn).trans gn
     have iq1:(0:Int) ≤ (q:Int):=by omega
     have iq2:(q:Int) < (x.length:Int):=by omega
     clear HNZ LZ hcv hry hy IY hye had hgd hlq2
     go_wp2_with fail
     go_loopw [13,38] (fun o i ww => ∃ (r:Nat) (zz:List Int),r ≤ y.length∧i = .int .i64 r∧Hid (zz = (y.take r).map (fun x => (base:Int) + x))∧Hid (zz.length = r)∧(∃ oa cap,o = .slice oa zz.length cap)∧Hid (Own (RS RI) wz.heap.size ww.heap.size ww [o] zz)∧Below wz.heap.size wz ww) (fun _ i _ => y.length - (intOf i).toNat)
     case atStart => exact ⟨0,[],Nat.zero_le _,rfl,Lib.hid rfl,Lib.hid rfl,⟨_,_,rfl⟩,Lib.hid ((Own.empty (R:=RI) (w:=wz) 3 wz.heap.size (Nat.le_refl _)).top _ (by simp)),(Below.refl _ _).alloc (Nat.le_refl _) _⟩
     case round =>
      obtain ⟨r,zz,hr,rfl,hzz,hzzl,⟨o5,c5,rfl⟩,hown5,hbel5⟩:=hrel
      obtain ⟨ww,hww⟩:∃ ww:World,ww = wr:=⟨_,rfl⟩
      subst hww
      have s5:=hbel5.size
      by_cases hlr:r < y.length
      ·obtain ⟨by',fy,rfl,hby,hcy⟩:=HIY.out.get hlr
       have g4:ww.cell? ⟨by',fy + r,none⟩ = some (Value.int .i64 y[r]):=(hbel5.cell (p:=⟨by',fy + r,none⟩) hby).trans (hcy r hlr)
       have hme:=HYE.out y[r] (List.getElem_mem hlr)
       have hnx:=moved_take base y r hlr
       obtain ⟨ye,hye⟩:∃ ye:Int,ye = y[r]'hlr:=⟨_,rfl⟩
       rw [← hye] at g4 hme hnx
       obtain ⟨e1',e2'⟩:=hme
       have hw1:IntKind.i64.wrap ((base:Int) + ye) = (base:Int) + ye:=IntWalk.i64_in _ (by omega)
       have HNX:=Lib.hid hnx
       have hzb5:zz.length ≤ 16:=by rw [hzzl.out];omega
       have ir1:(0:Int) ≤ (r:Int):=by omega
       have ir2:(r:Int) < (y.length:Int):=by omega
       clear hcy hye hnx
       go_wp2_with (at_builtin;refine StopAt (o:=⟨some 47,_,_,_,_,_⟩) ?_)
       refine Stop.go ?_
       refine wpList_snoc (w:=ww) (R:=RI) rfl _ _ 108 rfl 3 (.int .i64 0) 1 8 tInt rfl (.slice o5 zz.length c5) zz ((base:Int) + ye) [.int .i64 ((base:Int) + ye)] wz.heap.size ww.heap.size ww.heap.size rfl hown5.out (Own.int ⟨by omega,by omega⟩) (Nat.le_refl _) s5 3 rfl rfl (by omega) (by omega) ?_
       intro oa6 cap6 w6 hown6 _ _ hbel6
       have hb6:=hbel5.trans hbel6
       obtain ⟨zz',hzz'⟩:∃ zz',zz' = zz ++ [(base:Int) + ye]:=⟨_,rfl⟩
       have HZZ:Hid (zz' = (y.take (r + 1)).map (fun x => (base:Int) + x)):=Lib.hid (by rw [hzz',HNX.out,hzz.out])
       have e1:zz.length + 1 = zz'.length:=by rw [hzz'];simp
       have HZZL:Hid (zz'.length = r + 1):=Lib.hid (by rw [← e1,hzzl.out])
       rw [← hzz',e1] at hown6
       have HO6:Hid (Own (RS RI) wz.heap.size w6.heap.size w6 [.slice oa6 zz'.length cap6] zz'):=hown6
       rw [e1]
       clear hown6 hbel6 hown5 e1 hzz'
       go_wp2_with fail
       go_roundw
       case rel => exact ⟨r + 1,zz',by omega,by go_num,HZZ,HZZL,⟨_,_,rfl⟩,HO6,hb6⟩
       case measure => simp [intOf] <;> omega
      ·have hmv:zz = y.map (fun x => (base:Int) + x):=by rw [hzz.out,List.take_of_length_le (by omega)]
       have HMV:=Lib.hid hmv
       have hzb5:zz.length ≤ 16:=by rw [hzzl.out];omega
       have gnw:ww.cell? ⟨bn,fn + k,none⟩ = some (.int .i64 (nq:Int)):=((hbz.trans (hbel5.mono hszz)).cell (p:=⟨bn,fn + k,none⟩) hbn).trans gn
       have hbm1:=HZB.out
       have iz1:(0:Int) ≤ (k:Int):=by omega
       have iz2:(k:Int) < (nodes.length:Int):=by omega
       have fin:∀ (mv:List Int) (om:Option Addr) (cm:Nat) (w7:World),mv = movedL base q y nq→Own (RS RI) wz.heap.size w7.heap.size w7 [.slice om mv.length cm] mv→Below wz.heap.size wz w7 →
         ∃ G,OwnF (RS RI) G w7 [.slice om mv.length cm] mv∧(∀ b,b ∈ G→b ∉ F')∧OwnF (RS (RS RI)) F' w7 [.slice o4 z.length c4] z∧(∀ b,b ∈ G→w2.heap.size ≤ b):=by
        intro mv om cm w7 _ hm hb7
        obtain ⟨G,hG,hGb⟩:=OwnF.of hm
        exact ⟨G,hG,fun b hb hm => by have:=(hGb b hb).1;have:=hzlt b hm;omega,hown4.out.frame (fun b hb => hb7.block b (hzlt b hb)),fun b hb => by have:=(hGb b hb).1;omega⟩
       have FIN:=Lib.hid fin
       clear hmv fin
       by_cases hq0:q = 0
       ·subst hq0
        have hqe:(((0:Nat):Int) == 0) = true:=rfl
        go_wp2_with (at_builtin;refine StopAt (o:=⟨some 57,_,_,_,_,_⟩) ?_)
        refine Stop.go ?_
        refine wpList_snoc (w:=ww) (R:=RI) rfl _ _ 108 rfl 3 (.int .i64 0) 1 8 tInt rfl (.slice o5 zz.length c5) zz (nq:Int) [.int .i64 (nq:Int)] wz.heap.size ww.heap.size ww.heap.size rfl hown5.out (Own.int ⟨by omega,by omega⟩) (Nat.le_refl _) s5 3 rfl rfl (by omega) (by omega) ?_
        intro om cm w7 hown6 _ _ hbel6
        have hb7:=hbel5.trans hbel6
        obtain ⟨mv,hmv⟩:∃ mv,mv = zz ++ [(nq:Int)]:=⟨_,rfl⟩
        have HMD:Hid (mv = movedL base 0 y nq):=Lib.hid (by rw [hmv,HMV.out];simp [movedL])
        have e1:zz.length + 1 = mv.length:=by rw [hmv];simp
        rw [← hmv,e1] at hown6
        rw [e1]
        obtain ⟨G,hG,hGd,hZ,hGb⟩:=FIN.out mv om cm w7 HMD.out hown6 hb7
        have HG:=Lib.hid hG
        have HGD:=Lib.hid hGd
        have HZ:=Lib.hid hZ
        have HGB:=Lib.hid hGb
        clear hown6 hbel6 hown5 e1 hmv hG hGd hZ hGb
        go_wp2_with (at_builtin;refine StopAt (o:=⟨some 61,_,_,_,_,_⟩) ?_)
        refine Stop.go ?_
        refine wpList_snocF (w:=w7) (R:=RS RI) rfl _ _ 146 rfl 108 (.slice none 0 0) 1 24 tIntS rfl (.slice o4 z.length c4) z mv [.slice om mv.length cm] F' G rfl HZ.out HG.out HGD.out 108 rfl rfl (by omega) (by omega) ?_
        intro oa8 cap8 w8 F8 hown8 _ _ hF8 hch8
        obtain ⟨z',hz'⟩:∃ z',z' = z ++ [mv]:=⟨_,rfl⟩
        have HZ':Hid (z' = near ++ addTo base nvs nq (0 + 1)):=Lib.hid (by rw [hz',hz.out,HAD.out,← HMD.out,List.append_assoc])
        have e2:z.length + 1 = z'.length:=by rw [hz'];simp
        have HZL':Hid (z'.length = base + (0 + 1)):=Lib.hid (by have:=hzl.out;omega)
        have s7:=hb7.size
        have HF8:Hid (∀ b,b ∈ F8→b ∈ F ∨ w2.heap.size ≤ b):=Lib.hid (fun b hb => by
         rcases hF8 b hb with h|h|h
         ·exact hF4.out b h
         ·exact .inr (HGB.out b h)
         ·right;omega)
        have HCH:Hid (ChgF F w2 w8):=Lib.hid ((hch4.out.trans (Below.chgF hb7)).trans' hch8 (fun x hx => hF4.out x hx))
        rw [← hz',e2] at hown8
        have HO8:=Lib.hid hown8
        rw [e2]
        clear hown8 hF8 hch8 e2 hz'
        go_wp2_with fail
        go_roundw
        case rel => exact ⟨0 + 1,F8,z',by omega,by first|go_num|rfl,HZ',HZL',⟨_,_,rfl⟩,HO8,HF8,HCH⟩
        case measure => simp [intOf] <;> omega
       ·have hqe:((q:Int) == 0) = false:=by simp;omega
        have hb7:=hbel5
        have HMD:Hid (zz = movedL base q y nq):=Lib.hid (by rw [HMV.out];simp [movedL,hq0])
        obtain ⟨G,hG,hGd,hZ,hGb⟩:=FIN.out zz o5 c5 ww HMD.out hown5.out hb7
        have HG:=Lib.hid hG
        have HGD:=Lib.hid hGd
        have HZ:=Lib.hid hZ
        have HGB:=Lib.hid hGb
        clear hG hGd hZ hGb hown5
        go_wp2_with (at_builtin;refine StopAt (o:=⟨some 61,_,_,_,_,_⟩) ?_)
        refine Stop.go ?_
        refine wpList_snocF (w:=ww) (R:=RS RI) rfl _ _ 146 rfl 108 (.slice none 0 0) 1 24 tIntS rfl (.slice o4 z.length c4) z zz [.slice o5 zz.length c5] F' G rfl HZ.out HG.out HGD.out 108 rfl rfl (by omega) (by omega) ?_
        intro oa8 cap8 w8 F8 hown8 _ _ hF8 hch8
        obtain ⟨z',hz'⟩:∃ z',z' = z ++ [zz]:=⟨_,rfl⟩
        have HZ':Hid (z' = near ++ addTo base nvs nq (q + 1)):=Lib.hid (by rw [hz',hz.out,HAD.out,← HMD.out,List.append_assoc])
        have e2:z.length + 1 = z'.length:=by rw [hz'];simp
        have HZL':Hid (z'.length = base + (q + 1)):=Lib.hid (by have:=hzl.out;omega)
        have s7:=hb7.size
        have HF8:Hid (∀ b,b ∈ F8→b ∈ F ∨ w2.heap.size ≤ b):=Lib.hid (fun b hb => by
         rcases hF8 b hb with h|h|h
         ·exact hF4.out b h
         ·exact .inr (HGB.out b h)
         ·right;omega)
        have HCH:Hid (ChgF F w2 w8):=Lib.hid ((hch4.out.trans (Below.chgF hb7)).trans' hch8 (fun x hx => hF4.out x hx))
        rw [← hz',e2] at hown8
        have HO8:=Lib.hid hown8
        rw [e2]
        clear hown8 hF8 hch8 e2 hz'
        go_wp2_with fail
        go_roundw
        case rel => exact ⟨q + 1,F8,z',by omega,by first|go_num|rfl,HZ',HZL',⟨_,_,rfl⟩,HO8,HF8,HCH⟩
        case measure => simp [intOf] <;> omega
    ·obtain rfl:q = x.length:=by omega
     have hzfull:z = near ++ addTo base nvs nq x.length:=hz.out
     have hgr:graftTo u nodes list (k + 1) = z.set nq (z.getD nq [] ++ [(base:Int)]):=by
      rw [HGS.out]
      unfold graft1
      rw [← HBASE.out,← HNVS.out,← hzfull,Int.toNat_natCast]
     have hnqz:nq < z.length:=by rw [hzl.out];omega
     obtain ⟨g,cap,a,hv,_,_,hgl,hgF,hcell,hra,hSET⟩:=hown4.out.setRow (R:=RS RI) rfl nq hnqz
     simp only [Value.slice.injEq,true_and] at hv
     obtain ⟨rfl,rfl⟩:=hv
     have hgd:z.getD nq [] = z[nq]:=by simp [hnqz]
     rw [hgd] at hgr
     obtain ⟨xh,hxh⟩:∃ xh,xh = z[nq]'hnqz:=⟨_,rfl⟩
     rw [← hxh] at hra hgr
     obtain ⟨oh,ch,rfl,e1,e2⟩:=hra.val
     unfold maxLen at e2
     have gnz:wz.cell? ⟨bn,fn + k,none⟩ = some (.int .i64 (nq:Int)):=(hbz.cell (p:=⟨bn,fn + k,none⟩) hbn).trans gn
     have hxlen:xh.length ≤ 26:=by
      have h1:xh = near[nq]'(by have:=HBASE.out;omega):=by
       rw [hxh]
       simp only [hzfull]
       rw [List.getElem_append_left]
      rw [h1]
      have:=HEACH.out k (near[nq]'(by have:=HBASE.out;omega)) (by rw [← hnear.out];exact List.getElem_mem _)
      have:=HLEN.out
      omega
     have HSET:=Lib.hid hSET
     have HGR:=Lib.hid hgr
     have HRA:=Lib.hid hra
     have EGC:=Lib.hid (enters (P:=Try.prog) (f:=166) Try.func166 (by kernel_rfl) rfl)
     have hzl0:z.length = base + x.length:=hzl.out
     obtain ⟨zl,hzl'⟩:∃ zl,zl = z.length:=⟨_,rfl⟩
     rw [← hzl'] at hnqz hzl0
     rw [← hzl']
     have i1:(0:Int) ≤ (k:Int):=by omega
     have i2:(k:Int) < (nodes.length:Int):=by omega
     have i3:(0:Int) ≤ (nq:Int):=by omega
     have i4:(nq:Int) < (zl:Int):=by omega
     have HZL0:=Lib.hid hzl0
     have HZLEN:=Lib.hid hzl'
     clear hSET hgr hra hgd hxh hzfull hzl' hzl0
     have R1:Rd (RS RI) wz [.slice oh xh.length ch] xh:=HRA.out
     have HCL:Hid (∀ W:World,W.heap = wz.heap ∨ (∃ o,W.heap = (wz.alloc o).heap)→Calls Try.prog 166 #[.slice oh xh.length ch] W (RetO (RS RI) W xh)):=Lib.hid (fun W h => by
      refine c_slicesCloneInt _ xh W ?_ (by omega)
      rcases h with h|⟨o,h⟩
      ·exact R1.of_heap h
      ·exact (R1.below ((Below.refl _ _).alloc (Nat.le_refl _) o) (Nat.le_refl _)).of_heap h)
     have hb64:In64 (base:Int):=by unfold In64;omega
     obtain ⟨xb,hxb⟩:∃ xb,xh ++ [(base:Int)] = xb:=⟨_,rfl⟩
     have hxbl:xb.length ≤ 27:=by rw [← hxb,List.length_append,List.length_singleton];omega
     have HXB:=Lib.hid hxb
     rw [hxb] at HGR
     have RL:rdL RI (fun b => b < wz.heap.size) wz [.int .i64 (base:Int)] [(base:Int)]:=rdL.single ⟨rfl,hb64⟩
     have HLZ:Hid (∀ W:World,W.heap = (wz.alloc (.cells #[.int .i64 (base:Int)] 3)).heap→Rd (RS RI) W [.slice (some ⟨wz.heap.size,0,none⟩) 1 1] [(base:Int)]):=Lib.hid (fun W h => Rd.lit (ds:=[.int .i64 (base:Int)]) (xs:=[(base:Int)]) RL h (by show 1 ≤ maxLen;decide))
     have HLC:Hid (∀ wc W:World,W.heap = (wc.alloc (.cells #[.int .i64 (base:Int)] 3)).heap→Rd (RS RI) W [.slice (some ⟨wc.heap.size,0,none⟩) 1 1] [(base:Int)]):=Lib.hid (fun wc W h => Rd.lit (ds:=[.int .i64 (base:Int)]) (xs:=[(base:Int)]) (w:=wc) (rdL.single ⟨rfl,hb64⟩) h (by show 1 ≤ maxLen;decide))
     have hbn1:bn < wz.heap.size:=by omega
     have hbn2:¬ bn = wz.heap.size:=by omega
     have hgl2:¬ g = wz.heap.size:=by omega
     clear RL R1 hb64 hxb
     apply shareKey (fun (uc lit:Value) (oa9:Option Addr) (cap9:Nat) (wd:World) => ∃ F9,OwnF (RS (RS RI)) F9 (wd.setCell ⟨g,nq,none⟩ (.slice oa9 xb.length cap9)) [.slice (some ⟨g,0,none⟩) z.length c4] (z.set nq xb)∧(∀ b,b ∈ F9→b ∈ F' ∨ wz.heap.size ≤ b)∧ChgF F' wz (wd.setCell ⟨g,nq,none⟩ (.slice oa9 xb.length cap9)))
     case use =>
      intro KEY
      go_wp2_with fail
      go_region_law (first
       | (refine step_call rfl 166 _ _ rfl EGC.out #[.slice oh xh.length ch] (by simp [Act.eval]) ?_;refine Calls.mono (HCL.out _ (by first|exact .inl rfl|exact .inr ⟨_,rfl⟩)) ?_;rintro e wc ⟨uc,rfl,oc,bc⟩;have hbc:Below wz.heap.size wz wc:=(by first|exact Below.of_heap_eq bc rfl rfl rfl rfl|exact Below.of_alloc_heap bc rfl rfl rfl rfl);have oc':Own (RS RI) wz.heap.size wc.heap.size wc [uc] xh:=oc.mono (by simp) (Nat.le_refl _);have gnc:=(hbc.cell (p:=⟨bn,fn + k,none⟩) hbn1).trans gnz;have hbn3:bn < wc.heap.size:=Nat.lt_of_lt_of_le hbn1 hbc.size;clear oc;refine ⟨_,rfl,?_⟩)
       | (refine step_extI rfl _ _ 108 rfl 3 tInt uc xh wz.heap.size wc.heap.size rfl (by first|exact oc'|exact oc'.below ((Below.refl wc.heap.size wc).alloc (Nat.le_refl _) _) (Nat.le_refl _)) _ [(base:Int)] rfl (by first|exact HLC.out wc _ rfl|exact Rd.below (HLZ.out _ (by rfl)) bc (Nat.le_refl _)) (by first|exact Nat.le_refl _|simp) hbc.size (by simp;omega) xb HXB.out ?_;intro oa9 cap9 wd od d1 d2 bd;obtain ⟨Gd,hGd,hGb⟩:=OwnF.of od;have hbd:Below wz.heap.size wz wd:=(by first|exact hbc.trans bd|exact (hbc.alloc hbc.size _).trans bd);have gnd:=(hbd.cell (p:=⟨bn,fn + k,none⟩) hbn1).trans gnz;obtain ⟨f1,f2,F9,hF9,hs9,hc9⟩:=HSET.out wd xb _ Gd hbd hGd (fun b hb => (hGb b hb).1);generalize hl1:Value.slice (some ⟨wc.heap.size,0,none⟩) 1 1 = lit1;clear hl1;generalize hl2:Value.slice (some ⟨wz.heap.size,0,none⟩) 1 1 = lit2;clear hl2))
      all_goals first|exact KEY uc lit1 oa9 cap9 wd ⟨F9,hF9,hs9,hc9⟩|exact KEY uc lit2 oa9 cap9 wd ⟨F9,hF9,hs9,hc9⟩
     case key =>
      rintro uc lit oa9 cap9 wd ⟨F9,hF9,hs9,hc9⟩
      have HFIN:Hid (z.set nq xb = graftTo u nodes list (k + 1)):=Lib.hid HGR.out.symm
      obtain ⟨z9,hz9⟩:∃ z9,z9 = z.set nq xb:=⟨_,rfl⟩
      rw [← hz9] at HFIN hF9
      have hl9:zl = z9.length:=by rw [hz9,List.length_set];exact HZLEN.out
      have HB9:Hid (∀ b,b ∈ F9→w.heap.size ≤ b):=Lib.hid (fun b hb => by
       rcases hs9 b hb with h|h
       ·rcases hF4.out b h with h|h
        ·exact hF.out b h
        ·omega
       ·omega)
      have hbl9:Below w.heap.size w _:=hbz.trans (hc9.below (B:=w.heap.size) (by omega) (fun b hb => by
       rcases hF4.out b hb with h|h
       ·exact hF.out b h
       ·omega))
      have hl8:z.length = z9.length:=by rw [hz9,List.length_set]
      rw [hl8] at hF9
      have HF9:=Lib.hid hF9
      have HL9:=Lib.hid hl9
      clear hz9 hF9 hs9 hc9 hl9 hl8
      go_wp2_with fail
      go_roundw
      case rel => exact ⟨k + 1,F9,z9,by omega,by go_num,Lib.hid HFIN.out,⟨_,_,by rw [← HL9.out]⟩,(by have:=HF9.out;rw [← HL9.out] at this;exact Lib.hid this),HB9,hbl9⟩
      case measure => simp [intOf] <;> omega
  ·have hkk:k = ll:=by omega
   have hfin:near = graftTo u nodes list ll:=by rw [hnear.out,hkk]
   have htf:=HTF.out wo (.slice o2 near.length c2) (by rw [← hfin];exact hown.out.rd)
   clear hfin hkk
   go_wp2_with fail
   refine htf.mono ?_
   rintro e w3 ⟨u3,rfl,o3,b3⟩
   go_wp2_with fail
   go_ret
   exact ⟨_,rfl,o3.mono hsz1 (Nat.le_refl _),hbel.trans (b3.mono hsz1)⟩
end Go.Proofs.Ytofpjonggpjneaa
namespace Go.Proofs.Ytofpjonggpjneaa
open Go.RowKit
def ckOf (xs:List (List Int)):Int:=if xs.all lev8 = true then (if sumLen xs ≤ 8 then 0 else 3) else 1
theorem sumLen_le8:∀ xs:List (List Int),xs.all lev8 = true→sumLen xs ≤ 8 * xs.length
 | [],_ => by simp [sumLen]
 | x :: xs,h => by
  rw [List.all_cons,Bool.and_eq_true] at h
  have:=sumLen_le8 xs h.2
  have:=lev8_len h.1
  simp only [sumLen,List.map_cons,List.sum_cons,List.length_cons] at *
  omega
set_option maxRecDepth 100000 in
set_option maxHeartbeats 400000 in
theorem c_impl_checkGraft (v:Value) (xs:List (List Int)) (w:World) (h:Rd (RS (RS RI)) w [v] xs) (hl:xs.length ≤ 1000000):Calls Try.prog 113 #[v] w (RetS w (.int .i64 (ckOf xs))):=by
 have hal:=c_impl_areLevels v xs w h
 have hnd:=c_impl_nodesIn v xs w h
 unfold ckOf
 cases hall:xs.all lev8
 ·rw [hall] at hal
  clear hall
  go_enter Try.func113,Try.ntmps113
  go_wp2_with fail
  refine hal.mono ?_
  rintro e w' ⟨rfl,rfl⟩
  go_wp2_with fail
  go_ret
  exact ⟨rfl,rfl⟩
 ·rw [hall] at hal
  have h8:=sumLen_le8 xs hall
  rw [nodesB_eq xs (by omega)] at hnd
  by_cases hs:sumLen xs ≤ 8
  ·have h1:¬ ((sumLen xs:Nat):Int) > 8:=by omega
   have h2:¬ (8:Int) < ((sumLen xs:Nat):Int):=by omega
   clear hall
   go_enter Try.func113,Try.ntmps113
   go_wp2_with fail
   refine hal.mono ?_
   rintro e w' ⟨rfl,rfl⟩
   go_wp2_with fail
   refine hnd.mono ?_
   rintro e w' ⟨rfl,rfl⟩
   go_wp2_with fail
   go_ret
   exact ⟨by simp,rfl⟩
  ·have h1:((sumLen xs:Nat):Int) > 8:=by omega
   have h2:(8:Int) < ((sumLen xs:Nat):Int):=by omega
   clear hall
   go_enter Try.func113,Try.ntmps113
   go_wp2_with fail
   refine hal.mono ?_
   rintro e w' ⟨rfl,rfl⟩
   go_wp2_with fail
   refine hnd.mono ?_
   rintro e w' ⟨rfl,rfl⟩
   go_wp2_with fail
   go_ret
   exact ⟨by simp,rfl⟩
end Go.Proofs.Ytofpjonggpjneaa
namespace Go.Proofs.Ytofpjonggpjneaa
open Go.RowKit
theorem Row.take {w:World} {k n m cap:Nat} {ds:List Value} {og:Option Nat} (h:Row w (slv og n cap) k n ds og) (hm:m ≤ n):Row w (slv og m cap) k m (ds.take (m * k)) og:=by
 refine ⟨by rw [List.length_take,h.1];exact Nat.min_eq_left (Nat.mul_le_mul_right k hm),?_⟩
 rcases h.2 with ⟨h1,h2,h3⟩|⟨g,c,cur,e,h1,h2,h3,h4,h5,h6,h7⟩
 ·subst h3
  exact .inl ⟨rfl,by omega,rfl⟩
 ·subst h2
  have hc:cap = c:=by
   unfold slv at h1
   simp only [Value.slice.injEq] at h1
   exact h1.2.2
  subst hc
  refine .inr ⟨g,cap,cur,e,rfl,rfl,h3,by omega,h5,h6,?_⟩
  rw [← h7,List.take_take,Nat.min_eq_left (Nat.mul_le_mul_right k hm)]
section
variable {P:Program} {cfg:Cfg} {M:Nat→Prop} {w0:W0} {w w':World} {Ok:Nat→Prop} {N:Nat} {σ:Asg} {s:St} {a:Act} {ops:Array Oper}
theorem RunK.regCut (C:CfgOK P cfg) (T:Tab P) {fs:List Fr} {Q:Exit→St→Prop} {id:Nat} (n:Nat) {s1:St} (ha:Work (aopsT cfg T ops (ops.toList.take n) s) (some s1))
  (h:ROps P cfg M ops (ops.toList.drop n) (outK P cfg M fs Q .normal) s1):RunK P cfg M (.region id ops false) fs Q s:=by
 refine Runs.region ?_
 have e:ops.toList = ops.toList.take n ++ ops.toList.drop n:=(List.take_append_drop n _).symm
 have cut:∀ (l m:List Oper) (s:St),aopsT cfg T ops l s = some s1→ROps P cfg M ops m (outK P cfg M fs Q .normal) s1→ROps P cfg M ops (l ++ m) (outK P cfg M fs Q .normal) s:=by
  intro l
  induction l with
  | nil => intro m s h1 h2;simp only [aopsT,Option.some.injEq] at h1;subst h1;exact h2
  | cons o l ih =>
   intro m s h1 h2
   simp only [aopsT] at h1
   obtain ⟨s2,h3,h4⟩:=bind_some h1
   exact ROps.stepT C h3 (ih m s2 h4 h2)
 rw [e]
 exact cut _ _ s ha h
end
end Go.Proofs.Ytofpjonggpjneaa
namespace Go.Proofs.Ytofpjonggpjneaa
open Go.RowKit
section
variable {P:Program} {cfg:Cfg} {w0:W0} {w w':World} {Ok:Nat→Prop} {N:Nat} {σ σ':Asg} {s s':St} {a:Act} {M:Nat→Prop}
theorem relArgs.split {A:Nat→Prop}:∀ {pre:List (List D)} {ds:List (List D)} {vs:List Value},relArgs A w (pre ++ ds) vs→∃ vs1 vs2,vs = vs1 ++ vs2∧relArgs A w pre vs1∧relArgs A w ds vs2
 | [],ds,vs,h => ⟨[],vs,rfl,rfl,h⟩
 | d :: pre,ds,vs,⟨v,us,e,h1,h2⟩ => by
  obtain ⟨us1,us2,e2,h3,h4⟩:=relArgs.split h2
  subst e2;subst e
  exact ⟨v :: us1,us2,rfl,⟨v,us1,rfl,h1,h3⟩,h4⟩
theorem relArgs.join {A:Nat→Prop}:∀ {pre:List (List D)} {ds:List (List D)} {vs1 vs2:List Value},relArgs A w pre vs1→relArgs A w ds vs2→relArgs A w (pre ++ ds) (vs1 ++ vs2)
 | [],ds,vs1,vs2,h,k => by rw [show vs1 = [] from h];exact k
 | d :: pre,ds,vs1,vs2,⟨v,us,e,h1,h2⟩,k => by
  subst e
  exact ⟨v,us ++ vs2,rfl,h1,relArgs.join h2 k⟩
theorem Bel.nil (h:Bel ⟨w,fun b => (none:Option Nat) = some b⟩ w'):Below w.heap.size w w' :=
 ⟨h.os,h.tape,h.output,h.size,fun i hi => h.block i hi (fun e => nomatch e)⟩
theorem AOw.nil {g:FuncId} {pre post:List (List D)} {k:Nat} {Q:List Res→Prop} (h:AOw P g pre k [] post Q) (hk:0 < k):AFn P g (pre ++ [.raw (.slice none 0 0)] :: post) Q:=by
 refine ⟨h.call,fun A w vs hA hr => ?_⟩
 obtain ⟨vs1,vs2,e,h1,v,us,e2,h2,h3⟩:=relArgs.split hr
 subst e2;subst e
 obtain ⟨rfl,_⟩:=rdV_raw.1 (show rdV A w v (.raw (.slice none 0 0)) from h2)
 refine (h.fn A w vs1 us none 0 [] hA h1 h3 ⟨(Nat.zero_mul k).symm,.inl ⟨rfl,rfl,rfl⟩⟩ hk (by first|exact ⟨0,hk,rfl⟩|exact ⟨0,hk,trivial⟩|exact ⟨0,hk,by simp [rdL]⟩) (fun b e => nomatch e)).mono ?_
 rintro e w' ⟨v,rs,rfl,hQ,hb,ho⟩
 have e:(W0.mine ⟨w,fun b => (none:Option Nat) = some b⟩) = fun b => w.heap.size ≤ b:=by funext b;simp [W0.mine]
 rw [e] at ho
 exact ⟨v,rs,rfl,hQ,hb.nil,ho⟩
theorem n_callR (C:CfgOK P cfg) (h:Sim w0 Ok N σ s a w) {o:Oper} {f:Operand} {args:Array Operand} {ts:Array TypeId} {g:FuncId} (ho:o.op = .call ⟨.value f,args,ts⟩) (hf:((opv s.regs f).bind avD).bind fnId = some g)
  {ds:List (List D)} (hd:relArgs (Zn σ s.heap w) w ds (args.toList.map a.eval)) {Q0:List Res→Prop} (hfn:AFn P g ds Q0)
  {K:Act→World→Prop} {Q:Exit→Act→World→Prop} {key:Nat} (hfr:∀ rs,Q0 rs→∀ q ob,look q (resACs key rs).2 = some ob→Free s q)
  (hK:∀ rs,Q0 rs→∀ v w' σ',relAV σ' ((resACs key rs).2 ++ s.heap) w' (outAV (resACs key rs).1) v→Sim w0 Ok N σ' ⟨s.regs,(resACs key rs).2 ++ s.heap⟩ a w'→K (a.put o.dst v) w'):o.wp P a w K Q:=by
 have hfv:a.eval f = .func (.func g) #[] #[]:=fnId_rel h hf
 have hrun:(execOp a.eval o).run P w = .ok (.enter g (args.map a.eval)) w:=by
  unfold execOp
  rw [ho]
  simp [resolve,Deferred.ofValue,hfv,invoke,hfn.call]
 obtain ⟨A,hA,hAa,hAz⟩:∃ A:Nat→Prop,(∀ b,A b→b < w.heap.size)∧relArgs A w ds (args.toList.map a.eval)∧((∃ rs,Q0 rs∧rs.all Res.scalar = false)→∀ b,A b→Zn σ s.heap w b):=by
  exact ⟨Zn σ s.heap w,fun _ h => h.1,hd,fun _ b hb => hb⟩
 have hcall:=hfn.fn A w (args.toList.map a.eval) hA hAa
 unfold Oper.wp
 rw [hrun,Oper.upon_enter]
 have e:(args.toList.map a.eval).toArray = args.map a.eval:=by rw [← Array.toList_map,Array.toArray_toList]
 rw [← e]
 refine hcall.mono ?_
 rintro e w' ⟨v,rs,rfl,hQ,hw,us,G,X,rfl,hG1,hG2,hrel⟩
 obtain ⟨σ',k0,k1,k2,k3,k4⟩:=outs_asg key σ hrel hG1
 have hgn:∀ q u,look q (resACs key rs).2 = some u→∀ b,σ'.g q = some b→w.heap.size ≤ b:=fun q u hq b hb => hG2 b ((k2 q u hq).2.2.1 b (fp_out hb))
 have hZ1:(∀ b,A b→Zn σ s.heap w b)→∀ b,((A b ∨ w.heap.size ≤ b)∧b ∉ X)→b < w'.heap.size→Zn σ' ((resACs key rs).2 ++ s.heap) w' b:=by
  intro hAz b hb hlt
  have hz:=Kept.grown hw h hAz b hb.1 hlt
  refine ⟨hlt,by rw [k0];exact hz.2.1,fun q u hq e => ?_⟩
  rw [look_append] at hq
  cases hn:look q (resACs key rs).2 with
  | some o' => exact hb.2 ((k2 q o' hn).2.2.2 b e)
  | none =>
   rw [hn] at hq
   rw [(k1 q hn).1] at e
   exact hz.2.2 q u hq e
 refine hK rs hQ _ w' σ' (out_rel ?_) ?_
 ·by_cases hsc:rs.all Res.scalar = true
  ·exact k4.relS hsc
  ·exact k4.rel (hZ1 (hAz ⟨rs,hQ,by simpa using hsc⟩))
 ·refine h.news k0 hw (hfr rs hQ) k1 (fun q o' hq => ?_) (fun q o' hq => ?_) k3
  ·obtain ⟨⟨dd,k,xs,d,b1,b2,b3,b4⟩,_⟩:=k2 q o' hq
   subst b1
   refine ⟨dd,b2,b3,?_⟩
   show if d = true then ownR k w' dd xs (σ'.F q) else rdR k (Zn σ' ((resACs key rs).2 ++ s.heap) w') w' dd xs
   cases d with
   | true => rw [if_pos rfl];exact b4
   | false =>
    rw [if_neg (by decide)]
    have b4':rdR k (fun b => (A b ∨ w.heap.size ≤ b)∧b ∉ X) w' dd xs:=b4
    have hsc:rs.all Res.scalar = false:=by
     have key:∀ {rs:List Res} {key:Nat} {q:Nat},look q (resACs key rs).2 = some (.row k xs false)→rs.all Res.scalar = false:=by
      intro rs
      induction rs with
      | nil => intro key q hq;cases hq
      | cons r rs ih =>
       intro key q hq
       cases r with
       | val d => rw [List.all_cons,ih (by simpa [resACs,resAC] using hq),Bool.and_false]
       | own kk ys d =>
        simp only [resACs,resAC,List.singleton_append,look] at hq
        split at hq
        ·cases hq;rfl
        ·rw [List.all_cons,ih hq,Bool.and_false]
     exact key hq
    exact b4'.mono (fun b hb hlt => hZ1 (hAz ⟨rs,hQ,hsc⟩) b hb hlt)
  ·obtain ⟨_,b5,b6,_⟩:=k2 q o' hq
   exact ⟨fun b hb => hG2 b (b6 b hb),b5⟩
theorem ROps.callNil (C:CfgOK P cfg) {ops:Array Oper} {o:Oper} {l:List Oper} {Q:St→Prop} {d:Nat} {f:Operand} {args:Array Operand} {ts:Array TypeId} {g:FuncId} (hb:awanted ops s.regs o = some true) (hdN:d < cfg.N)
  (ho:o.op = .call ⟨.value f,args,ts⟩) (hod:o.dst = some d) (hf:((opv s.regs f).bind avD).bind fnId = some g)
  {xs:List Operand} {tx:List TypeId} {pre:List (List D)} (ha:args.toList = xs ++ [.const (.slice none 0 0)]) (hpre:aargs cfg (fun k => look k s.heap) s.regs xs tx = some pre) (hr:opRefs s.regs xs = [])
  {rs:List Res} (hfn:AFn P g (pre ++ [[.raw (.slice none 0 0)]]) (· = rs)) (hfr:(resACs d rs).2.all (fun p => fresh s p.1) = true)
  (h:ROps P cfg M ops l Q (s.got d rs)):ROps P cfg M ops (o :: l) Q s:=by
 intro w0 Ok σ a w Q' hM hS hQ
 refine wpList_step (fun K hK => ?_)
 rw [awanted_spec hS hb]
 simp only [if_true]
 have hrel:relArgs (Zn σ s.heap w) w (pre ++ [[.raw (.slice none 0 0)]]) (args.toList.map a.eval):=by
  rw [ha,List.map_append]
  exact relArgs.join ((aargs_rel C hS hpre).2 hr) ⟨_,[],rfl,rdV_raw.2 ⟨rfl,rfl⟩,rfl⟩
 refine n_callR C hS (key:=d) ho hf hrel hfn (fun rs' e => e ▸ fun q ob hq => fresh_free (List.all_eq_true.1 hfr _ (look_all hq))) (fun rs' e v w' σ' hv hS' => ?_)
 subst e
 rw [hod]
 have hsub:∀ k o',look k (insAll (resACs d rs').2 s.heap) = some o'→look k ((resACs d rs').2 ++ s.heap) = some o':=fun k o' ho' => by rw [look_insAll] at ho';exact ho'
 exact hK _ _ (h w0 Ok σ' _ _ Q' hM (Sim.ins (hS'.forget (fun _ _ h => h) hsub) hdN (hv.sub hsub)) hQ)
end
noncomputable def atOwn (A:List (List D)) (k:Nat) (X:List (List D)) (B:List (List D)) (R:List Res) (a:List (List D)) (k':Nat) (x:List (List D)) (b:List (List D)):Option (List Res × Option (List (List D))):=by
 classical
 exact if a = A∧k' = k∧x = X∧b = B then some (R,Option.none) else Option.none
theorem atOwn_eq (A:List (List D)) (k:Nat) (X:List (List D)) (B:List (List D)) (R:List Res):atOwn A k X B R A k X B = some (R,Option.none):=by
 unfold atOwn;rw [if_pos ⟨rfl,rfl,rfl,rfl⟩]
theorem atOwn_some {A:List (List D)} {k:Nat} {X:List (List D)} {B:List (List D)} {R:List Res} {a:List (List D)} {k':Nat} {x b:List (List D)} {r:List Res × Option (List (List D))} (h:atOwn A k X B R a k' x b = some r):a = A∧k' = k∧x = X∧b = B∧r = (R,Option.none):=by
 unfold atOwn at h
 split at h
 ·rename_i h1
  exact ⟨h1.1,h1.2.1,h1.2.2.1,h1.2.2.2,(Option.some.inj h).symm⟩
 ·exact nomatch h
noncomputable def Tab.own' {P:Program} (T:Tab P) (g:FuncId) (n:Nat) {A:List (List D)} {k:Nat} {X B:List (List D)} {R:List Res} (h:AOw P g A k X B (· = R)):Tab P :=
 T.own g ⟨false,n,atOwn A k X B R⟩ (fun pre k' xs post r _ e => by
  obtain ⟨rfl,rfl,rfl,rfl,rfl⟩:=atOwn_some e
  exact h.toEf)
end Go.Proofs.Ytofpjonggpjneaa
