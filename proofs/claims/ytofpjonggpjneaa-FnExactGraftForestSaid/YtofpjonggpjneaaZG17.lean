/- Lemmas (17). -/
import Derived.BigQuiet
import Derived.Test.YtofpjonggpjneaaZG0
import Derived.Test.YtofpjonggpjneaaZG2
import Derived.Test.YtofpjonggpjneaaZG3
import Derived.Test.YtofpjonggpjneaaZG15
import Derived.Test.YtofpjonggpjneaaZG16
set_option linter.unusedSimpArgs false
set_option linter.unusedVariables false
namespace Go.Proofs.Ytofpjonggpjneaa
open Go.RowKit
noncomputable def T0:Tab Try.prog :=
 ((Tab.none.add 124 (tab2 codL codL fun xs ys => some [.val (.bool (decide (cmpT xs ys < 0)))]) (tab2_ok fun xs ys rs h => by cases h;exact a_l03Before xs ys)).add
   182 (tab2 codL codL fun xs ys => some [.val (.bool (decide (xs = ys)))]) (tab2_ok fun xs ys rs h => by cases h;exact a_l01Same xs ys)).add
   164 (tab1 codL fun xs => if xs.length ≤ 1000000000 then some [.own 1 (xs.map eI) true] else none) (tab1_ok fun xs rs h => by split at h;cases h;exact a_l01Own xs ‹_›;cases h)
set_option maxHeartbeats 2000000 in
theorem a_l04Put (s:List (List Int × Int)) (t:List Int) (n:Int) (hr:RiseC s) (hsz:s.length ≤ 1000) (htz:t.length ≤ 1000) (hadd:∀ z ∈ s,In64 (z.2 + n)):AFn Try.prog 145 [[.sl 2 (s.map eCt)],eL t,eI n] (· = [.own 2 ((putC s t n).map eCt) false]):=by
 refine AFn.of_runs (cfg_ok 92) Try.func145 rfl rfl rfl (by simp only [List.length_cons,List.length_nil];decide) ?_
 have hres:Try.f145.results.toList = [.tmp 6]:=rfl
 have hrts:Try.f145.resultTypes.toList = [40]:=rfl
 simp only [argRegs,argAV1,eL,eI,eLL,eB,Nat.zero_add,Nat.reduceAdd]
 intro M
 refine RunK.of ?_
 repeat' (first|with_reducible (first|refine Q1 ?_|refine Q2 ?_|refine Q3 ?_|refine Q4 ?_|refine Q5 ?_|refine Q6 ?_|refine Q7 ?_|refine Q8 ?_|refine Q9 ?_|refine Qa ?_|refine Qb ?_|refine Qc ?_|refine Qd ?_|refine Qe ?_|refine Qf ?_)|((with_reducible refine Qo ?_ ?_);focus rfl)|((with_reducible first|refine QT 11 (l:=?_) ?_ ?_|refine QF 11 (l:=?_) ?_ ?_);rotate_left 1;focus (simp only [Zu,Nat.reduceSub,Nat.reduceBEq];with_reducible rfl))|((with_reducible first|refine QS (cfg_ok 92) T0 (s':=?_) ?_ ?_|refine QC (b:=?_) ?_ ?_);rotate_left 1;focus ((with_reducible refine QW ?_);simp only [Zg,seval,if_true,if_false,reduceCtorEq,Nat.reduceEqDiff,T0];with_reducible rfl))|((with_reducible refine QD (cfg_ok 92) T0 mixed_ok (tr:=?_) (s':=?_) ?_ ?_ ?_);rotate_left 2;(focus ((with_reducible refine QW ?_);simp only [Zg,Zd,seval,if_true,if_false,reduceCtorEq,Nat.reduceEqDiff,T0];with_reducible rfl));focus ((with_reducible refine QK ?_);simp only [Zk];kernel_rfl)))
 refine RunK.loop (β:=Nat) (γ:=Nat) (fun i => ⟨[(0,.c (.val (.sl 2 (s.map eCt)))),(1,.c (.val (.sl 1 (t.map eI)))),(2,.c (.val (.int n))),(7,.c (.val (.int i)))],[]⟩) (fun i => i ≤ s.length∧∀ z ∈ s.take i,cmpT z.1 t < 0) (fun i => s.length - i)
  (fun i => ⟨[(0,.c (.val (.sl 2 (s.map eCt)))),(1,.c (.val (.sl 1 (t.map eI)))),(2,.c (.val (.int n))),(7,.c (.val (.int i)))],[]⟩) (fun i => i ≤ s.length∧(∀ z ∈ s.take i,cmpT z.1 t < 0)∧∀ h:i < s.length,¬ cmpT s[i].1 t < 0) 0 ⟨Nat.zero_le _,by simp⟩ ?_ ?_ ?_
 ·(repeat' (first|with_reducible refine Qn|((with_reducible refine Qr ?_ ?_);focus (first|with_reducible rfl|(simp only [Zz,Nat.reduceBEq];done)|rfl))|((with_reducible refine Qj (o':=?_) ?_ ?_ ?_);rotate_left 1;focus rfl)|((with_reducible refine Qw ?_ ?_);(focus (first|with_reducible rfl|(simp only [Zv];done)));focus (first|exact id|exact (fun h => nomatch h)|exact (fun _ => rfl)))))
 ·rintro i ⟨hi,hlow⟩
  have hw:=w64_succ (n:=i) (by omega)
  by_cases h:i < s.length
  ·by_cases hc:cmpT s[i].1 t < 0
   ·repeat' (first|with_reducible (first|refine Q1 ?_|refine Q2 ?_|refine Q3 ?_|refine Q4 ?_|refine Q5 ?_|refine Q6 ?_|refine Q7 ?_|refine Q8 ?_|refine Q9 ?_|refine Qa ?_|refine Qb ?_|refine Qc ?_|refine Qd ?_|refine Qe ?_|refine Qf ?_)|((with_reducible refine Qo ?_ ?_);focus rfl)|((with_reducible first|refine QT 11 (l:=?_) ?_ ?_|refine QF 11 (l:=?_) ?_ ?_);rotate_left 1;focus (simp only [Zu,Nat.reduceSub,Nat.reduceBEq];with_reducible rfl))|((with_reducible first|refine QS (cfg_ok 92) T0 (s':=?_) ?_ ?_|refine QC (b:=?_) ?_ ?_);rotate_left 1;focus ((with_reducible refine QW ?_);simp only [Zg,seval,if_true,if_false,reduceCtorEq,Nat.reduceEqDiff,T0,List.length_map,Int.ofNat_lt,h,hc,Int.natCast_nonneg,Int.toNat_natCast,List.getElem?_map,List.getElem?_eq_getElem h,eCt,hw];with_reducible rfl))|((with_reducible refine QD (cfg_ok 92) T0 mixed_ok (tr:=?_) (s':=?_) ?_ ?_ ?_);rotate_left 2;(focus ((with_reducible refine QW ?_);simp only [Zg,Zd,seval,if_true,if_false,reduceCtorEq,Nat.reduceEqDiff,T0,List.length_map,Int.ofNat_lt,h,hc,Int.natCast_nonneg,Int.toNat_natCast,List.getElem?_map,List.getElem?_eq_getElem h,eCt,hw];with_reducible rfl));focus ((with_reducible refine QK ?_);simp only [Zk];kernel_rfl)))
    refine roundK.on (i + 1) ⟨⟨h,?_⟩,by omega⟩ ?_
    ·intro z hz
     rw [List.take_succ_eq_append_getElem h,List.mem_append,List.mem_singleton] at hz
     rcases hz with hz|rfl
     ·exact hlow z hz
     ·exact hc
    ·(repeat' (first|with_reducible refine Qn|((with_reducible refine Qr ?_ ?_);focus (first|with_reducible rfl|(simp only [Zz,Nat.reduceBEq];done)|rfl))|((with_reducible refine Qj (o':=?_) ?_ ?_ ?_);rotate_left 1;focus rfl)|((with_reducible refine Qw ?_ ?_);(focus (first|with_reducible rfl|(simp only [Zv];done)));focus (first|exact id|exact (fun h => nomatch h)|exact (fun _ => rfl)))))
   ·repeat' (first|with_reducible (first|refine Q1 ?_|refine Q2 ?_|refine Q3 ?_|refine Q4 ?_|refine Q5 ?_|refine Q6 ?_|refine Q7 ?_|refine Q8 ?_|refine Q9 ?_|refine Qa ?_|refine Qb ?_|refine Qc ?_|refine Qd ?_|refine Qe ?_|refine Qf ?_)|((with_reducible refine Qo ?_ ?_);focus rfl)|((with_reducible first|refine QT 11 (l:=?_) ?_ ?_|refine QF 11 (l:=?_) ?_ ?_);rotate_left 1;focus (simp only [Zu,Nat.reduceSub,Nat.reduceBEq];with_reducible rfl))|((with_reducible first|refine QS (cfg_ok 92) T0 (s':=?_) ?_ ?_|refine QC (b:=?_) ?_ ?_);rotate_left 1;focus ((with_reducible refine QW ?_);simp only [Zg,seval,if_true,if_false,reduceCtorEq,Nat.reduceEqDiff,T0,List.length_map,Int.ofNat_lt,h,hc,Int.natCast_nonneg,Int.toNat_natCast,List.getElem?_map,List.getElem?_eq_getElem h,eCt,hw];with_reducible rfl))|((with_reducible refine QD (cfg_ok 92) T0 mixed_ok (tr:=?_) (s':=?_) ?_ ?_ ?_);rotate_left 2;(focus ((with_reducible refine QW ?_);simp only [Zg,Zd,seval,if_true,if_false,reduceCtorEq,Nat.reduceEqDiff,T0,List.length_map,Int.ofNat_lt,h,hc,Int.natCast_nonneg,Int.toNat_natCast,List.getElem?_map,List.getElem?_eq_getElem h,eCt,hw];with_reducible rfl));focus ((with_reducible refine QK ?_);simp only [Zk];kernel_rfl)))
    refine roundK.out i ⟨hi,hlow,fun _ => hc⟩ ?_
    (repeat' (first|with_reducible refine Qn|((with_reducible refine Qr ?_ ?_);focus (first|with_reducible rfl|(simp only [Zz,Nat.reduceBEq];done)|rfl))|((with_reducible refine Qj (o':=?_) ?_ ?_ ?_);rotate_left 1;focus rfl)|((with_reducible refine Qw ?_ ?_);(focus (first|with_reducible rfl|(simp only [Zv];done)));focus (first|exact id|exact (fun h => nomatch h)|exact (fun _ => rfl)))))
  ·repeat' (first|with_reducible (first|refine Q1 ?_|refine Q2 ?_|refine Q3 ?_|refine Q4 ?_|refine Q5 ?_|refine Q6 ?_|refine Q7 ?_|refine Q8 ?_|refine Q9 ?_|refine Qa ?_|refine Qb ?_|refine Qc ?_|refine Qd ?_|refine Qe ?_|refine Qf ?_)|((with_reducible refine Qo ?_ ?_);focus rfl)|((with_reducible first|refine QT 11 (l:=?_) ?_ ?_|refine QF 11 (l:=?_) ?_ ?_);rotate_left 1;focus (simp only [Zu,Nat.reduceSub,Nat.reduceBEq];with_reducible rfl))|((with_reducible first|refine QS (cfg_ok 92) T0 (s':=?_) ?_ ?_|refine QC (b:=?_) ?_ ?_);rotate_left 1;focus ((with_reducible refine QW ?_);simp only [Zg,seval,if_true,if_false,reduceCtorEq,Nat.reduceEqDiff,T0,List.length_map,Int.ofNat_lt,h,Int.natCast_nonneg,Int.toNat_natCast,List.getElem?_map,eCt,hw];with_reducible rfl))|((with_reducible refine QD (cfg_ok 92) T0 mixed_ok (tr:=?_) (s':=?_) ?_ ?_ ?_);rotate_left 2;(focus ((with_reducible refine QW ?_);simp only [Zg,Zd,seval,if_true,if_false,reduceCtorEq,Nat.reduceEqDiff,T0,List.length_map,Int.ofNat_lt,h,Int.natCast_nonneg,Int.toNat_natCast,List.getElem?_map,eCt,hw];with_reducible rfl));focus ((with_reducible refine QK ?_);simp only [Zk];kernel_rfl)))
   refine roundK.out i ⟨hi,hlow,fun h' => absurd h' h⟩ ?_
   (repeat' (first|with_reducible refine Qn|((with_reducible refine Qr ?_ ?_);focus (first|with_reducible rfl|(simp only [Zz,Nat.reduceBEq];done)|rfl))|((with_reducible refine Qj (o':=?_) ?_ ?_ ?_);rotate_left 1;focus rfl)|((with_reducible refine Qw ?_ ?_);(focus (first|with_reducible rfl|(simp only [Zv];done)));focus (first|exact id|exact (fun h => nomatch h)|exact (fun _ => rfl)))))
 ·rintro k ⟨hk,hlow,hhigh⟩
  repeat' (first|with_reducible (first|refine Q1 ?_|refine Q2 ?_|refine Q3 ?_|refine Q4 ?_|refine Q5 ?_|refine Q6 ?_|refine Q7 ?_|refine Q8 ?_|refine Q9 ?_|refine Qa ?_|refine Qb ?_|refine Qc ?_|refine Qd ?_|refine Qe ?_|refine Qf ?_)|((with_reducible refine Qo ?_ ?_);focus rfl)|((with_reducible first|refine QT 11 (l:=?_) ?_ ?_|refine QF 11 (l:=?_) ?_ ?_);rotate_left 1;focus (simp only [Zu,Nat.reduceSub,Nat.reduceBEq];with_reducible rfl))|((with_reducible first|refine QS (cfg_ok 92) T0 (s':=?_) ?_ ?_|refine QC (b:=?_) ?_ ?_);rotate_left 1;focus ((with_reducible refine QW ?_);simp only [Zg,seval,if_true,if_false,reduceCtorEq,Nat.reduceEqDiff,T0];with_reducible rfl))|((with_reducible refine QD (cfg_ok 92) T0 mixed_ok (tr:=?_) (s':=?_) ?_ ?_ ?_);rotate_left 2;(focus ((with_reducible refine QW ?_);simp only [Zg,Zd,seval,if_true,if_false,reduceCtorEq,Nat.reduceEqDiff,T0];with_reducible rfl));focus ((with_reducible refine QK ?_);simp only [Zk];kernel_rfl)))
  refine RunK.loop (β:=Nat) (γ:=Nat) (fun i => ⟨[(0,.c (.val (.sl 2 (s.map eCt)))),(1,.c (.val (.sl 1 (t.map eI)))),(2,.c (.val (.int n))),(7,.c (.val (.int k))),(8,.c (.own 8 (putTo s t n k i).length)),(9,.c (.val (.int i)))],[(8,.row 2 ((putTo s t n k i).map eCt) false)]⟩) (fun i => i ≤ s.length) (fun i => s.length - i)
   (fun i => ⟨[(0,.c (.val (.sl 2 (s.map eCt)))),(1,.c (.val (.sl 1 (t.map eI)))),(2,.c (.val (.int n))),(7,.c (.val (.int k))),(8,.c (.own 8 (putTo s t n k i).length)),(9,.c (.val (.int i)))],[(8,.row 2 ((putTo s t n k i).map eCt) false)]⟩) (fun i => i = s.length) 0 (Nat.zero_le _) ?_ ?_ ?_
  ·(repeat' (first|with_reducible refine Qn|((with_reducible refine Qr ?_ ?_);focus (first|with_reducible rfl|(simp only [Zz,Nat.reduceBEq,putTo];done)|rfl))|((with_reducible refine Qj (o':=?_) ?_ ?_ ?_);rotate_left 1;focus rfl)|((with_reducible refine Qw ?_ ?_);(focus (first|with_reducible rfl|(simp only [Zv,putTo];done)));focus (first|exact id|exact (fun h => nomatch h)|exact (fun _ => rfl)))))
  ·rintro i hi
   have hw:=w64_succ (n:=i) (by omega)
   have hpl:=putTo_len s t n k i
   have hpl':(putTo s t n k i).length ≤ 2000:=by split at hpl <;> omega
   have q1:=big_le (n:=(putTo s t n k i).length + 1) (by omega)
   have q2:=big_mul (n:=(putTo s t n k i).length + 1) (c:=32) (by omega) (by omega)
   have q3:=big_le (n:=(putTo s t n k i).length + 1 + 1) (by omega)
   have q4:=big_mul (n:=(putTo s t n k i).length + 1 + 1) (c:=32) (by omega) (by omega)
   have ht1:=eq_true (show t.length ≤ 1000000000 by omega)
   by_cases h:i < s.length
   ·have hg:s.getD i ([],0) = s[i]:=by simp [List.getD,h]
    have hn:=hadd s[i] (List.getElem_mem _)
    have hn2:=w64_eq hn
    have hs1:putTo s t n k (i + 1) = (if i = k∧s[i].1 ≠ t then putTo s t n k i ++ [(t,n)] else putTo s t n k i) ++ [putEl t n s[i]]:=by rw [← hg];rfl
    by_cases he:s[i].1 = t
    ·have hs2:putTo s t n k (i + 1) = putTo s t n k i ++ [(t,s[i].2 + n)]:=by
      rw [hs1,if_neg (fun h => h.2 he)];unfold putEl;rw [if_pos he,he]
     by_cases hk2:i = k
     ·subst hk2
      repeat' (first|with_reducible (first|refine Q1 ?_|refine Q2 ?_|refine Q3 ?_|refine Q4 ?_|refine Q5 ?_|refine Q6 ?_|refine Q7 ?_|refine Q8 ?_|refine Q9 ?_|refine Qa ?_|refine Qb ?_|refine Qc ?_|refine Qd ?_|refine Qe ?_|refine Qf ?_)|((with_reducible refine Qo ?_ ?_);focus rfl)|((with_reducible first|refine QT 11 (l:=?_) ?_ ?_|refine QF 11 (l:=?_) ?_ ?_);rotate_left 1;focus (simp only [Zu,Nat.reduceSub,Nat.reduceBEq];with_reducible rfl))|((with_reducible first|refine QS (cfg_ok 92) T0 (s':=?_) ?_ ?_|refine QC (b:=?_) ?_ ?_);rotate_left 1;focus ((with_reducible refine QW ?_);simp only [Zg,seval,if_true,if_false,reduceCtorEq,Nat.reduceEqDiff,T0,List.length_map,Int.ofNat_lt,h,Int.natCast_nonneg,Int.toNat_natCast,map_get h,eCt,hw,he,hn2,q1,q2,ht1];with_reducible rfl))|((with_reducible refine QD (cfg_ok 92) T0 mixed_ok (tr:=?_) (s':=?_) ?_ ?_ ?_);rotate_left 2;(focus ((with_reducible refine QW ?_);simp only [Zg,Zd,seval,if_true,if_false,reduceCtorEq,Nat.reduceEqDiff,T0,List.length_map,Int.ofNat_lt,h,Int.natCast_nonneg,Int.toNat_natCast,map_get h,eCt,hw,he,hn2,q1,q2,ht1];with_reducible rfl));focus ((with_reducible refine QK ?_);simp only [Zk];kernel_rfl)))
      refine roundK.on (i + 1) ⟨h,by omega⟩ ?_
      rw [hs2]
      (repeat' (first|with_reducible refine Qn|((with_reducible refine Qr ?_ ?_);focus (first|with_reducible rfl|(simp only [Zz,Nat.reduceBEq,eCt];done)|rfl))|((with_reducible refine Qj (o':=?_) ?_ ?_ ?_);rotate_left 1;focus rfl)|((with_reducible refine Qw ?_ ?_);(focus (first|with_reducible rfl|(simp only [Zv,eCt];done)));focus (first|exact id|exact (fun h => nomatch h)|exact (fun _ => rfl)))))
     ·have hb:((i:Int) == (k:Int)) = false:=beq_eq_false_iff_ne.2 (by omega)
      repeat' (first|with_reducible (first|refine Q1 ?_|refine Q2 ?_|refine Q3 ?_|refine Q4 ?_|refine Q5 ?_|refine Q6 ?_|refine Q7 ?_|refine Q8 ?_|refine Q9 ?_|refine Qa ?_|refine Qb ?_|refine Qc ?_|refine Qd ?_|refine Qe ?_|refine Qf ?_)|((with_reducible refine Qo ?_ ?_);focus rfl)|((with_reducible first|refine QT 11 (l:=?_) ?_ ?_|refine QF 11 (l:=?_) ?_ ?_);rotate_left 1;focus (simp only [Zu,Nat.reduceSub,Nat.reduceBEq];with_reducible rfl))|((with_reducible first|refine QS (cfg_ok 92) T0 (s':=?_) ?_ ?_|refine QC (b:=?_) ?_ ?_);rotate_left 1;focus ((with_reducible refine QW ?_);simp only [Zg,seval,if_true,if_false,reduceCtorEq,Nat.reduceEqDiff,T0,List.length_map,Int.ofNat_lt,h,Int.natCast_nonneg,Int.toNat_natCast,map_get h,eCt,hw,he,hb,hn2,q1,q2,ht1];with_reducible rfl))|((with_reducible refine QD (cfg_ok 92) T0 mixed_ok (tr:=?_) (s':=?_) ?_ ?_ ?_);rotate_left 2;(focus ((with_reducible refine QW ?_);simp only [Zg,Zd,seval,if_true,if_false,reduceCtorEq,Nat.reduceEqDiff,T0,List.length_map,Int.ofNat_lt,h,Int.natCast_nonneg,Int.toNat_natCast,map_get h,eCt,hw,he,hb,hn2,q1,q2,ht1];with_reducible rfl));focus ((with_reducible refine QK ?_);simp only [Zk];kernel_rfl)))
      refine roundK.on (i + 1) ⟨h,by omega⟩ ?_
      rw [hs2]
      (repeat' (first|with_reducible refine Qn|((with_reducible refine Qr ?_ ?_);focus (first|with_reducible rfl|(simp only [Zz,Nat.reduceBEq,eCt];done)|rfl))|((with_reducible refine Qj (o':=?_) ?_ ?_ ?_);rotate_left 1;focus rfl)|((with_reducible refine Qw ?_ ?_);(focus (first|with_reducible rfl|(simp only [Zv,eCt];done)));focus (first|exact id|exact (fun h => nomatch h)|exact (fun _ => rfl)))))
    ·by_cases hk2:i = k
     ·subst hk2
      repeat' (first|with_reducible (first|refine Q1 ?_|refine Q2 ?_|refine Q3 ?_|refine Q4 ?_|refine Q5 ?_|refine Q6 ?_|refine Q7 ?_|refine Q8 ?_|refine Q9 ?_|refine Qa ?_|refine Qb ?_|refine Qc ?_|refine Qd ?_|refine Qe ?_|refine Qf ?_)|((with_reducible refine Qo ?_ ?_);focus rfl)|((with_reducible first|refine QT 11 (l:=?_) ?_ ?_|refine QF 11 (l:=?_) ?_ ?_);rotate_left 1;focus (simp only [Zu,Nat.reduceSub,Nat.reduceBEq];with_reducible rfl))|((with_reducible first|refine QS (cfg_ok 92) T0 (s':=?_) ?_ ?_|refine QC (b:=?_) ?_ ?_);rotate_left 1;focus ((with_reducible refine QW ?_);simp only [Zg,seval,if_true,if_false,reduceCtorEq,Nat.reduceEqDiff,T0,List.length_map,List.length_append,Int.ofNat_lt,h,Int.natCast_nonneg,Int.toNat_natCast,map_get h,eCt,hw,he,hn2,q1,q2,q3,q4,ht1];with_reducible rfl))|((with_reducible refine QD (cfg_ok 92) T0 mixed_ok (tr:=?_) (s':=?_) ?_ ?_ ?_);rotate_left 2;(focus ((with_reducible refine QW ?_);simp only [Zg,Zd,seval,if_true,if_false,reduceCtorEq,Nat.reduceEqDiff,T0,List.length_map,List.length_append,Int.ofNat_lt,h,Int.natCast_nonneg,Int.toNat_natCast,map_get h,eCt,hw,he,hn2,q1,q2,q3,q4,ht1];with_reducible rfl));focus ((with_reducible refine QK ?_);simp only [Zk];kernel_rfl)))
      refine roundK.on (i + 1) ⟨h,by omega⟩ ?_
      rw [hs1,if_pos ⟨rfl,he⟩,putEl_ne he]
      (repeat' (first|with_reducible refine Qn|((with_reducible refine Qr ?_ ?_);focus (first|with_reducible rfl|(simp only [Zz,Nat.reduceBEq,eCt];done)|rfl))|((with_reducible refine Qj (o':=?_) ?_ ?_ ?_);rotate_left 1;focus rfl)|((with_reducible refine Qw ?_ ?_);(focus (first|with_reducible rfl|(simp only [Zv,eCt];done)));focus (first|exact id|exact (fun h => nomatch h)|exact (fun _ => rfl)))))
     ·have hb:((i:Int) == (k:Int)) = false:=beq_eq_false_iff_ne.2 (by omega)
      repeat' (first|with_reducible (first|refine Q1 ?_|refine Q2 ?_|refine Q3 ?_|refine Q4 ?_|refine Q5 ?_|refine Q6 ?_|refine Q7 ?_|refine Q8 ?_|refine Q9 ?_|refine Qa ?_|refine Qb ?_|refine Qc ?_|refine Qd ?_|refine Qe ?_|refine Qf ?_)|((with_reducible refine Qo ?_ ?_);focus rfl)|((with_reducible first|refine QT 11 (l:=?_) ?_ ?_|refine QF 11 (l:=?_) ?_ ?_);rotate_left 1;focus (simp only [Zu,Nat.reduceSub,Nat.reduceBEq];with_reducible rfl))|((with_reducible first|refine QS (cfg_ok 92) T0 (s':=?_) ?_ ?_|refine QC (b:=?_) ?_ ?_);rotate_left 1;focus ((with_reducible refine QW ?_);simp only [Zg,seval,if_true,if_false,reduceCtorEq,Nat.reduceEqDiff,T0,List.length_map,Int.ofNat_lt,h,Int.natCast_nonneg,Int.toNat_natCast,map_get h,eCt,hw,he,hb,hn2,q1,q2,ht1];with_reducible rfl))|((with_reducible refine QD (cfg_ok 92) T0 mixed_ok (tr:=?_) (s':=?_) ?_ ?_ ?_);rotate_left 2;(focus ((with_reducible refine QW ?_);simp only [Zg,Zd,seval,if_true,if_false,reduceCtorEq,Nat.reduceEqDiff,T0,List.length_map,Int.ofNat_lt,h,Int.natCast_nonneg,Int.toNat_natCast,map_get h,eCt,hw,he,hb,hn2,q1,q2,ht1];with_reducible rfl));focus ((with_reducible refine QK ?_);simp only [Zk];kernel_rfl)))
      refine roundK.on (i + 1) ⟨h,by omega⟩ ?_
      rw [hs1,if_neg (fun h => hk2 h.1),putEl_ne he]
      (repeat' (first|with_reducible refine Qn|((with_reducible refine Qr ?_ ?_);focus (first|with_reducible rfl|(simp only [Zz,Nat.reduceBEq,eCt];done)|rfl))|((with_reducible refine Qj (o':=?_) ?_ ?_ ?_);rotate_left 1;focus rfl)|((with_reducible refine Qw ?_ ?_);(focus (first|with_reducible rfl|(simp only [Zv,eCt];done)));focus (first|exact id|exact (fun h => nomatch h)|exact (fun _ => rfl)))))
   ·repeat' (first|with_reducible (first|refine Q1 ?_|refine Q2 ?_|refine Q3 ?_|refine Q4 ?_|refine Q5 ?_|refine Q6 ?_|refine Q7 ?_|refine Q8 ?_|refine Q9 ?_|refine Qa ?_|refine Qb ?_|refine Qc ?_|refine Qd ?_|refine Qe ?_|refine Qf ?_)|((with_reducible refine Qo ?_ ?_);focus rfl)|((with_reducible first|refine QT 11 (l:=?_) ?_ ?_|refine QF 11 (l:=?_) ?_ ?_);rotate_left 1;focus (simp only [Zu,Nat.reduceSub,Nat.reduceBEq];with_reducible rfl))|((with_reducible first|refine QS (cfg_ok 92) T0 (s':=?_) ?_ ?_|refine QC (b:=?_) ?_ ?_);rotate_left 1;focus ((with_reducible refine QW ?_);simp only [Zg,seval,if_true,if_false,reduceCtorEq,Nat.reduceEqDiff,T0,List.length_map,Int.ofNat_lt,h,Int.natCast_nonneg,Int.toNat_natCast,eCt,hw,ht1];with_reducible rfl))|((with_reducible refine QD (cfg_ok 92) T0 mixed_ok (tr:=?_) (s':=?_) ?_ ?_ ?_);rotate_left 2;(focus ((with_reducible refine QW ?_);simp only [Zg,Zd,seval,if_true,if_false,reduceCtorEq,Nat.reduceEqDiff,T0,List.length_map,Int.ofNat_lt,h,Int.natCast_nonneg,Int.toNat_natCast,eCt,hw,ht1];with_reducible rfl));focus ((with_reducible refine QK ?_);simp only [Zk];kernel_rfl)))
    refine roundK.out i (by omega) ?_
    (repeat' (first|with_reducible refine Qn|((with_reducible refine Qr ?_ ?_);focus (first|with_reducible rfl|(simp only [Zz,Nat.reduceBEq];done)|rfl))|((with_reducible refine Qj (o':=?_) ?_ ?_ ?_);rotate_left 1;focus rfl)|((with_reducible refine Qw ?_ ?_);(focus (first|with_reducible rfl|(simp only [Zv];done)));focus (first|exact id|exact (fun h => nomatch h)|exact (fun _ => rfl)))))
  ·rintro i rfl
   have hsum:putC s t n = if k = s.length then putTo s t n k s.length ++ [(t,n)] else putTo s t n k s.length:=by
    have h1:=putTo_all (s.take k) (s.drop k) t n (by rw [List.take_append_drop];exact hr) hlow (fun z hz => by
     rw [List.head?_drop] at hz
     obtain ⟨h2,e⟩:=List.getElem?_eq_some_iff.1 hz
     rw [← e];exact hhigh h2)
    rw [List.take_append_drop,List.length_take,Nat.min_eq_left hk] at h1
    rw [← h1]
    split <;> simp
   have hpl:=putTo_len s t n k s.length
   have hpl':(putTo s t n k s.length).length ≤ 2000:=by split at hpl <;> omega
   have q1:=big_le (n:=(putTo s t n k s.length).length + 1) (by omega)
   have q2:=big_mul (n:=(putTo s t n k s.length).length + 1) (c:=32) (by omega) (by omega)
   have ht1:=eq_true (show t.length ≤ 1000000000 by omega)
   by_cases hk2:k = s.length
   ·rw [if_pos hk2] at hsum
    rw [hsum]
    subst hk2
    repeat' (first|with_reducible (first|refine Q1 ?_|refine Q2 ?_|refine Q3 ?_|refine Q4 ?_|refine Q5 ?_|refine Q6 ?_|refine Q7 ?_|refine Q8 ?_|refine Q9 ?_|refine Qa ?_|refine Qb ?_|refine Qc ?_|refine Qd ?_|refine Qe ?_|refine Qf ?_)|((with_reducible refine Qo ?_ ?_);focus rfl)|((with_reducible first|refine QT 11 (l:=?_) ?_ ?_|refine QF 11 (l:=?_) ?_ ?_);rotate_left 1;focus (simp only [Zu,Nat.reduceSub,Nat.reduceBEq];with_reducible rfl))|((with_reducible first|refine QS (cfg_ok 92) T0 (s':=?_) ?_ ?_|refine QC (b:=?_) ?_ ?_);rotate_left 1;focus ((with_reducible refine QW ?_);simp only [Zg,seval,if_true,if_false,reduceCtorEq,Nat.reduceEqDiff,T0,List.length_map,eCt,q1,q2,ht1];with_reducible rfl))|((with_reducible refine QD (cfg_ok 92) T0 mixed_ok (tr:=?_) (s':=?_) ?_ ?_ ?_);rotate_left 2;(focus ((with_reducible refine QW ?_);simp only [Zg,Zd,seval,if_true,if_false,reduceCtorEq,Nat.reduceEqDiff,T0,List.length_map,eCt,q1,q2,ht1];with_reducible rfl));focus ((with_reducible refine QK ?_);simp only [Zk];kernel_rfl)))
    (refine Ends.mk (by simp) (rs:=?_) (ks:=?_) hres hrts ?_ ?_ ?_;rotate_left 2;(focus (simp only [Ze,Zg,seval,if_true,if_false,reduceCtorEq,Nat.reduceEqDiff,eCt];with_reducible rfl));(focus simp);focus (first|with_reducible rfl|(simp only [Zv,eCt];done)))
   ·rw [if_neg hk2] at hsum
    rw [hsum]
    have hb:((k:Int) == (s.length:Int)) = false:=beq_eq_false_iff_ne.2 (by omega)
    repeat' (first|with_reducible (first|refine Q1 ?_|refine Q2 ?_|refine Q3 ?_|refine Q4 ?_|refine Q5 ?_|refine Q6 ?_|refine Q7 ?_|refine Q8 ?_|refine Q9 ?_|refine Qa ?_|refine Qb ?_|refine Qc ?_|refine Qd ?_|refine Qe ?_|refine Qf ?_)|((with_reducible refine Qo ?_ ?_);focus rfl)|((with_reducible first|refine QT 11 (l:=?_) ?_ ?_|refine QF 11 (l:=?_) ?_ ?_);rotate_left 1;focus (simp only [Zu,Nat.reduceSub,Nat.reduceBEq];with_reducible rfl))|((with_reducible first|refine QS (cfg_ok 92) T0 (s':=?_) ?_ ?_|refine QC (b:=?_) ?_ ?_);rotate_left 1;focus ((with_reducible refine QW ?_);simp only [Zg,seval,if_true,if_false,reduceCtorEq,Nat.reduceEqDiff,T0,List.length_map,eCt,hb];with_reducible rfl))|((with_reducible refine QD (cfg_ok 92) T0 mixed_ok (tr:=?_) (s':=?_) ?_ ?_ ?_);rotate_left 2;(focus ((with_reducible refine QW ?_);simp only [Zg,Zd,seval,if_true,if_false,reduceCtorEq,Nat.reduceEqDiff,T0,List.length_map,eCt,hb];with_reducible rfl));focus ((with_reducible refine QK ?_);simp only [Zk];kernel_rfl)))
    (refine Ends.mk (by simp) (rs:=?_) (ks:=?_) hres hrts ?_ ?_ ?_;rotate_left 2;(focus (simp only [Ze,Zg,seval,if_true,if_false,reduceCtorEq,Nat.reduceEqDiff,eCt];with_reducible rfl));(focus simp);focus (first|with_reducible rfl|(simp only [Zv,eCt];done)))
end Go.Proofs.Ytofpjonggpjneaa
namespace Go.Proofs.Ytofpjonggpjneaa
open Go.RowKit
section
variable {β:Type} {S:Rep β} {w:World}
end
theorem ChgF.toChg {F:List Nat} {w w':World} {lo hi:Nat} (h:ChgF F w w') (hF:∀ b,b ∈ F→lo ≤ b∧b < hi):Chg lo hi w w' :=
 ⟨h.os,h.tape,h.output,h.size,fun k hk hne => h.block k hk (fun e => by have:=hF k e;omega)⟩
end Go.Proofs.Ytofpjonggpjneaa
namespace Go.Proofs.Ytofpjonggpjneaa
open Go.RowKit
section
variable {β:Type} {S:Rep β} {w:World}
theorem OwnF.ctAt {v:Value} {xs:List (β × Int)} {F:List Nat} (h:OwnF (RS (RP S RI)) F w [v] xs) (hS:S.k = 1) (i:Nat) (hi:i < xs.length) :
  ∃ g cap s G,v = .slice (some ⟨g,0,none⟩) xs.length cap∧xs.length ≤ cap∧cap ≤ 9223372036854775807∧g < w.heap.size∧w.cell? ⟨g,i * 2,none⟩ = some s∧w.cell? ⟨g,i * 2 + 1,none⟩ = some (.int .i64 xs[i].2)∧w.frozen? ⟨g,i * 2 + 1,none⟩ = false ∧
   OwnF S G w [s] xs[i].1∧(∀ b,b ∈ G→b ∈ F∧b ≠ g) ∧
   (∀ n,In64 n→OwnF (RS (RP S RI)) F (w.setCell ⟨g,i * 2 + 1,none⟩ (.int .i64 n)) [v] (xs.set i (xs[i].1,n))∧ChgF F w (w.setCell ⟨g,i * 2 + 1,none⟩ (.int .i64 n))) ∧
   (∀ (w':World) (y:β),OwnF S G w' [s] y→ChgF G w w'→OwnF (RS (RP S RI)) F w' [v] (xs.set i (y,xs[i].2))∧ChgF F w w'):=by
 have hlt:=h.lt
 have hnd:=h.2
 have hk2:(RP S RI).k = 2:=by show S.k + 1 = 2;omega
 obtain ⟨g,cap,d1,c,d2,F1,G0,F2,hv,hc1,hc2,rfl,hcl,hd1,hx,hrow,hK⟩:=h.lens i hi
 rw [hk2] at hd1 hrow
 have hx0:=hx
 obtain ⟨c1,c2,G,Gb,rfl,rfl,hs,⟨⟨rfl,hb⟩,rfl⟩⟩:=hx0
 have hsl:=S.rd_len (S.own_rd hs)
 rw [hS] at hsl
 match c1,hsl with
 | [s],_ =>
 simp only [List.append_nil] at *
 have hn1:=List.nodup_cons.1 hnd
 have hn2:=List.nodup_append.1 hn1.2
 have hn3:=List.nodup_append.1 hn2.2.1
 have e1:d1 ++ ([s] ++ [Value.int IntKind.i64 xs[i].2] ++ d2) = d1 ++ (s :: Value.int IntKind.i64 xs[i].2 :: d2):=by simp
 have g1:w.cell? ⟨g,i * 2,none⟩ = some s:=hrow.cells (i * 2) _ (by rw [e1,List.getElem?_append_right (by omega),hd1];simp)
 have g2:w.cell? ⟨g,i * 2 + 1,none⟩ = some (.int .i64 xs[i].2):=hrow.cells (i * 2 + 1) _ (by rw [e1,List.getElem?_append_right (by omega),hd1];simp)
 have hGF:∀ b,b ∈ G→b ∈ g :: (F1 ++ (G ++ F2))∧b ≠ g:=fun b hb => ⟨by simp [hb],fun e => hn1.1 (by subst e;simp [hb])⟩
 refine ⟨g,cap,s,G,hv,hc1,hc2,hlt g (by simp),g1,g2,hrow.frozen _,⟨hs,hn3.1⟩,hGF,?_,?_⟩
 ·intro n hn
  obtain ⟨hst,hgr⟩:=hrow.store (i * 2 + 1) (.int .i64 n)
  have hset:(d1 ++ ([s] ++ [Value.int IntKind.i64 xs[i].2] ++ d2)).set (i * 2 + 1) (.int .i64 n) = d1 ++ ([s] ++ [Value.int IntKind.i64 n] ++ d2):=by
   rw [List.set_append_right _ _ (by omega),hd1,Nat.add_sub_cancel_left];rfl
  rw [hset] at hst
  have hfr:∀ b,b ≠ g→(w.setCell ⟨g,i * 2 + 1,none⟩ (.int .i64 n)).heap[b]? = w.heap[b]?:=fun b hb => heap_setCell_other w ⟨g,i * 2 + 1,none⟩ b _ hb
  refine ⟨hK _ [s,.int .i64 n] (xs[i].1,n) G (by rw [hk2];rfl) ⟨[s],[.int .i64 n],G,[],rfl,by simp,S.own_frame hs (fun b hb => hfr b (hGF b hb).2),⟨⟨rfl,hn⟩,rfl⟩⟩ (fun b hb => hfr b ?_) (by rw [hk2];exact hst) hnd,(ChgF.of_grown hgr).mono (fun b hb => by simp at hb;simp [hb])⟩
  intro e
  subst e
  rcases List.mem_append.1 hb with h|h
  ·exact hn1.1 (by simp [h])
  ·exact hn1.1 (by simp [h])
 ·intro w' y hy hch
  have hfr:∀ b,b ∈ F1 ++ F2→w'.heap[b]? = w.heap[b]?:=by
   intro b hm
   refine hch.block b (hlt b ?_) ?_
   ·rcases List.mem_append.1 hm with hm|hm
    ·simp [hm]
    ·simp [hm]
   ·intro hG
    rcases List.mem_append.1 hm with hm|hm
    ·exact hn2.2.2 b hm b (by simp [hG]) rfl
    ·exact hn3.2.2 b hG b hm rfl
  have hrow':Row w' v 2 xs.length (d1 ++ ([s] ++ [Value.int IntKind.i64 xs[i].2] ++ d2)) (some g):=hrow.frame (fun g' hg' => by cases hg';exact hch.block g (hlt g (by simp)) (fun e => (hGF g e).2 rfl))
  exact ⟨hK _ [s,.int .i64 xs[i].2] (y,xs[i].2) G (by rw [hk2];rfl) ⟨[s],[.int .i64 xs[i].2],G,[],rfl,by simp,hy.1,⟨⟨rfl,hb⟩,rfl⟩⟩ hfr (by rw [hk2];exact hrow') hnd,hch.mono (fun b hb => (hGF b hb).1)⟩
theorem Rd.ctAt {v:Value} {xs:List (β × Int)} (h:Rd (RS (RP S RI)) w [v] xs) (hS:S.k = 1) (i:Nat) (hi:i < xs.length) :
  ∃ b off cap s,v = .slice (some ⟨b,off,none⟩) xs.length cap∧b < w.heap.size∧w.cell? ⟨b,off + i * 2,none⟩ = some s∧w.cell? ⟨b,off + i * 2 + 1,none⟩ = some (.int .i64 xs[i].2)∧In64 xs[i].2∧Rd S w [s] xs[i].1:=by
 have hk2:(RP S RI).k = 2:=by show S.k + 1 = 2;omega
 obtain ⟨oa,cap,ds,h1,h2,h3,h4,h5,h6⟩:=h
 simp only [List.cons.injEq,and_true] at h1
 subst h1
 obtain ⟨c,hc,hpos⟩:=h5.get i hi
 rw [hk2] at hpos
 obtain ⟨c1,c2,rfl,hs,⟨rfl,hb⟩⟩:=hc
 have hsl:=S.rd_len hs
 rw [hS] at hsl
 match c1,hsl with
 | [s],_ =>
 rcases h6 with h6|⟨b,off,rfl,hbl,hcell⟩
 ·have:=h5.len
  rw [h6,hk2] at this
  simp at this
  omega
 ·refine ⟨b,off,cap,s,rfl,hbl,hcell _ _ (hpos 0 _ rfl),(by rw [Nat.add_assoc];exact hcell _ _ (hpos 1 _ rfl)),hb,Rd.of hs⟩
end
abbrev RCounted:Rep (List Int × Int):=RP (RS RI) RI
def cnt_C:List (List Int × Int)→Nat
 | [] => 0
 | p :: ps => cnt_I p.1 + 1 + cnt_C ps
def mkd_C:List (List Int × Int)→Int→List (List Int × Int)
 | [],_ => []
 | p :: ps,k => (mkd_I p.1 k,k + cnt_I p.1) :: mkd_C ps (k + cnt_I p.1 + 1)
theorem mkd_C_len:∀ (ps:List (List Int × Int)) (k:Int),(mkd_C ps k).length = ps.length
 | [],_ => rfl
 | p :: ps,k => by simp [mkd_C,mkd_C_len ps]
theorem mkd_C_get:∀ (ps:List (List Int × Int)) (k:Int) (i:Nat) (h:i < ps.length),(mkd_C ps k)[i]'(by rw [mkd_C_len];exact h) = (mkd_I ps[i].1 (k + cnt_C (ps.take i)),k + cnt_C (ps.take i) + cnt_I ps[i].1)
 | p :: ps,k,0,h => by simp [mkd_C,cnt_C]
 | p :: ps,k,i + 1,h => by
  simp only [mkd_C,List.getElem_cons_succ,List.take_succ_cons]
  rw [mkd_C_get ps _ i (by simpa using h)]
  simp only [cnt_C]
  have e:k + (cnt_I p.1:Int) + 1 + (cnt_C (ps.take i):Nat) = k + ((cnt_I p.1 + 1 + cnt_C (ps.take i):Nat):Int):=by omega
  rw [e]
theorem cnt_C_append:∀ (ps qs:List (List Int × Int)),cnt_C (ps ++ qs) = cnt_C ps + cnt_C qs
 | [],qs => by simp [cnt_C]
 | p :: ps,qs => by simp only [List.cons_append,cnt_C,cnt_C_append ps qs];omega
theorem cnt_C_take_succ (ps:List (List Int × Int)) (k:Nat) (h:k < ps.length):cnt_C (ps.take (k + 1)) = cnt_C (ps.take k) + (cnt_I ps[k].1 + 1):=by
 rw [List.take_succ_eq_append_getElem h,cnt_C_append];simp [cnt_C]
theorem cnt_C_take (ps:List (List Int × Int)) (k:Nat):cnt_C (ps.take k) ≤ cnt_C ps:=by
 have:cnt_C (ps.take k ++ ps.drop k) = cnt_C ps:=by rw [List.take_append_drop]
 rw [cnt_C_append] at this
 omega
set_option maxRecDepth 100000 in
set_option maxHeartbeats 1000000 in
theorem markF_C (v:Value) (xs:List (List Int × Int)) (F:List Nat) (k0:Int) (w:World) (h:OwnF (RS RCounted) F w [v] xs) (hk0:0 ≤ k0) (hk:k0 + cnt_C xs ≤ 4611686018427387904) :
  Calls Try.prog 81 #[v,.int .i64 k0] w fun e w' => e = .returned (.int .i64 (k0 + (cnt_C xs:Nat)))∧OwnF (RS RCounted) F w' [v] (mkd_C xs k0)∧ChgF F w w':=by
 obtain ⟨oa,cap,rfl,m1,m2⟩:=h.rd.val
 unfold maxLen at m2
 have H0:=Lib.hid h
 clear h
 go_enter Try.func81,Try.ntmps81
 go_wp2_with fail
 go_loopw [1,5] (fun q i wr => ∃ (k:Nat) (z:List (List Int × Int)),k ≤ xs.length∧i = .int .i64 k∧q = .int .i64 (k0 + (cnt_C (xs.take k):Nat))∧Hid (z = (mkd_C xs k0).take k ++ xs.drop k)∧Hid (OwnF (RS RCounted) F wr [.slice oa xs.length cap] z∧ChgF F w wr)) (fun _ i _ => xs.length - (intOf i).toNat)
 case atStart => exact ⟨0,xs,Nat.zero_le _,rfl,by simp [cnt_C],Lib.hid (by simp),Lib.hid ⟨H0.out,ChgF.refl _ _⟩⟩
 case round =>
  obtain ⟨k,z,hkl,rfl,rfl,hz,hown⟩:=hrel
  clear H0
  by_cases hlt:k < xs.length
  ·have hml:=mkd_C_len xs k0
   have hzl:z.length = xs.length:=by rw [hz.out];simp [hml];omega
   obtain ⟨g,cap',s,G,hv,-,-,hgl,g1,g2,hfz,hGs,hGF,-,hK2⟩:=hown.out.1.ctAt rfl k (by omega)
   rw [hzl] at hv
   simp only [Value.slice.injEq,true_and] at hv
   obtain ⟨rfl,rfl⟩:=hv
   have hzk:z[k]'(by omega) = xs[k]:=by
    simp only [hz.out]
    rw [List.getElem_append_right (by simp [hml];omega)]
    simp [List.getElem_drop,hml]
    congr 1;omega
   have hst:=cnt_C_take_succ xs k hlt
   have hle:=cnt_C_take xs (k + 1)
   have hmk:=mkd_C_get xs k0 k hlt
   obtain ⟨n,hn⟩:∃ n,n = cnt_C (xs.take k):=⟨_,rfl⟩
   rw [← hn] at hst hmk
   rw [← hn]
   have hset:z.set k (mkd_I xs[k].1 (k0 + n),k0 + (n:Int) + cnt_I xs[k].1) = (mkd_C xs k0).take (k + 1) ++ xs.drop (k + 1):=by
    rw [hz.out,List.set_append_right _ _ (by simp [hml];omega)]
    have e:k - ((mkd_C xs k0).take k).length = 0:=by simp [hml];omega
    rw [e,List.drop_eq_getElem_cons hlt,List.set_cons_zero,List.take_succ_eq_append_getElem (by rw [hml];exact hlt),hmk]
    simp
   rw [hzk] at hGs hK2 g2
   obtain ⟨pf,hpf⟩:∃ pf,pf = xs[k].1:=⟨_,rfl⟩
   rw [← hpf] at hset hst hGs
   obtain ⟨os,cs,rfl,q1,q2⟩:=hGs.rd.val
   have hmkF:=markF_I _ pf G (k0 + n) wr hGs (by omega) (by omega)
   have HK2:=Lib.hid hK2
   have HSET:=Lib.hid hset
   have HST:=Lib.hid hst
   have HZL:=Lib.hid hzl
   have i1:(0:Int) ≤ (k:Int):=by omega
   have i2:(k:Int) < (xs.length:Int):=by omega
   obtain ⟨cf,hcf⟩:∃ cf,cf = cnt_I pf:=⟨_,rfl⟩
   rw [← hcf] at hmkF HST HSET hst
   have HCF:=Lib.hid hcf
   have hw1:IntKind.i64.wrap (k0 + (n:Int) + (cf:Int)) = k0 + n + cf:=IntWalk.i64_in _ (by omega)
   have hw2:IntKind.i64.wrap (k0 + (n:Int) + (cf:Int) + 1) = k0 + n + cf + 1:=IntWalk.i64_in _ (by omega)
   have HIN:Hid (In64 (k0 + (n:Int) + (cf:Int))):=Lib.hid (by unfold In64;omega)
   obtain ⟨p2,hp2⟩:∃ p2,p2 = xs[k].2:=⟨_,rfl⟩
   rw [← hp2] at g2 HK2
   clear hK2 hset hst hmk hzk hzl hn hpf hGs hml hcf hp2 g2 hfz
   go_wp2_with fail
   refine hmkF.mono ?_
   rintro e w2 ⟨rfl,hr2,hc2⟩
   obtain ⟨k1,k2⟩:=HK2.out w2 (mkd_I pf (k0 + n)) hr2 hc2
   have hzl2:(z.set k (mkd_I pf (k0 + n),p2)).length = xs.length:=by rw [List.length_set,HZL.out]
   obtain ⟨g',cap',s',G',hv',-,-,-,g1',g2',hfz',-,-,hK1',-⟩:=k1.ctAt rfl k (by omega)
   rw [hzl2] at hv'
   simp only [Value.slice.injEq,Option.some.injEq,Addr.mk.injEq,and_true,true_and] at hv'
   obtain ⟨rfl,rfl⟩:=hv'
   simp only [List.getElem_set_self] at g2' hK1'
   obtain ⟨f1,f2⟩:=hK1' (k0 + n + cf) HIN.out
   rw [List.set_set] at f1
   rw [HSET.out] at f1
   have HF:Hid (OwnF (RS RCounted) F (w2.setCell ⟨g,k * 2 + 1,none⟩ (.int .i64 (k0 + n + cf))) [.slice (some ⟨g,0,none⟩) xs.length cap] ((mkd_C xs k0).take (k + 1) ++ xs.drop (k + 1))∧ChgF F w (w2.setCell ⟨g,k * 2 + 1,none⟩ (.int .i64 (k0 + n + cf)))):=Lib.hid ⟨f1,hown.out.2.trans (k2.trans f2)⟩
   clear k1 k2 hr2 hc2 hmkF f1 f2 hK1' hzl2 g1'
   go_wp2_with fail
   go_roundw
   case rel => exact ⟨k + 1,_,by omega,by go_num,by rw [HST.out];congr 1;omega,Lib.hid rfl,HF⟩
   case measure => simp [intOf] <;> omega
  ·have hfin:Hid (z = mkd_C xs k0):=Lib.hid (by rw [hz.out,List.take_of_length_le (by rw [mkd_C_len];omega),List.drop_of_length_le (by omega),List.append_nil])
   have hf2:xs.take k = xs:=List.take_of_length_le (by omega)
   rw [hf2]
   go_wp2_with fail
   go_ret
   exact ⟨rfl,hfin.out ▸ hown.out.1,hown.out.2⟩
theorem mark_C (v:Value) (xs:List (List Int × Int)) (lo hi:Nat) (k0:Int) (w:World) (h:Own (RS RCounted) lo hi w [v] xs) (hk0:0 ≤ k0) (hk:k0 + cnt_C xs ≤ 4611686018427387904) :
  Calls Try.prog 81 #[v,.int .i64 k0] w fun e w' => e = .returned (.int .i64 (k0 + (cnt_C xs:Nat)))∧Own (RS RCounted) lo hi w' [v] (mkd_C xs k0)∧Chg lo hi w w':=by
 obtain ⟨F,hF,hb⟩:=OwnF.of h
 refine (markF_C v xs F k0 w hF hk0 hk).mono ?_
 rintro e w' ⟨rfl,h1,h2⟩
 exact ⟨rfl,h1.to hb,h2.toChg hb⟩
set_option maxRecDepth 100000 in
set_option maxHeartbeats 1000000 in
theorem held_C (v:Value) (xs:List (List Int × Int)) (k0:Int) (w:World) (h:Rd (RS RCounted) w [v] (mkd_C xs k0)) (hk0:0 ≤ k0) (hk:k0 + cnt_C xs ≤ 4611686018427387904) :
  Calls Try.prog 82 #[v,.int .i64 k0] w (RetS w (.int .i64 (k0 + (cnt_C xs:Nat)))):=by
 have hml:=mkd_C_len xs k0
 have hAt:=fun i hi => h.ctAt (S:=RS RI) rfl i hi
 obtain ⟨oa,cap,rfl,m1,m2⟩:=h.val
 unfold maxLen at m2
 have HAT:=Lib.hid hAt
 obtain ⟨N,hN⟩:∃ N,N = (mkd_C xs k0).length:=⟨_,rfl⟩
 have hNx:N = xs.length:=by rw [hN,hml]
 rw [← hN] at m1
 rw [← hN]
 have HNN:=Lib.hid hN
 have HNX:=Lib.hid hNx
 clear h hAt hml hN hNx
 go_enter Try.func82,Try.ntmps82
 go_wp2_with fail
 go_loopw [1,5] (fun q i wr => ∃ (k:Nat),k ≤ N∧i = .int .i64 k∧q = .int .i64 (k0 + (cnt_C (xs.take k):Nat))∧wr = w) (fun _ i _ => N - (intOf i).toNat)
 case atStart => exact ⟨0,Nat.zero_le _,rfl,by simp [cnt_C],rfl⟩
 case round =>
  obtain ⟨k,hkl,rfl,rfl,rfl⟩:=hrel
  by_cases hlt:k < N
  ·have hltm:k < (mkd_C xs k0).length:=by rw [← HNN.out];exact hlt
   have hltx:k < xs.length:=by rw [← HNX.out];exact hlt
   obtain ⟨b,off,cap',s,hv,hb,g1,g2,_,hrd⟩:=HAT.out k hltm
   rw [← HNN.out] at hv
   simp only [Value.slice.injEq,true_and] at hv
   obtain ⟨rfl,rfl⟩:=hv
   have hgt:=mkd_C_get xs k0 k hltx
   rw [hgt] at g2 hrd
   have hst:=cnt_C_take_succ xs k hltx
   have hle:=cnt_C_take xs (k + 1)
   obtain ⟨n,hn⟩:∃ n,n = cnt_C (xs.take k):=⟨_,rfl⟩
   rw [← hn] at hst g2 hrd
   rw [← hn]
   obtain ⟨pf,hpf⟩:∃ pf,pf = xs[k].1:=⟨_,rfl⟩
   rw [← hpf] at hst hrd g2
   obtain ⟨os,cs,rfl,q1,q2⟩:=hrd.val
   have hh:=held_I _ pf (k0 + n) wr hrd (by omega) (by omega)
   have HST:=Lib.hid hst
   obtain ⟨cf,hcf⟩:∃ cf,cf = cnt_I pf:=⟨_,rfl⟩
   rw [← hcf] at hh HST g2
   have i1:(0:Int) ≤ (k:Int):=by omega
   have i2:(k:Int) < (N:Int):=by omega
   have i3:¬ (k0 + (n:Int) + (cf:Nat) < 0):=by omega
   have i4:(k0 + (n:Int) + (cf:Int) != k0 + n + cf) = false:=by simp
   have hw1:IntKind.i64.wrap (k0 + (n:Int) + (cf:Int)) = k0 + n + cf:=IntWalk.i64_in _ (by omega)
   have hw2:IntKind.i64.wrap (k0 + (n:Int) + (cf:Int) + 1) = k0 + n + cf + 1:=IntWalk.i64_in _ (by omega)
   clear hrd hgt hn hpf hst hcf
   go_wp2_with fail
   refine hh.mono ?_
   rintro e w2 ⟨rfl,rfl⟩
   go_wp2_with fail
   go_roundw
   case rel => exact ⟨k + 1,by omega,by go_num,by rw [HST.out];congr 1;omega,(by first|rfl|trivial)⟩
   case measure => simp [intOf];omega
  ·have hf2:xs.take k = xs:=List.take_of_length_le (by rw [← HNX.out];omega)
   rw [hf2]
   go_wp2_with fail
   go_ret
   exact ⟨rfl,rfl⟩
set_option maxRecDepth 100000 in
set_option maxHeartbeats 1000000 in
theorem eqv_Counted (s1 s2:Value) (n:Int) (f:List Int) (w:World) (h1:Rd (RS RI) w [s1] f) (h2:Rd (RS RI) w [s2] f) :
  Calls Try.prog 147 #[.agg #[s1,.int .i64 n],.agg #[s2,.int .i64 n]] w (RetV w (.bool true)):=by
 obtain ⟨o1,c1,rfl,_,_⟩:=h1.val
 obtain ⟨o2,c2,rfl,_,_⟩:=h2.val
 have H1:=Lib.hid h1
 have H2:=Lib.hid h2
 have hne:(n != n) = false:=by simp
 clear h1 h2
 go_enter Try.func147,Try.ntmps147
 go_wp2_with fail
 have b1:Below w.heap.size w (w.alloc (.cells #[.slice o1 f.length c1,.int .i64 n] 53)):=(Below.refl _ _).alloc (Nat.le_refl _) _
 have b2:Below w.heap.size w ((w.alloc (.cells #[.slice o1 f.length c1,.int .i64 n] 53)).alloc (.cells #[.slice o2 f.length c2,.int .i64 n] 53)):=b1.alloc (by simp) _
 obtain ⟨W,hW⟩:∃ W,W = (w.alloc (.cells #[.slice o1 f.length c1,.int .i64 n] 53)).alloc (.cells #[.slice o2 f.length c2,.int .i64 n] 53):=⟨_,rfl⟩
 have k1:W.heap[w.heap.size]? = some (.cells #[.slice o1 f.length c1,.int .i64 n] 53):=by rw [hW,Go.heap_alloc_old _ _ (by simp),Go.heap_alloc_new]
 have k2:W.heap[w.heap.size + 1]? = some (.cells #[.slice o2 f.length c2,.int .i64 n] 53):=by rw [hW,Go.heap_alloc2_new]
 have n1:W.cell? ⟨w.heap.size,1,none⟩ = some (.int .i64 n):=by simp [World.cell?,k1]
 have n2:W.cell? ⟨w.heap.size + 1,1,none⟩ = some (.int .i64 n):=by simp [World.cell?,k2]
 clear k1 k2
 rw [← hW] at b2
 rw [← hW]
 refine (eqv_I _ _ f W (H1.out.below b2 (Nat.le_refl _)) (H2.out.below b2 (Nat.le_refl _))).mono ?_
 rintro e w' ⟨rfl,b3⟩
 have n1:=(b3.cell (p:=⟨w.heap.size,1,none⟩) (by rw [hW];simp;omega)).trans n1
 have n2:=(b3.cell (p:=⟨w.heap.size + 1,1,none⟩) (by rw [hW];simp)).trans n2
 go_wp2_with fail
 go_ret
 exact ⟨rfl,b2.trans (b3.mono b2.size)⟩
set_option maxRecDepth 100000 in
set_option maxHeartbeats 1000000 in
theorem eqv_C (v1 v2:Value) (xs:List (List Int × Int)) (w:World) (h1:Rd (RS RCounted) w [v1] xs) (h2:Rd (RS RCounted) w [v2] xs) :
  Calls Try.prog 76 #[v1,v2] w (RetV w (.bool true)):=by
 have a1:=fun i hi => h1.ctAt (S:=RS RI) rfl i hi
 have a2:=fun i hi => h2.ctAt (S:=RS RI) rfl i hi
 obtain ⟨oa,cap,rfl,m1,m2⟩:=h1.val
 obtain ⟨ob,cap2,rfl,m3,m4⟩:=h2.val
 unfold maxLen at m2 m4
 have A1:=Lib.hid a1
 have A2:=Lib.hid a2
 have hne:((xs.length:Int) != (xs.length:Int)) = false:=by simp
 have EG:=Lib.hid (enters (P:=Try.prog) (f:=147) Try.func147 (by kernel_rfl) rfl)
 clear h1 h2 a1 a2
 go_enter Try.func76,Try.ntmps76
 go_wp2_with fail
 go_loopw [5] (fun i wr => ∃ k:Nat,k ≤ xs.length∧i = .int .i64 k∧Below w.heap.size w wr) (fun i _ => xs.length - (intOf i).toNat)
 case atStart => exact ⟨0,Nat.zero_le _,rfl,Below.refl _ _⟩
 case round =>
  obtain ⟨k,hk,rfl,hbel⟩:=hrel
  have hsz1:=hbel.size
  by_cases hlt:k < xs.length
  ·obtain ⟨b1,f1,c1,s1,hv1,hb1,g1,g2,_,r1⟩:=A1.out k hlt
   obtain ⟨b2,f2,c2,s2,hv2,hb2,g3,g4,_,r2⟩:=A2.out k hlt
   simp only [Value.slice.injEq,true_and] at hv1 hv2
   obtain ⟨rfl,rfl⟩:=hv1
   obtain ⟨rfl,rfl⟩:=hv2
   have k1:=(hbel.cell (p:=⟨b1,f1 + k * 2,none⟩) hb1).trans g1
   have k2:=(hbel.cell (p:=⟨b1,f1 + k * 2 + 1,none⟩) hb1).trans g2
   have k3:=(hbel.cell (p:=⟨b2,f2 + k * 2,none⟩) hb2).trans g3
   have k4:=(hbel.cell (p:=⟨b2,f2 + k * 2 + 1,none⟩) hb2).trans g4
   obtain ⟨n,hn⟩:∃ n,n = xs[k].2:=⟨_,rfl⟩
   obtain ⟨f,hf⟩:∃ f,f = xs[k].1:=⟨_,rfl⟩
   rw [← hn] at k2 k4
   rw [← hf] at r1 r2
   obtain ⟨o1,d1,rfl,_,_⟩:=r1.val
   obtain ⟨o2,d2,rfl,_,_⟩:=r2.val
   have HEQ:Hid (∀ W:World,W.heap = wr.heap→Calls Try.prog 147 #[.agg #[.slice o1 f.length d1,.int .i64 n],.agg #[.slice o2 f.length d2,.int .i64 n]] W (RetV W (.bool true))):=Lib.hid (fun W hW => eqv_Counted _ _ n f W ((r1.below hbel (Nat.le_refl _)).of_heap hW) ((r2.below hbel (Nat.le_refl _)).of_heap hW))
   have i1:(0:Int) ≤ (k:Int):=by omega
   have i2:(k:Int) < (xs.length:Int):=by omega
   clear g1 g2 g3 g4 r1 r2 hn hf
   go_wp2_with fail
   go_region_law ((refine step_call rfl 147 _ _ rfl EG.out #[.agg #[.slice o1 f.length d1,.int .i64 n],.agg #[.slice o2 f.length d2,.int .i64 n]] (by simp [Act.eval]) ?_;refine Calls.mono (HEQ.out _ (by rfl)) ?_;rintro e w2 ⟨rfl,b3⟩;have b3':Below wr.heap.size wr w2:=⟨b3.os,b3.tape,b3.output,b3.size,b3.block⟩;refine ⟨_,rfl,?_⟩))
   all_goals
    have hb4:=hbel.trans (b3'.mono hsz1)
    go_wp2_with fail
    go_roundw
    case rel => exact ⟨k + 1,by omega,by go_num,hb4⟩
    case measure => simp [intOf] <;> omega
  ·go_wp2_with fail
   go_ret
   exact ⟨rfl,hbel⟩
end Go.Proofs.Ytofpjonggpjneaa
namespace Go.Proofs.Ytofpjonggpjneaa
open Go.RowKit
theorem sub_flat2 {α:Type} {l1 l2:List (List α)} (h:l1.Sublist l2):l1.flatten.Sublist l2.flatten:=by
 induction h with
 | slnil => exact .slnil
 | cons a _ ih => rw [List.flatten_cons];exact ih.trans (List.sublist_append_right _ _)
 | cons_cons a _ ih => rw [List.flatten_cons,List.flatten_cons];exact List.Sublist.append (List.Sublist.refl _) ih
def eCtT (z:(List Int × List Nat) × Int):List D:=[.tag z.1.2 (.sl 1 (z.1.1.map eI)),.int z.2]
theorem tag_mk2:∀ (zs:List ((List Int × List Nat) × Int)),TagL ((zs.map fun z => (z.1.1,z.2)).map eCt) (zs.map eCtT) ((zs.map (·.1.2)).flatten)
 | [] => ⟨rfl,rfl⟩
 | z :: zs => ⟨_,_,z.1.2,_,rfl,rfl,⟨_,[.int z.2],z.1.2,[],rfl,(List.append_nil _).symm,.inl rfl,⟨.int z.2,[],[],[],rfl,rfl,.inr ⟨rfl,rfl,rfl⟩,rfl,rfl⟩⟩,tag_mk2 zs⟩
noncomputable def TEq:Tab Try.prog:=Tab.none.add 104 (tab2 codL codL fun xs ys => some [.val (.bool (decide (xs = ys)))]) (tab2_ok fun xs ys rs h => by cases h;exact a_slicesEqual xs ys)
end Go.Proofs.Ytofpjonggpjneaa
namespace Go.Proofs.Ytofpjonggpjneaa
open Go.RowKit
theorem encCt:Enc RCounted eCt:=encP (encS encI) encI
theorem sumLen_le {m:Nat}:∀ (f:List (List Int)),(∀ b ∈ f,b.length ≤ m)→sumLen f ≤ m * f.length
 | [],_ => by simp [sumLen]
 | b :: f,h => by
  have h1:=h b (by simp)
  have ih:=sumLen_le f (fun c hc => h c (by simp [hc]))
  simp only [sumLen,List.map_cons,List.sum_cons,List.length_cons] at ih ⊢
  rw [Nat.mul_succ];omega
theorem cnt_C_le {m:Nat}:∀ (s:List (List Int × Int)),(∀ z ∈ s,z.1.length ≤ m)→cnt_C s ≤ (m + 1) * s.length
 | [],_ => by simp [cnt_C]
 | z :: s,h => by
  have h1:=h z (by simp)
  have ih:=cnt_C_le s (fun c hc => h c (by simp [hc]))
  simp only [cnt_C,cnt_I,List.length_cons]
  rw [Nat.mul_succ];omega
end Go.Proofs.Ytofpjonggpjneaa
namespace Go.Proofs.Ytofpjonggpjneaa
open Go.RowKit
set_option maxRecDepth 100000 in
set_option maxHeartbeats 400000 in
theorem c_slicesCloneInt (v:Value) (xs:List Int) (w:World) (h:Rd (RS RI) w [v] xs) (hsz:xs.length ≤ 1000000000) :
  Calls Try.prog 166 #[v] w (RetO (RS RI) w xs):=by
 obtain ⟨oa,c1,I1⟩:=h.ints
 obtain rfl:=I1.val
 have m1:=I1.le;have m2:=I1.capLe
 unfold maxLen at m2
 have q22:∀ (w:World) (a:Option Addr) (n c n' c':Nat),(binOp .eql 108 (.slice a n c) (.slice none n' c')).run Try.prog w = .ok (.bool a.isNone) w:=fun w a n c n' c' => Lib.run_eql_slice_nil w _ _ a n c n' c' tInt.ht
 cases oa with
 | none =>
  have hc:=I1.noneCap rfl
  have hx:xs = []:=List.eq_nil_of_length_eq_zero (by omega)
  subst hx;subst hc
  clear h I1
  go_enter Try.func166,Try.ntmps166
  go_wp2_with fail
  go_ret
  exact ⟨_,rfl,Own.nil _ _,Below.refl _ _⟩
 | some ad =>
 have I2:Ints (w.alloc (.cells #[] 3)) (.slice (some ad) xs.length c1) xs (some ad) c1:=by
  refine ⟨rfl,m1,I1.capLe,I1.noneCap,I1.bd,?_⟩
  rcases I1.row with h|⟨b,off,e,hb,hc⟩
  ·exact .inl h
  ·refine .inr ⟨b,off,e,by simp;omega,fun j hj => ?_⟩
   rw [World.cell?_alloc_lt _ _ _ hb];exact hc j hj
 have hrow:=Row.lit w #[] 3 1 0 (by decide) (by simp)
 have HI:=Lib.hid I2
 have HR:=Lib.hid hrow
 clear I2 hrow
 go_enter Try.func166,Try.ntmps166
 go_wp2_with (at_builtin;refine StopAt (o:=⟨some 7,_,_,_,_,_⟩) ?_)
 refine Stop.go ?_
 refine wpList_appendS rfl _ _ 108 rfl 3 (.int .i64 0) 1 8 tInt (.slice (some ⟨w.heap.size,0,none⟩) 0 0) 0 [] (some w.heap.size) rfl (by simpa using HR.out) (some ad) xs.length c1 (xs.map (Value.int .i64)) rfl (by simp) (fun h => by cases h) (Row.cells_ints HI.out) (by intro u hu;obtain ⟨x,_,rfl⟩:=List.mem_map.1 hu;rfl) (by omega) (by unfold maxLen;omega) ?_
 intro v' w' og' happ
 rw [Nat.zero_add,List.nil_append] at happ
 have hlow:=happ.low (B:=w.heap.size) (by simp) (fun g hg => by cases hg;exact Nat.le_refl _)
 have hbel:Below w.heap.size w w':=((Below.refl w.heap.size w).alloc (Nat.le_refl _) (.cells #[] 3)).trans hlow.2
 have hown:Own (RS RI) w.heap.size w'.heap.size w' [v'] xs:=Row.OwnI (by simpa using happ.1) I1.bd hlow.1
 have HO:=Lib.hid hown
 obtain ⟨oa',cap',rfl,_⟩:=hown.val
 clear hown happ hlow
 go_wp2_with fail
 go_ret
 exact ⟨_,rfl,HO.out,hbel⟩
theorem shareKey {A B C D E:Type} {goal:Prop} (FACTS:A→B→C→D→E→Prop) {G:A→B→C→D→E→Prop} (use:(∀ a b c d e,FACTS a b c d e→G a b c d e)→goal) (key:∀ a b c d e,FACTS a b c d e→G a b c d e):goal:=use key
theorem moved_take (base:Nat) (xs:List Int) (k:Nat) (h:k < xs.length):(xs.take (k + 1)).map (fun x => (base:Int) + x) = (xs.take k).map (fun x => (base:Int) + x) ++ [(base:Int) + xs[k]]:=by
 rw [List.take_succ_eq_append_getElem h,List.map_append];rfl
set_option maxRecDepth 100000 in
set_option maxHeartbeats 20000000 in
theorem c_impl_grafted (vu vn vl:Value) (u:List Int) (nodes:List Int) (list:List (List Int)) (w:World) (hu:Rd (RS RI) w [vu] u) (hn:Rd (RS RI) w [vn] nodes) (hl:Rd (RS (RS RI)) w [vl] list)
  (hu8:lev8 u = true) (hl8:∀ v ∈ list,lev8 v = true) (hnl:nodes.length = list.length) (hnb:∀ x ∈ nodes,0 ≤ x∧x < u.length) (hsum:u.length + sumLen list ≤ 8) (hok:graftOk u nodes list = true) :
  Calls Try.prog 116 #[vu,vn,vl] w (RetO (RS RI) w (graftN u nodes list)):=by
 have hupos:=(lev8_lev hu8).pos
 have hne:=c_impl_nearOf vu u w hu hu8
 unfold graftOk at hok
 rw [Bool.and_eq_true] at hok
 have hTF:∀ (W:World) (v:Value),Rd (RS (RS RI)) W [v] (graftTo u nodes list list.length)→Calls Try.prog 168 #[v,.int .i64 0,.int .i64 (-1)] W (RetO (RS RI) W (graftN u nodes list)):=fun W v r =>
  c_impl_treeFrom 9 v _ 0 (-1) W r hok.1 (Nat.le_of_ble_eq_true hok.2)
 have HTF:=Lib.hid hTF
 obtain ⟨oa,c1,rfl,m1,m2⟩:=hu.val
 obtain ⟨on,cn,IN⟩:=hn.ints
 obtain rfl:=IN.val
 obtain ⟨ol,cl,LL⟩:=hl.lists
 obtain rfl:=LL.val
 have k1:=IN.le;have k2:=IN.capLe;have k3:=LL.le;have k4:=LL.capLe
 unfold maxLen at k2
 have HIN:=Lib.hid IN
 have HLL:=Lib.hid LL
 have HL8:=Lib.hid hl8
 have HNB:=Lib.hid hnb
 have HNL:=Lib.hid hnl
 have HSUM:=Lib.hid hsum
 have hGL:=fun i hi => graftTo_len u nodes list i hi
 have HGL:=Lib.hid hGL
 have HLEN:Hid (list.length ≤ 8):=Lib.hid (by
  have:=len_le_sumLen list (fun b hb => lev8_lev (hl8 b hb))
  omega)
 obtain ⟨ll,hll⟩:∃ ll,ll = list.length:=⟨_,rfl⟩
 rw [← hll] at k3 HTF
 rw [← hll]
 have HLN:=Lib.hid hll
 have HEACH:=Lib.hid (graftTo_each (u:=u) (nodes:=nodes) (list:=list) (by omega) (fun v hv => lev8_len (hl8 v hv)))
 clear hu hn hl IN LL hl8 hnl hnb hsum hok hTF hGL hll
 go_enter Try.func116,Try.ntmps116
 go_wp2_with fail
 refine hne.mono ?_
 rintro e w1 ⟨u1,rfl,o1,b1⟩
 obtain ⟨F1,oF1,hF1⟩:=OwnF.of o1
 obtain ⟨o1a,c1a,rfl,_⟩:=o1.val
 have HO1:=Lib.hid oF1
 have HF1:=Lib.hid hF1
 clear o1 hne oF1 hF1
 go_wp2_with fail
 go_loopw [7,20] (fun nr i wr => ∃ (k:Nat) (F:List Nat) (near:List (List Int)),k ≤ ll∧i = .int .i64 k∧Hid (near = graftTo u nodes list k)∧(∃ oa cap,nr = .slice oa near.length cap)∧Hid (OwnF (RS (RS RI)) F wr [nr] near)∧Hid (∀ b,b ∈ F→w.heap.size ≤ b)∧Below w.heap.size w wr) (fun _ i _ => ll - (intOf i).toNat)
 case atStart => exact ⟨0,F1,nears u,Nat.zero_le _,rfl,Lib.hid rfl,⟨_,_,rfl⟩,HO1.out,Lib.hid (fun b hb => (HF1.out b hb).1),b1⟩
 case round =>
  obtain ⟨k,F,near,hk,rfl,hnear,⟨o2,c2,rfl⟩,hown,hF,hbel⟩:=hrel
  clear HO1
  obtain ⟨wo,hwo⟩:∃ wo:World,wo = wr:=⟨_,rfl⟩
  subst hwo
  have hsz1:=hbel.size
  by_cases hlt:k < ll
  ·have hlt2:k < list.length:=by rw [← HLN.out];exact hlt
   have hltn:k < nodes.length:=by rw [HNL.out];exact hlt2
   obtain ⟨bl,fl,rfl,hbl,hcl⟩:=HLL.out.get hlt2
   obtain ⟨oi,ci,g1,hrd,q1,q2⟩:=hcl k hlt2
   have g2:wo.cell? ⟨bl,fl + k,none⟩ = some (.slice oi list[k].length ci):=(hbel.cell (p:=⟨bl,fl + k,none⟩) hbl).trans g1
   obtain ⟨bn,fn,rfl,hbn,hcn⟩:=HIN.out.get hltn
   have gn:=hcn k hltn
   have hv8:=HL8.out list[k] (List.getElem_mem hlt2)
   have hvn:=c_impl_nearOf (.slice oi list[k].length ci) list[k] wo (hrd.below hbel (Nat.le_refl _)) hv8
   have hnd:=HNB.out nodes[k] (List.getElem_mem hltn)
   have hgl:=HGL.out k (by omega)
   rw [← hnear.out] at hgl
   have hss:=sumLen_take_succ list k hlt2
   have hsl:=sumLen_take list (k + 1)
   have hgs:graftTo u nodes list (k + 1) = graft1 near nodes[k] list[k]:=by rw [graftTo,← hnear.out];congr 1 <;> simp [hltn,hlt2]
   have hnbd:=nearTo_bd list[k] list[k].length (Nat.le_refl _)
   have hnel:=nearTo_each list[k] list[k].length
   have hnvl:(nears list[k]).length = list[k].length:=nearTo_len _ _
   have hvl8:=lev8_len hv8
   obtain ⟨x,hx⟩:∃ x,x = list[k]'hlt2:=⟨_,rfl⟩
   obtain ⟨nd,hnd'⟩:∃ nd,nd = nodes[k]'hltn:=⟨_,rfl⟩
   rw [← hx] at g2 q1 hvn hss hgs hnbd hnel hnvl hvl8
   rw [← hnd'] at gn hnd hgs
   have hsum:=HSUM.out
   have hnn:near.length + x.length ≤ 8:=by omega
   obtain ⟨n0,n1⟩:=hnd
   obtain ⟨nq,rfl⟩:∃ nq:Nat,nd = nq:=⟨nd.toNat,by omega⟩
   have hnq:nq < near.length:=by omega
   have HGS:=Lib.hid hgs
   have HNBD:=Lib.hid hnbd
   have HNEL:=Lib.hid hnel
   have hxl:=hnvl
   obtain ⟨nvs,hnvs⟩:∃ nvs,nvs = nears x:=⟨_,rfl⟩
   change ∀ y ∈ nears x,_ at hnbd
   have HNV0:Hid (∀ y ∈ nvs,y.length ≤ 16∧∀ z ∈ y,0 ≤ z∧z < 8):=Lib.hid (by
    intro y hy
    rw [hnvs] at hy
    refine ⟨by have:=HNEL.out y hy;omega,fun z hz => ?_⟩
    have:=HNBD.out y hy z hz
    omega)
   rw [← hnvs] at hvn hxl
   have HXL:=Lib.hid hxl
   have HNVS:=Lib.hid hnvs
   have HOW:=hown
   have hFl:=hown.out.lt
   have hnd0:=hown.out.2
   have hnb:near.length ≤ 8:=by omega
   clear hcl hcn g1 hrd hx hnd' hgl hss hsl hgs hnbd hnel hnvl hv8 hsum hxl hnvs
   go_wp2_with fail
   refine hvn.mono ?_
   rintro e w2 ⟨u2,rfl,o3,b3⟩
   obtain ⟨ov,cv,rfl,v1,v2⟩:=o3.val
   have HNV:=Lib.hid o3
   rw [HXL.out] at v1
   rw [HXL.out]
   have HO2:Hid (OwnF (RS (RS RI)) F w2 [.slice o2 near.length c2] near):=Lib.hid (HOW.out.frame (fun b hb => b3.block b (hFl b hb)))
   have s3:=b3.size
   have hbel2:=hbel.trans (b3.mono hsz1)
   obtain ⟨base,hbase⟩:∃ base,base = near.length:=⟨_,rfl⟩
   rw [← hbase]
   have HBASE:=Lib.hid hbase
   rw [← hbase] at hnn hnq hnb HO2 HOW hown
   clear o3 hvn hbase
   go_wp2_with fail
   go_loopw [7,30] (fun nr i wz => ∃ (q:Nat) (F':List Nat) (z:List (List Int)),q ≤ x.length∧i = .int .i64 q∧Hid (z = near ++ addTo base nvs nq q)∧Hid (z.length = base + q)∧(∃ oa cap,nr = .slice oa z.length cap)∧Hid (OwnF (RS (RS RI)) F' wz [nr] z)∧Hid (∀ b,b ∈ F'→b ∈ F ∨ w2.heap.size ≤ b)∧Hid (ChgF F w2 wz)) (fun _ i _ => x.length - (intOf i).toNat)
   case atStart => exact ⟨0,F,near,Nat.zero_le _,rfl,Lib.hid (by simp [addTo]),Lib.hid HBASE.out.symm,⟨_,_,by rw [← HBASE.out]⟩,Lib.hid HO2.out,Lib.hid (fun b hb => .inl hb),Lib.hid (ChgF.refl _ _)⟩
   case round =>
    obtain ⟨q,F',z,hq,rfl,hz,hzl,⟨o4,c4,rfl⟩,hown4,hF4,hch4⟩:=hrel
    obtain ⟨wz,hwz⟩:∃ wz:World,wz = wr:=⟨_,rfl⟩
    subst hwz
    have hzlt:=hown4.out.lt
    have s4:=hch4.out.size
    have hbz:Below w.heap.size w wz:=hbel2.trans (hch4.out.below (by omega) hF.out)
    have hszz:=hbz.size
    by_cases hlq:q < x.length
    ·have HNZ:Own (RS (RS RI)) wo.heap.size w2.heap.size wz [.slice ov x.length cv] nvs:=by
      have:=HNV.out.frame (w':=wz) (fun b h1 h2 => hch4.out.block b h2 (fun hm => by have:=hFl b hm;omega))
      rw [HXL.out] at this
      exact this
     obtain ⟨oaz,caz,LZ⟩:=HNZ.rd.lists
     have hvz:=LZ.val
     simp only [Value.slice.injEq] at hvz
     obtain ⟨rfl,hvz2,rfl⟩:=hvz
     clear hvz2
     have hlq2:q < nvs.length:=by rw [HXL.out];exact hlq
     obtain ⟨bv,fv,rfl,hbv,hcv⟩:=LZ.get hlq2
     obtain ⟨oy,cy,g3,hry,y1,y2⟩:=hcv q hlq2
     have hyb:=HNV0.out nvs[q] (List.getElem_mem hlq2)
     have hgd:nvs.getD q [] = nvs[q]:=by simp [hlq2]
     have had:addTo base nvs nq (q + 1) = addTo base nvs nq q ++ [movedL base q (nvs.getD q []) nq]:=rfl
     rw [hgd] at had
     obtain ⟨y,hy⟩:∃ y,y = nvs[q]'hlq2:=⟨_,rfl⟩
     rw [← hy] at g3 hry y1 hyb had
     obtain ⟨oy2,cy2,IY⟩:=hry.ints
     have hvy:=IY.val
     simp only [Value.slice.injEq,true_and] at hvy
     obtain ⟨rfl,rfl⟩:=hvy
     obtain ⟨hyl,hye⟩:=hyb
     have HIY:=Lib.hid IY
     have HYE:=Lib.hid hye
     have HAD:=Lib.hid had
     have HZB:Hid (z.length ≤ 8):=Lib.hid (by rw [hzl.out];omega)
     have gnz:wz.cell? ⟨bn,fn + k,none⟩ = some (.int .i64 (nq:Int)):=(hbz.cell (p:=⟨bn,fn + k,none⟩) hbn).trans gn
     have iq1:(0:Int) ≤ (q:Int):=by omega
     have iq2:(q:Int) < (x.length:Int):=by omega
     clear HNZ LZ hcv hry hy IY hye had hgd hlq2
     go_wp2_with fail
     go_loopw [13,38] (fun o i ww => ∃ (r:Nat) (zz:List Int),r ≤ y.length∧i = .int .i64 r∧Hid (zz = (y.take r).map (fun x => (base:Int) + x))∧Hid (zz.length = r)∧(∃ oa cap,o = .slice oa zz.length cap)∧Hid (Own (RS RI) wz.heap.size ww.heap.size ww [o] zz)∧Below wz.heap.size wz ww) (fun _ i _ => y.length - (intOf i).toNat)
     case atStart => exact ⟨0,[],Nat.zero_le _,rfl,Lib.hid rfl,Lib.hid rfl,⟨_,_,rfl⟩,Lib.hid ((Own.empty (R:=RI) (w:=wz) 3 wz.heap.size (Nat.le_refl _)).top _ (by simp)),(Below.refl _ _).alloc (Nat.le_refl _) _⟩
     case round =>
      obtain ⟨r,zz,hr,rfl,hzz,hzzl,⟨o5,c5,rfl⟩,hown5,hbel5⟩:=hrel
      obtain ⟨ww,hww⟩:∃ ww:World,ww = wr:=⟨_,rfl⟩
      subst hww
      have s5:=hbel5.size
      by_cases hlr:r < y.length
      ·obtain ⟨by',fy,rfl,hby,hcy⟩:=HIY.out.get hlr
       have g4:ww.cell? ⟨by',fy + r,none⟩ = some (Value.int .i64 y[r]):=(hbel5.cell (p:=⟨by',fy + r,none⟩) hby).trans (hcy r hlr)
       have hme:=HYE.out y[r] (List.getElem_mem hlr)
       have hnx:=moved_take base y r hlr
       obtain ⟨ye,hye⟩:∃ ye:Int,ye = y[r]'hlr:=⟨_,rfl⟩
       rw [← hye] at g4 hme hnx
       obtain ⟨e1',e2'⟩:=hme
       have hw1:IntKind.i64.wrap ((base:Int) + ye) = (base:Int) + ye:=IntWalk.i64_in _ (by omega)
       have HNX:=Lib.hid hnx
       have hzb5:zz.length ≤ 16:=by rw [hzzl.out];omega
       have ir1:(0:Int) ≤ (r:Int):=by omega
       have ir2:(r:Int) < (y.length:Int):=by omega
       clear hcy hye hnx
       go_wp2_with (at_builtin;refine StopAt (o:=⟨some 47,_,_,_,_,_⟩) ?_)
       refine Stop.go ?_
       refine wpList_snoc (w:=ww) (R:=RI) rfl _ _ 108 rfl 3 (.int .i64 0) 1 8 tInt rfl (.slice o5 zz.length c5) zz ((base:Int) + ye) [.int .i64 ((base:Int) + ye)] wz.heap.size ww.heap.size ww.heap.size rfl hown5.out (Own.int ⟨by omega,by omega⟩) (Nat.le_refl _) s5 3 rfl rfl (by omega) (by omega) ?_
       intro oa6 cap6 w6 hown6 _ _ hbel6
       have hb6:=hbel5.trans hbel6
       obtain ⟨zz',hzz'⟩:∃ zz',zz' = zz ++ [(base:Int) + ye]:=⟨_,rfl⟩
       have HZZ:Hid (zz' = (y.take (r + 1)).map (fun x => (base:Int) + x)):=Lib.hid (by rw [hzz',HNX.out,hzz.out])
       have e1:zz.length + 1 = zz'.length:=by rw [hzz'];simp
       have HZZL:Hid (zz'.length = r + 1):=Lib.hid (by rw [← e1,hzzl.out])
       rw [← hzz',e1] at hown6
       have HO6:Hid (Own (RS RI) wz.heap.size w6.heap.size w6 [.slice oa6 zz'.length cap6] zz'):=hown6
       rw [e1]
       clear hown6 hbel6 hown5 e1 hzz'
       go_wp2_with fail
       go_roundw
       case rel => exact ⟨r + 1,zz',by omega,by go_num,HZZ,HZZL,⟨_,_,rfl⟩,HO6,hb6⟩
       case measure => simp [intOf] <;> omega
      ·have hmv:zz = y.map (fun x => (base:Int) + x):=by rw [hzz.out,List.take_of_length_le (by omega)]
       have HMV:=Lib.hid hmv
       have hzb5:zz.length ≤ 16:=by rw [hzzl.out];omega
       have gnw:ww.cell? ⟨bn,fn + k,none⟩ = some (.int .i64 (nq:Int)):=((hbz.trans (hbel5.mono hszz)).cell (p:=⟨bn,fn + k,none⟩) hbn).trans gn
       have hbm1:=HZB.out
       have iz1:(0:Int) ≤ (k:Int):=by omega
       have iz2:(k:Int) < (nodes.length:Int):=by omega
       have fin:∀ (mv:List Int) (om:Option Addr) (cm:Nat) (w7:World),mv = movedL base q y nq→Own (RS RI) wz.heap.size w7.heap.size w7 [.slice om mv.length cm] mv→Below wz.heap.size wz w7 →
         ∃ G,OwnF (RS RI) G w7 [.slice om mv.length cm] mv∧(∀ b,b ∈ G→b ∉ F')∧OwnF (RS (RS RI)) F' w7 [.slice o4 z.length c4] z∧(∀ b,b ∈ G→w2.heap.size ≤ b):=by
        intro mv om cm w7 _ hm hb7
        obtain ⟨G,hG,hGb⟩:=OwnF.of hm
        exact ⟨G,hG,fun b hb hm => by have:=(hGb b hb).1;have:=hzlt b hm;omega,hown4.out.frame (fun b hb => hb7.block b (hzlt b hb)),fun b hb => by have:=(hGb b hb).1;omega⟩
       have FIN:=Lib.hid fin
       clear hmv fin
       by_cases hq0:q = 0
       ·subst hq0
        have hqe:(((0:Nat):Int) == 0) = true:=rfl
        go_wp2_with (at_builtin;refine StopAt (o:=⟨some 57,_,_,_,_,_⟩) ?_)
        refine Stop.go ?_
        refine wpList_snoc (w:=ww) (R:=RI) rfl _ _ 108 rfl 3 (.int .i64 0) 1 8 tInt rfl (.slice o5 zz.length c5) zz (nq:Int) [.int .i64 (nq:Int)] wz.heap.size ww.heap.size ww.heap.size rfl hown5.out (Own.int ⟨by omega,by omega⟩) (Nat.le_refl _) s5 3 rfl rfl (by omega) (by omega) ?_
        intro om cm w7 hown6 _ _ hbel6
        have hb7:=hbel5.trans hbel6
        obtain ⟨mv,hmv⟩:∃ mv,mv = zz ++ [(nq:Int)]:=⟨_,rfl⟩
        have HMD:Hid (mv = movedL base 0 y nq):=Lib.hid (by rw [hmv,HMV.out];simp [movedL])
        have e1:zz.length + 1 = mv.length:=by rw [hmv];simp
        rw [← hmv,e1] at hown6
        rw [e1]
        obtain ⟨G,hG,hGd,hZ,hGb⟩:=FIN.out mv om cm w7 HMD.out hown6 hb7
        have HG:=Lib.hid hG
        have HGD:=Lib.hid hGd
        have HZ:=Lib.hid hZ
        have HGB:=Lib.hid hGb
        clear hown6 hbel6 hown5 e1 hmv hG hGd hZ hGb
        go_wp2_with (at_builtin;refine StopAt (o:=⟨some 61,_,_,_,_,_⟩) ?_)
        refine Stop.go ?_
        refine wpList_snocF (w:=w7) (R:=RS RI) rfl _ _ 146 rfl 108 (.slice none 0 0) 1 24 tIntS rfl (.slice o4 z.length c4) z mv [.slice om mv.length cm] F' G rfl HZ.out HG.out HGD.out 108 rfl rfl (by omega) (by omega) ?_
        intro oa8 cap8 w8 F8 hown8 _ _ hF8 hch8
        obtain ⟨z',hz'⟩:∃ z',z' = z ++ [mv]:=⟨_,rfl⟩
        have HZ':Hid (z' = near ++ addTo base nvs nq (0 + 1)):=Lib.hid (by rw [hz',hz.out,HAD.out,← HMD.out,List.append_assoc])
        have e2:z.length + 1 = z'.length:=by rw [hz'];simp
        have HZL':Hid (z'.length = base + (0 + 1)):=Lib.hid (by have:=hzl.out;omega)
        have s7:=hb7.size
        have HF8:Hid (∀ b,b ∈ F8→b ∈ F ∨ w2.heap.size ≤ b):=Lib.hid (fun b hb => by
         rcases hF8 b hb with h|h|h
         ·exact hF4.out b h
         ·exact .inr (HGB.out b h)
         ·right;omega)
        have HCH:Hid (ChgF F w2 w8):=Lib.hid ((hch4.out.trans (Below.chgF hb7)).trans' hch8 (fun x hx => hF4.out x hx))
        rw [← hz',e2] at hown8
        have HO8:=Lib.hid hown8
        rw [e2]
        clear hown8 hF8 hch8 e2 hz'
        go_wp2_with fail
        go_roundw
        case rel => exact ⟨0 + 1,F8,z',by omega,by first|go_num|rfl,HZ',HZL',⟨_,_,rfl⟩,HO8,HF8,HCH⟩
        case measure => simp [intOf] <;> omega
       ·have hqe:((q:Int) == 0) = false:=by simp;omega
        have hb7:=hbel5
        have HMD:Hid (zz = movedL base q y nq):=Lib.hid (by rw [HMV.out];simp [movedL,hq0])
        obtain ⟨G,hG,hGd,hZ,hGb⟩:=FIN.out zz o5 c5 ww HMD.out hown5.out hb7
        have HG:=Lib.hid hG
        have HGD:=Lib.hid hGd
        have HZ:=Lib.hid hZ
        have HGB:=Lib.hid hGb
        clear hG hGd hZ hGb hown5
        go_wp2_with (at_builtin;refine StopAt (o:=⟨some 61,_,_,_,_,_⟩) ?_)
        refine Stop.go ?_
        refine wpList_snocF (w:=ww) (R:=RS RI) rfl _ _ 146 rfl 108 (.slice none 0 0) 1 24 tIntS rfl (.slice o4 z.length c4) z zz [.slice o5 zz.length c5] F' G rfl HZ.out HG.out HGD.out 108 rfl rfl (by omega) (by omega) ?_
        intro oa8 cap8 w8 F8 hown8 _ _ hF8 hch8
        obtain ⟨z',hz'⟩:∃ z',z' = z ++ [zz]:=⟨_,rfl⟩
        have HZ':Hid (z' = near ++ addTo base nvs nq (q + 1)):=Lib.hid (by rw [hz',hz.out,HAD.out,← HMD.out,List.append_assoc])
        have e2:z.length + 1 = z'.length:=by rw [hz'];simp
        have HZL':Hid (z'.length = base + (q + 1)):=Lib.hid (by have:=hzl.out;omega)
        have s7:=hb7.size
        have HF8:Hid (∀ b,b ∈ F8→b ∈ F ∨ w2.heap.size ≤ b):=Lib.hid (fun b hb => by
         rcases hF8 b hb with h|h|h
         ·exact hF4.out b h
         ·exact .inr (HGB.out b h)
         ·right;omega)
        have HCH:Hid (ChgF F w2 w8):=Lib.hid ((hch4.out.trans (Below.chgF hb7)).trans' hch8 (fun x hx => hF4.out x hx))
        rw [← hz',e2] at hown8
        have HO8:=Lib.hid hown8
        rw [e2]
        clear hown8 hF8 hch8 e2 hz'
        go_wp2_with fail
        go_roundw
        case rel => exact ⟨q + 1,F8,z',by omega,by first|go_num|rfl,HZ',HZL',⟨_,_,rfl⟩,HO8,HF8,HCH⟩
        case measure => simp [intOf] <;> omega
    ·obtain rfl:q = x.length:=by omega
     have hzfull:z = near ++ addTo base nvs nq x.length:=hz.out
     have hgr:graftTo u nodes list (k + 1) = z.set nq (z.getD nq [] ++ [(base:Int)]):=by
      rw [HGS.out]
      unfold graft1
      rw [← HBASE.out,← HNVS.out,← hzfull,Int.toNat_natCast]
     have hnqz:nq < z.length:=by rw [hzl.out];omega
     obtain ⟨g,cap,a,hv,_,_,hgl,hgF,hcell,hra,hSET⟩:=hown4.out.setRow (R:=RS RI) rfl nq hnqz
     simp only [Value.slice.injEq,true_and] at hv
     obtain ⟨rfl,rfl⟩:=hv
     have hgd:z.getD nq [] = z[nq]:=by simp [hnqz]
     rw [hgd] at hgr
     obtain ⟨xh,hxh⟩:∃ xh,xh = z[nq]'hnqz:=⟨_,rfl⟩
     rw [← hxh] at hra hgr
     obtain ⟨oh,ch,rfl,e1,e2⟩:=hra.val
     unfold maxLen at e2
     have gnz:wz.cell? ⟨bn,fn + k,none⟩ = some (.int .i64 (nq:Int)):=(hbz.cell (p:=⟨bn,fn + k,none⟩) hbn).trans gn
     have hxlen:xh.length ≤ 26:=by
      have h1:xh = near[nq]'(by have:=HBASE.out;omega):=by
       rw [hxh]
       simp only [hzfull]
       rw [List.getElem_append_left]
      rw [h1]
      have:=HEACH.out k (near[nq]'(by have:=HBASE.out;omega)) (by rw [← hnear.out];exact List.getElem_mem _)
      have:=HLEN.out
      omega
     have HSET:=Lib.hid hSET
     have HGR:=Lib.hid hgr
     have HRA:=Lib.hid hra
     have EGC:=Lib.hid (enters (P:=Try.prog) (f:=166) Try.func166 (by kernel_rfl) rfl)
     have hzl0:z.length = base + x.length:=hzl.out
     obtain ⟨zl,hzl'⟩:∃ zl,zl = z.length:=⟨_,rfl⟩
     rw [← hzl'] at hnqz hzl0
     rw [← hzl']
     have i1:(0:Int) ≤ (k:Int):=by omega
     have i2:(k:Int) < (nodes.length:Int):=by omega
     have i3:(0:Int) ≤ (nq:Int):=by omega
     have i4:(nq:Int) < (zl:Int):=by omega
     have HZL0:=Lib.hid hzl0
     have HZLEN:=Lib.hid hzl'
     clear hSET hgr hra hgd hxh hzfull hzl' hzl0
     have R1:Rd (RS RI) wz [.slice oh xh.length ch] xh:=HRA.out
     have HCL:Hid (∀ W:World,W.heap = wz.heap ∨ (∃ o,W.heap = (wz.alloc o).heap)→Calls Try.prog 166 #[.slice oh xh.length ch] W (RetO (RS RI) W xh)):=Lib.hid (fun W h => by
      refine c_slicesCloneInt _ xh W ?_ (by omega)
      rcases h with h|⟨o,h⟩
      ·exact R1.of_heap h
      ·exact (R1.below ((Below.refl _ _).alloc (Nat.le_refl _) o) (Nat.le_refl _)).of_heap h)
     have hb64:In64 (base:Int):=by unfold In64;omega
     obtain ⟨xb,hxb⟩:∃ xb,xh ++ [(base:Int)] = xb:=⟨_,rfl⟩
     have hxbl:xb.length ≤ 27:=by rw [← hxb,List.length_append,List.length_singleton];omega
     have HXB:=Lib.hid hxb
     rw [hxb] at HGR
     have RL:rdL RI (fun b => b < wz.heap.size) wz [.int .i64 (base:Int)] [(base:Int)]:=rdL.single ⟨rfl,hb64⟩
     have HLZ:Hid (∀ W:World,W.heap = (wz.alloc (.cells #[.int .i64 (base:Int)] 3)).heap→Rd (RS RI) W [.slice (some ⟨wz.heap.size,0,none⟩) 1 1] [(base:Int)]):=Lib.hid (fun W h => Rd.lit (ds:=[.int .i64 (base:Int)]) (xs:=[(base:Int)]) RL h (by show 1 ≤ maxLen;decide))
     have HLC:Hid (∀ wc W:World,W.heap = (wc.alloc (.cells #[.int .i64 (base:Int)] 3)).heap→Rd (RS RI) W [.slice (some ⟨wc.heap.size,0,none⟩) 1 1] [(base:Int)]):=Lib.hid (fun wc W h => Rd.lit (ds:=[.int .i64 (base:Int)]) (xs:=[(base:Int)]) (w:=wc) (rdL.single ⟨rfl,hb64⟩) h (by show 1 ≤ maxLen;decide))
     have hbn1:bn < wz.heap.size:=by omega
     have hbn2:¬ bn = wz.heap.size:=by omega
     have hgl2:¬ g = wz.heap.size:=by omega
     clear RL R1 hb64 hxb
     apply shareKey (fun (uc lit:Value) (oa9:Option Addr) (cap9:Nat) (wd:World) => ∃ F9,OwnF (RS (RS RI)) F9 (wd.setCell ⟨g,nq,none⟩ (.slice oa9 xb.length cap9)) [.slice (some ⟨g,0,none⟩) z.length c4] (z.set nq xb)∧(∀ b,b ∈ F9→b ∈ F' ∨ wz.heap.size ≤ b)∧ChgF F' wz (wd.setCell ⟨g,nq,none⟩ (.slice oa9 xb.length cap9)))
     case use =>
      intro KEY
      go_wp2_with fail
      go_region_law (first
       | (refine step_call rfl 166 _ _ rfl EGC.out #[.slice oh xh.length ch] (by simp [Act.eval]) ?_;refine Calls.mono (HCL.out _ (by first|exact .inl rfl|exact .inr ⟨_,rfl⟩)) ?_;rintro e wc ⟨uc,rfl,oc,bc⟩;have hbc:Below wz.heap.size wz wc:=(by first|exact Below.of_heap_eq bc rfl rfl rfl rfl|exact Below.of_alloc_heap bc rfl rfl rfl rfl);have oc':Own (RS RI) wz.heap.size wc.heap.size wc [uc] xh:=oc.mono (by simp) (Nat.le_refl _);have gnc:=(hbc.cell (p:=⟨bn,fn + k,none⟩) hbn1).trans gnz;have hbn3:bn < wc.heap.size:=Nat.lt_of_lt_of_le hbn1 hbc.size;clear oc;refine ⟨_,rfl,?_⟩)
       | (refine step_extI rfl _ _ 108 rfl 3 tInt uc xh wz.heap.size wc.heap.size rfl (by first|exact oc'|exact oc'.below ((Below.refl wc.heap.size wc).alloc (Nat.le_refl _) _) (Nat.le_refl _)) _ [(base:Int)] rfl (by first|exact HLC.out wc _ rfl|exact Rd.below (HLZ.out _ (by rfl)) bc (Nat.le_refl _)) (by first|exact Nat.le_refl _|simp) hbc.size (by simp;omega) xb HXB.out ?_;intro oa9 cap9 wd od d1 d2 bd;obtain ⟨Gd,hGd,hGb⟩:=OwnF.of od;have hbd:Below wz.heap.size wz wd:=(by first|exact hbc.trans bd|exact (hbc.alloc hbc.size _).trans bd);have gnd:=(hbd.cell (p:=⟨bn,fn + k,none⟩) hbn1).trans gnz;obtain ⟨f1,f2,F9,hF9,hs9,hc9⟩:=HSET.out wd xb _ Gd hbd hGd (fun b hb => (hGb b hb).1);generalize hl1:Value.slice (some ⟨wc.heap.size,0,none⟩) 1 1 = lit1;clear hl1;generalize hl2:Value.slice (some ⟨wz.heap.size,0,none⟩) 1 1 = lit2;clear hl2))
      all_goals first|exact KEY uc lit1 oa9 cap9 wd ⟨F9,hF9,hs9,hc9⟩|exact KEY uc lit2 oa9 cap9 wd ⟨F9,hF9,hs9,hc9⟩
     case key =>
      rintro uc lit oa9 cap9 wd ⟨F9,hF9,hs9,hc9⟩
      have HFIN:Hid (z.set nq xb = graftTo u nodes list (k + 1)):=Lib.hid HGR.out.symm
      obtain ⟨z9,hz9⟩:∃ z9,z9 = z.set nq xb:=⟨_,rfl⟩
      rw [← hz9] at HFIN hF9
      have hl9:zl = z9.length:=by rw [hz9,List.length_set];exact HZLEN.out
      have HB9:Hid (∀ b,b ∈ F9→w.heap.size ≤ b):=Lib.hid (fun b hb => by
       rcases hs9 b hb with h|h
       ·rcases hF4.out b h with h|h
        ·exact hF.out b h
        ·omega
       ·omega)
      have hbl9:Below w.heap.size w _:=hbz.trans (hc9.below (B:=w.heap.size) (by omega) (fun b hb => by
       rcases hF4.out b hb with h|h
       ·exact hF.out b h
       ·omega))
      have hl8:z.length = z9.length:=by rw [hz9,List.length_set]
      rw [hl8] at hF9
      have HF9:=Lib.hid hF9
      have HL9:=Lib.hid hl9
      clear hz9 hF9 hs9 hc9 hl9 hl8
      go_wp2_with fail
      go_roundw
      case rel => exact ⟨k + 1,F9,z9,by omega,by go_num,Lib.hid HFIN.out,⟨_,_,by rw [← HL9.out]⟩,(by have:=HF9.out;rw [← HL9.out] at this;exact Lib.hid this),HB9,hbl9⟩
      case measure => simp [intOf] <;> omega
  ·have hkk:k = ll:=by omega
   have hfin:near = graftTo u nodes list ll:=by rw [hnear.out,hkk]
   have htf:=HTF.out wo (.slice o2 near.length c2) (by rw [← hfin];exact hown.out.rd)
   clear hfin hkk
   go_wp2_with fail
   refine htf.mono ?_
   rintro e w3 ⟨u3,rfl,o3,b3⟩
   go_wp2_with fail
   go_ret
   exact ⟨_,rfl,o3.mono hsz1 (Nat.le_refl _),hbel.trans (b3.mono hsz1)⟩
end Go.Proofs.Ytofpjonggpjneaa
namespace Go.Proofs.Ytofpjonggpjneaa
open Go.RowKit
theorem Row.take {w:World} {k n m cap:Nat} {ds:List Value} {og:Option Nat} (h:Row w (slv og n cap) k n ds og) (hm:m ≤ n):Row w (slv og m cap) k m (ds.take (m * k)) og:=by
 refine ⟨by rw [List.length_take,h.1];exact Nat.min_eq_left (Nat.mul_le_mul_right k hm),?_⟩
 rcases h.2 with ⟨h1,h2,h3⟩|⟨g,c,cur,e,h1,h2,h3,h4,h5,h6,h7⟩
 ·subst h3
  exact .inl ⟨rfl,by omega,rfl⟩
 ·subst h2
  have hc:cap = c:=by
   unfold slv at h1
   simp only [Value.slice.injEq] at h1
   exact h1.2.2
  subst hc
  refine .inr ⟨g,cap,cur,e,rfl,rfl,h3,by omega,h5,h6,?_⟩
  rw [← h7,List.take_take,Nat.min_eq_left (Nat.mul_le_mul_right k hm)]
section
variable {P:Program} {cfg:Cfg} {M:Nat→Prop} {w0:W0} {w w':World} {Ok:Nat→Prop} {N:Nat} {σ:Asg} {s:St} {a:Act} {ops:Array Oper}
theorem RunK.regCut (C:CfgOK P cfg) (T:Tab P) {fs:List Fr} {Q:Exit→St→Prop} {id:Nat} (n:Nat) {s1:St} (ha:Work (aopsT cfg T ops (ops.toList.take n) s) (some s1))
  (h:ROps P cfg M ops (ops.toList.drop n) (outK P cfg M fs Q .normal) s1):RunK P cfg M (.region id ops false) fs Q s:=by
 refine Runs.region ?_
 have e:ops.toList = ops.toList.take n ++ ops.toList.drop n:=(List.take_append_drop n _).symm
 have cut:∀ (l m:List Oper) (s:St),aopsT cfg T ops l s = some s1→ROps P cfg M ops m (outK P cfg M fs Q .normal) s1→ROps P cfg M ops (l ++ m) (outK P cfg M fs Q .normal) s:=by
  intro l
  induction l with
  | nil => intro m s h1 h2;simp only [aopsT,Option.some.injEq] at h1;subst h1;exact h2
  | cons o l ih =>
   intro m s h1 h2
   simp only [aopsT] at h1
   obtain ⟨s2,h3,h4⟩:=bind_some h1
   exact ROps.stepT C h3 (ih m s2 h4 h2)
 rw [e]
 exact cut _ _ s ha h
end
end Go.Proofs.Ytofpjonggpjneaa
namespace Go.Proofs.Ytofpjonggpjneaa
open Go.RowKit
section
variable {P:Program} {cfg:Cfg} {w0:W0} {w w':World} {Ok:Nat→Prop} {N:Nat} {σ σ':Asg} {s s':St} {a:Act} {M:Nat→Prop}
theorem relArgs.split {A:Nat→Prop}:∀ {pre:List (List D)} {ds:List (List D)} {vs:List Value},relArgs A w (pre ++ ds) vs→∃ vs1 vs2,vs = vs1 ++ vs2∧relArgs A w pre vs1∧relArgs A w ds vs2
 | [],ds,vs,h => ⟨[],vs,rfl,rfl,h⟩
 | d :: pre,ds,vs,⟨v,us,e,h1,h2⟩ => by
  obtain ⟨us1,us2,e2,h3,h4⟩:=relArgs.split h2
  subst e2;subst e
  exact ⟨v :: us1,us2,rfl,⟨v,us1,rfl,h1,h3⟩,h4⟩
theorem relArgs.join {A:Nat→Prop}:∀ {pre:List (List D)} {ds:List (List D)} {vs1 vs2:List Value},relArgs A w pre vs1→relArgs A w ds vs2→relArgs A w (pre ++ ds) (vs1 ++ vs2)
 | [],ds,vs1,vs2,h,k => by rw [show vs1 = [] from h];exact k
 | d :: pre,ds,vs1,vs2,⟨v,us,e,h1,h2⟩,k => by
  subst e
  exact ⟨v,us ++ vs2,rfl,h1,relArgs.join h2 k⟩
theorem Bel.nil (h:Bel ⟨w,fun b => (none:Option Nat) = some b⟩ w'):Below w.heap.size w w' :=
 ⟨h.os,h.tape,h.output,h.size,fun i hi => h.block i hi (fun e => nomatch e)⟩
theorem AOw.nil {g:FuncId} {pre post:List (List D)} {k:Nat} {Q:List Res→Prop} (h:AOw P g pre k [] post Q) (hk:0 < k):AFn P g (pre ++ [.raw (.slice none 0 0)] :: post) Q:=by
 refine ⟨h.call,fun A w vs hA hr => ?_⟩
 obtain ⟨vs1,vs2,e,h1,v,us,e2,h2,h3⟩:=relArgs.split hr
 subst e2;subst e
 obtain ⟨rfl,_⟩:=rdV_raw.1 (show rdV A w v (.raw (.slice none 0 0)) from h2)
 refine (h.fn A w vs1 us none 0 [] hA h1 h3 ⟨(Nat.zero_mul k).symm,.inl ⟨rfl,rfl,rfl⟩⟩ hk (by first|exact ⟨0,hk,rfl⟩|exact ⟨0,hk,trivial⟩|exact ⟨0,hk,by simp [rdL]⟩) (fun b e => nomatch e)).mono ?_
 rintro e w' ⟨v,rs,rfl,hQ,hb,ho⟩
 have e:(W0.mine ⟨w,fun b => (none:Option Nat) = some b⟩) = fun b => w.heap.size ≤ b:=by funext b;simp [W0.mine]
 rw [e] at ho
 exact ⟨v,rs,rfl,hQ,hb.nil,ho⟩
theorem n_callR (C:CfgOK P cfg) (h:Sim w0 Ok N σ s a w) {o:Oper} {f:Operand} {args:Array Operand} {ts:Array TypeId} {g:FuncId} (ho:o.op = .call ⟨.value f,args,ts⟩) (hf:((opv s.regs f).bind avD).bind fnId = some g)
  {ds:List (List D)} (hd:relArgs (Zn σ s.heap w) w ds (args.toList.map a.eval)) {Q0:List Res→Prop} (hfn:AFn P g ds Q0)
  {K:Act→World→Prop} {Q:Exit→Act→World→Prop} {key:Nat} (hfr:∀ rs,Q0 rs→∀ q ob,look q (resACs key rs).2 = some ob→Free s q)
  (hK:∀ rs,Q0 rs→∀ v w' σ',relAV σ' ((resACs key rs).2 ++ s.heap) w' (outAV (resACs key rs).1) v→Sim w0 Ok N σ' ⟨s.regs,(resACs key rs).2 ++ s.heap⟩ a w'→K (a.put o.dst v) w'):o.wp P a w K Q:=by
 have hfv:a.eval f = .func (.func g) #[] #[]:=fnId_rel h hf
 have hrun:(execOp a.eval o).run P w = .ok (.enter g (args.map a.eval)) w:=by
  unfold execOp
  rw [ho]
  simp [resolve,Deferred.ofValue,hfv,invoke,hfn.call]
 obtain ⟨A,hA,hAa,hAz⟩:∃ A:Nat→Prop,(∀ b,A b→b < w.heap.size)∧relArgs A w ds (args.toList.map a.eval)∧((∃ rs,Q0 rs∧rs.all Res.scalar = false)→∀ b,A b→Zn σ s.heap w b):=by
  exact ⟨Zn σ s.heap w,fun _ h => h.1,hd,fun _ b hb => hb⟩
 have hcall:=hfn.fn A w (args.toList.map a.eval) hA hAa
 unfold Oper.wp
 rw [hrun,Oper.upon_enter]
 have e:(args.toList.map a.eval).toArray = args.map a.eval:=by rw [← Array.toList_map,Array.toArray_toList]
 rw [← e]
 refine hcall.mono ?_
 rintro e w' ⟨v,rs,rfl,hQ,hw,us,G,X,rfl,hG1,hG2,hrel⟩
 obtain ⟨σ',k0,k1,k2,k3,k4⟩:=outs_asg key σ hrel hG1
 have hgn:∀ q u,look q (resACs key rs).2 = some u→∀ b,σ'.g q = some b→w.heap.size ≤ b:=fun q u hq b hb => hG2 b ((k2 q u hq).2.2.1 b (fp_out hb))
 have hZ1:(∀ b,A b→Zn σ s.heap w b)→∀ b,((A b ∨ w.heap.size ≤ b)∧b ∉ X)→b < w'.heap.size→Zn σ' ((resACs key rs).2 ++ s.heap) w' b:=by
  intro hAz b hb hlt
  have hz:=Kept.grown hw h hAz b hb.1 hlt
  refine ⟨hlt,by rw [k0];exact hz.2.1,fun q u hq e => ?_⟩
  rw [look_append] at hq
  cases hn:look q (resACs key rs).2 with
  | some o' => exact hb.2 ((k2 q o' hn).2.2.2 b e)
  | none =>
   rw [hn] at hq
   rw [(k1 q hn).1] at e
   exact hz.2.2 q u hq e
 refine hK rs hQ _ w' σ' (out_rel ?_) ?_
 ·by_cases hsc:rs.all Res.scalar = true
  ·exact k4.relS hsc
  ·exact k4.rel (hZ1 (hAz ⟨rs,hQ,by simpa using hsc⟩))
 ·refine h.news k0 hw (hfr rs hQ) k1 (fun q o' hq => ?_) (fun q o' hq => ?_) k3
  ·obtain ⟨⟨dd,k,xs,d,b1,b2,b3,b4⟩,_⟩:=k2 q o' hq
   subst b1
   refine ⟨dd,b2,b3,?_⟩
   show if d = true then ownR k w' dd xs (σ'.F q) else rdR k (Zn σ' ((resACs key rs).2 ++ s.heap) w') w' dd xs
   cases d with
   | true => rw [if_pos rfl];exact b4
   | false =>
    rw [if_neg (by decide)]
    have b4':rdR k (fun b => (A b ∨ w.heap.size ≤ b)∧b ∉ X) w' dd xs:=b4
    have hsc:rs.all Res.scalar = false:=by
     have key:∀ {rs:List Res} {key:Nat} {q:Nat},look q (resACs key rs).2 = some (.row k xs false)→rs.all Res.scalar = false:=by
      intro rs
      induction rs with
      | nil => intro key q hq;cases hq
      | cons r rs ih =>
       intro key q hq
       cases r with
       | val d => rw [List.all_cons,ih (by simpa [resACs,resAC] using hq),Bool.and_false]
       | own kk ys d =>
        simp only [resACs,resAC,List.singleton_append,look] at hq
        split at hq
        ·cases hq;rfl
        ·rw [List.all_cons,ih hq,Bool.and_false]
     exact key hq
    exact b4'.mono (fun b hb hlt => hZ1 (hAz ⟨rs,hQ,hsc⟩) b hb hlt)
  ·obtain ⟨_,b5,b6,_⟩:=k2 q o' hq
   exact ⟨fun b hb => hG2 b (b6 b hb),b5⟩
theorem ROps.callNil (C:CfgOK P cfg) {ops:Array Oper} {o:Oper} {l:List Oper} {Q:St→Prop} {d:Nat} {f:Operand} {args:Array Operand} {ts:Array TypeId} {g:FuncId} (hb:awanted ops s.regs o = some true) (hdN:d < cfg.N)
  (ho:o.op = .call ⟨.value f,args,ts⟩) (hod:o.dst = some d) (hf:((opv s.regs f).bind avD).bind fnId = some g)
  {xs:List Operand} {tx:List TypeId} {pre:List (List D)} (ha:args.toList = xs ++ [.const (.slice none 0 0)]) (hpre:aargs cfg (fun k => look k s.heap) s.regs xs tx = some pre) (hr:opRefs s.regs xs = [])
  {rs:List Res} (hfn:AFn P g (pre ++ [[.raw (.slice none 0 0)]]) (· = rs)) (hfr:(resACs d rs).2.all (fun p => fresh s p.1) = true)
  (h:ROps P cfg M ops l Q (s.got d rs)):ROps P cfg M ops (o :: l) Q s:=by
 intro w0 Ok σ a w Q' hM hS hQ
 refine wpList_step (fun K hK => ?_)
 rw [awanted_spec hS hb]
 simp only [if_true]
 have hrel:relArgs (Zn σ s.heap w) w (pre ++ [[.raw (.slice none 0 0)]]) (args.toList.map a.eval):=by
  rw [ha,List.map_append]
  exact relArgs.join ((aargs_rel C hS hpre).2 hr) ⟨_,[],rfl,rdV_raw.2 ⟨rfl,rfl⟩,rfl⟩
 refine n_callR C hS (key:=d) ho hf hrel hfn (fun rs' e => e ▸ fun q ob hq => fresh_free (List.all_eq_true.1 hfr _ (look_all hq))) (fun rs' e v w' σ' hv hS' => ?_)
 subst e
 rw [hod]
 have hsub:∀ k o',look k (insAll (resACs d rs').2 s.heap) = some o'→look k ((resACs d rs').2 ++ s.heap) = some o':=fun k o' ho' => by rw [look_insAll] at ho';exact ho'
 exact hK _ _ (h w0 Ok σ' _ _ Q' hM (Sim.ins (hS'.forget (fun _ _ h => h) hsub) hdN (hv.sub hsub)) hQ)
end
noncomputable def atOwn (A:List (List D)) (k:Nat) (X:List (List D)) (B:List (List D)) (R:List Res) (a:List (List D)) (k':Nat) (x:List (List D)) (b:List (List D)):Option (List Res × Option (List (List D))):=by
 classical
 exact if a = A∧k' = k∧x = X∧b = B then some (R,Option.none) else Option.none
theorem atOwn_eq (A:List (List D)) (k:Nat) (X:List (List D)) (B:List (List D)) (R:List Res):atOwn A k X B R A k X B = some (R,Option.none):=by
 unfold atOwn;rw [if_pos ⟨rfl,rfl,rfl,rfl⟩]
theorem atOwn_some {A:List (List D)} {k:Nat} {X:List (List D)} {B:List (List D)} {R:List Res} {a:List (List D)} {k':Nat} {x b:List (List D)} {r:List Res × Option (List (List D))} (h:atOwn A k X B R a k' x b = some r):a = A∧k' = k∧x = X∧b = B∧r = (R,Option.none):=by
 unfold atOwn at h
 split at h
 ·rename_i h1
  exact ⟨h1.1,h1.2.1,h1.2.2.1,h1.2.2.2,(Option.some.inj h).symm⟩
 ·exact nomatch h
noncomputable def Tab.own' {P:Program} (T:Tab P) (g:FuncId) (n:Nat) {A:List (List D)} {k:Nat} {X B:List (List D)} {R:List Res} (h:AOw P g A k X B (· = R)):Tab P :=
 T.own g ⟨false,n,atOwn A k X B R⟩ (fun pre k' xs post r _ e => by
  obtain ⟨rfl,rfl,rfl,rfl,rfl⟩:=atOwn_some e
  exact h.toEf)
end Go.Proofs.Ytofpjonggpjneaa
namespace Go.Proofs.Ytofpjonggpjneaa
open Go.RowKit
theorem a_cloneInt (xs:List Int) (h:xs.length ≤ 1000000000):AFn Try.prog 166 [eL xs] (· = [.own 1 (xs.map eI) true]) :=
 afn_L_o (enters_of Try.func166 rfl rfl) (fun u w h' => c_slicesCloneInt u xs w h' h)
end Go.Proofs.Ytofpjonggpjneaa
