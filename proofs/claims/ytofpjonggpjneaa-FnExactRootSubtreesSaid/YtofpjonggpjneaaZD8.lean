/- Lemmas (8). -/
import Derived.Test.YtofpjonggpjneaaZD1
import Derived.Test.YtofpjonggpjneaaZD4
import Derived.Test.YtofpjonggpjneaaZD6
import Derived.Test.YtofpjonggpjneaaZD7
set_option linter.unusedSimpArgs false
set_option linter.unusedVariables false
namespace Go.Proofs.Ytofpjonggpjneaa
open Go.RowKit
def eSp (z:Spl × Int):List D:=[.sl 1 (z.1.1.map eL),.sl 1 (z.1.2.map eL),.int z.2]
def codF2:Cod Spl:=codP 1 codLL codLL (fun _ => rfl)
def codSp:Cod (Spl × Int):=codP 2 codF2 codI (fun _ => rfl)
theorem codSp_d (f g:List (List Int)) (n:Int):codSp.d [.sl 1 (f.map eL),.sl 1 (g.map eL),.int n] = some ((f,g),n):=codSp.de ((f,g),n)
theorem codSps_d (L:List (Spl × Int)):(codS 3 codSp).d [.sl 3 (L.map eSp)] = some L:=(codS 3 codSp).de L
def SmS (s:Spl):Prop:=SmF s.1∧SmF s.2
instance (s:Spl):Decidable (SmS s):=inferInstanceAs (Decidable (_∧_))
def HaF (f:List (List Int)):Prop:=f.length ≤ 9∧sumLen f ≤ 50
instance (f:List (List Int)):Decidable (HaF f):=inferInstanceAs (Decidable (_∧_))
def HaS (s:Spl):Prop:=HaF s.1∧HaF s.2
theorem HaF.mul {f g:List (List Int)} (hf:HaF f) (hg:HaF g):SmF (mulF f g):=by
 obtain ⟨h1,h2⟩:=hf
 obtain ⟨h3,h4⟩:=hg
 exact ⟨by rw [mulF_len];omega,by rw [mulF_sum];omega⟩
theorem HaS.mul {s c:Spl} (hs:HaS s) (hc:HaS c):SmS (mulS s c):=⟨hs.1.mul hc.1,hs.2.mul hc.2⟩
theorem HaF.sm {f:List (List Int)} (hf:HaF f):SmF f:=⟨by have:=hf.1;omega,by have:=hf.2;omega⟩
theorem HaS.sm {s:Spl} (hs:HaS s):SmS s:=⟨hs.1.sm,hs.2.sm⟩
theorem cmpS_sgn (s c:Spl):sgn (cmpS s c) = if sumLen s.1 = sumLen c.1 then (if sgn (cmpN s.1 c.1) = 0 then sgn (cmpN s.2 c.2) else sgn (cmpN s.1 c.1)) else (if sumLen s.1 < sumLen c.1 then -1 else 1):=by
 have z:∀ n:Int,sgn n = 0 ↔ n = 0:=fun n => by unfold sgn;split <;> (try split) <;> omega
 unfold cmpS pairC
 rw [cmpF_N]
 by_cases h:sumLen s.1 = sumLen c.1
 ·rw [if_pos h]
  simp only [h,if_true]
  by_cases h0:cmpN s.1 c.1 = 0
  ·rw [if_pos h0,if_pos ((z _).2 h0)]
  ·rw [if_neg h0,if_neg (fun e => h0 ((z _).1 e))]
 ·rw [if_neg h,if_neg (show ¬ (sumLen s.1:Int) = sumLen c.1 by omega),if_neg (by omega)]
  by_cases h2:sumLen s.1 < sumLen c.1
  ·rw [if_pos h2,sgn_neg (by omega)]
  ·rw [if_neg h2,sgn_pos (by omega)]
noncomputable def TOrd:Tab Try.prog :=
 TForS.add 216 (tab2 codLL codLL fun f g => if SmF f∧SmF g then some [.val (.int (sgn (cmpN f g)))] else none) (tab2_ok fun f g rs h => by split at h;cases h;rename_i hs;exact a_l05Compare f g (by have:=hs.1.1;omega) (by have:=hs.2.1;omega);cases h)
set_option maxHeartbeats 4000000 in
theorem a_l05Order (z y:Spl × Int) (hz:SmS z.1) (hy:SmS y.1):AFn Try.prog 209 [eSp z,eSp y] (· = [.val (.int (sgn (cmpS z.1 y.1)))]):=by
 obtain ⟨⟨f,g⟩,n⟩:=z
 obtain ⟨⟨f',g'⟩,n'⟩:=y
 obtain ⟨hz1,hz2⟩:=hz
 obtain ⟨hy1,hy2⟩:=hy
 simp only at hz1 hz2 hy1 hy2
 have hn1:nodesB f = sumLen f:=nodesB_eq f (by have:=hz1.2;omega)
 have hn2:nodesB f' = sumLen f':=nodesB_eq f' (by have:=hy1.2;omega)
 have e1:=eq_true hz1
 have e2:=eq_true hz2
 have e3:=eq_true hy1
 have e4:=eq_true hy2
 rw [cmpS_sgn]
 simp only
 refine AFn.of_runs (cfg_ok 33) Try.func209 rfl rfl rfl (by simp only [List.length_cons,List.length_nil];decide) ?_
 have hres:Try.f209.results.toList = [.tmp 4]:=rfl
 have hrts:Try.f209.resultTypes.toList = [2]:=rfl
 simp only [argRegs,argAV1,eL,eI,eLL,eB,Nat.zero_add,Nat.reduceAdd,eSp]
 intro M
 refine RunK.of ?_
 by_cases hl:sumLen f = sumLen f'
 ·have hb:((sumLen f:Int) != (sumLen f':Int)) = false:=by simp [hl]
  rw [if_pos hl]
  by_cases h0:sgn (cmpN f f') = 0
  ·have h0b:(sgn (cmpN f f') != 0) = false:=by simp [h0]
   rw [if_pos h0]
   repeat' (first|with_reducible (first|refine Q1 ?_|refine Q2 ?_|refine Q3 ?_|refine Q4 ?_|refine Q5 ?_|refine Q6 ?_|refine Q7 ?_|refine Q8 ?_|refine Q9 ?_|refine Qa ?_|refine Qb ?_|refine Qc ?_|refine Qd ?_|refine Qe ?_|refine Qf ?_)|((with_reducible refine Qo ?_ ?_);focus rfl)|((with_reducible first|refine QT 8 (l:=?_) ?_ ?_|refine QF 8 (l:=?_) ?_ ?_);rotate_left 1;focus (simp only [Zu,Nat.reduceSub,Nat.reduceBEq];with_reducible rfl))|((with_reducible first|refine QS (cfg_ok 33) TOrd (s':=?_) ?_ ?_|refine QC (b:=?_) ?_ ?_);rotate_left 1;focus ((with_reducible refine QW ?_);simp only [Zg,seval,if_true,if_false,reduceCtorEq,Nat.reduceEqDiff,TOrd,TForS,hb,hn1,hn2,h0b,e1,e2,e3,e4];with_reducible rfl))|((with_reducible refine QD (cfg_ok 33) TOrd mixed_ok (tr:=?_) (s':=?_) ?_ ?_ ?_);rotate_left 2;(focus ((with_reducible refine QW ?_);simp only [Zg,Zd,seval,if_true,if_false,reduceCtorEq,Nat.reduceEqDiff,TOrd,TForS,hb,hn1,hn2,h0b,e1,e2,e3,e4];with_reducible rfl));focus ((with_reducible refine QK ?_);simp only [Zk];kernel_rfl)))
   (refine Ends.mk (by simp) (rs:=?_) (ks:=?_) hres hrts ?_ ?_ ?_;rotate_left 2;(focus (simp only [Ze,Zg,seval,if_true,if_false,reduceCtorEq,Nat.reduceEqDiff];with_reducible rfl));(focus simp);focus (first|with_reducible rfl|(simp only [Zv];done)))
  ·have h0b:(sgn (cmpN f f') != 0) = true:=bne_iff_ne.2 h0
   rw [if_neg h0]
   repeat' (first|with_reducible (first|refine Q1 ?_|refine Q2 ?_|refine Q3 ?_|refine Q4 ?_|refine Q5 ?_|refine Q6 ?_|refine Q7 ?_|refine Q8 ?_|refine Q9 ?_|refine Qa ?_|refine Qb ?_|refine Qc ?_|refine Qd ?_|refine Qe ?_|refine Qf ?_)|((with_reducible refine Qo ?_ ?_);focus rfl)|((with_reducible first|refine QT 8 (l:=?_) ?_ ?_|refine QF 8 (l:=?_) ?_ ?_);rotate_left 1;focus (simp only [Zu,Nat.reduceSub,Nat.reduceBEq];with_reducible rfl))|((with_reducible first|refine QS (cfg_ok 33) TOrd (s':=?_) ?_ ?_|refine QC (b:=?_) ?_ ?_);rotate_left 1;focus ((with_reducible refine QW ?_);simp only [Zg,seval,if_true,if_false,reduceCtorEq,Nat.reduceEqDiff,TOrd,TForS,hb,hn1,hn2,h0b,e1,e2,e3,e4];with_reducible rfl))|((with_reducible refine QD (cfg_ok 33) TOrd mixed_ok (tr:=?_) (s':=?_) ?_ ?_ ?_);rotate_left 2;(focus ((with_reducible refine QW ?_);simp only [Zg,Zd,seval,if_true,if_false,reduceCtorEq,Nat.reduceEqDiff,TOrd,TForS,hb,hn1,hn2,h0b,e1,e2,e3,e4];with_reducible rfl));focus ((with_reducible refine QK ?_);simp only [Zk];kernel_rfl)))
   (refine Ends.mk (by simp) (rs:=?_) (ks:=?_) hres hrts ?_ ?_ ?_;rotate_left 2;(focus (simp only [Ze,Zg,seval,if_true,if_false,reduceCtorEq,Nat.reduceEqDiff];with_reducible rfl));(focus simp);focus (first|with_reducible rfl|(simp only [Zv];done)))
 ·have hb:((sumLen f:Int) != (sumLen f':Int)) = true:=by simp;omega
  rw [if_neg hl]
  by_cases h2:sumLen f < sumLen f'
  ·have i1:((sumLen f:Int) < (sumLen f':Int)) = True:=eq_true (by omega)
   rw [if_pos h2]
   repeat' (first|with_reducible (first|refine Q1 ?_|refine Q2 ?_|refine Q3 ?_|refine Q4 ?_|refine Q5 ?_|refine Q6 ?_|refine Q7 ?_|refine Q8 ?_|refine Q9 ?_|refine Qa ?_|refine Qb ?_|refine Qc ?_|refine Qd ?_|refine Qe ?_|refine Qf ?_)|((with_reducible refine Qo ?_ ?_);focus rfl)|((with_reducible first|refine QT 8 (l:=?_) ?_ ?_|refine QF 8 (l:=?_) ?_ ?_);rotate_left 1;focus (simp only [Zu,Nat.reduceSub,Nat.reduceBEq];with_reducible rfl))|((with_reducible first|refine QS (cfg_ok 33) TForS (s':=?_) ?_ ?_|refine QC (b:=?_) ?_ ?_);rotate_left 1;focus ((with_reducible refine QW ?_);simp only [Zg,seval,if_true,if_false,reduceCtorEq,Nat.reduceEqDiff,TForS,hb,hn1,hn2,i1];with_reducible rfl))|((with_reducible refine QD (cfg_ok 33) TForS mixed_ok (tr:=?_) (s':=?_) ?_ ?_ ?_);rotate_left 2;(focus ((with_reducible refine QW ?_);simp only [Zg,Zd,seval,if_true,if_false,reduceCtorEq,Nat.reduceEqDiff,TForS,hb,hn1,hn2,i1];with_reducible rfl));focus ((with_reducible refine QK ?_);simp only [Zk];kernel_rfl)))
   (refine Ends.mk (by simp) (rs:=?_) (ks:=?_) hres hrts ?_ ?_ ?_;rotate_left 2;(focus (simp only [Ze,Zg,seval,if_true,if_false,reduceCtorEq,Nat.reduceEqDiff];with_reducible rfl));(focus simp);focus (first|with_reducible rfl|(simp only [Zv];done)))
  ·have i1:((sumLen f:Int) < (sumLen f':Int)) = False:=eq_false (by omega)
   rw [if_neg h2]
   repeat' (first|with_reducible (first|refine Q1 ?_|refine Q2 ?_|refine Q3 ?_|refine Q4 ?_|refine Q5 ?_|refine Q6 ?_|refine Q7 ?_|refine Q8 ?_|refine Q9 ?_|refine Qa ?_|refine Qb ?_|refine Qc ?_|refine Qd ?_|refine Qe ?_|refine Qf ?_)|((with_reducible refine Qo ?_ ?_);focus rfl)|((with_reducible first|refine QT 8 (l:=?_) ?_ ?_|refine QF 8 (l:=?_) ?_ ?_);rotate_left 1;focus (simp only [Zu,Nat.reduceSub,Nat.reduceBEq];with_reducible rfl))|((with_reducible first|refine QS (cfg_ok 33) TForS (s':=?_) ?_ ?_|refine QC (b:=?_) ?_ ?_);rotate_left 1;focus ((with_reducible refine QW ?_);simp only [Zg,seval,if_true,if_false,reduceCtorEq,Nat.reduceEqDiff,TForS,hb,hn1,hn2,i1];with_reducible rfl))|((with_reducible refine QD (cfg_ok 33) TForS mixed_ok (tr:=?_) (s':=?_) ?_ ?_ ?_);rotate_left 2;(focus ((with_reducible refine QW ?_);simp only [Zg,Zd,seval,if_true,if_false,reduceCtorEq,Nat.reduceEqDiff,TForS,hb,hn1,hn2,i1];with_reducible rfl));focus ((with_reducible refine QK ?_);simp only [Zk];kernel_rfl)))
   (refine Ends.mk (by simp) (rs:=?_) (ks:=?_) hres hrts ?_ ?_ ?_;rotate_left 2;(focus (simp only [Ze,Zg,seval,if_true,if_false,reduceCtorEq,Nat.reduceEqDiff];with_reducible rfl));(focus simp);focus (first|with_reducible rfl|(simp only [Zv];done)))
noncomputable def TPutN:Tab Try.prog :=
 Tab.none.add 209 (tab2 codSp codSp fun z y => if SmS z.1∧SmS y.1 then some [.val (.int (sgn (cmpS z.1 y.1)))] else none) (tab2_ok fun z y rs h => by split at h;cases h;rename_i hs;exact a_l05Order z y hs.1 hs.2;cases h)
structure PutNI (L:List (Spl × Int)) (k:Int) (x:Spl) (y:Nat × Bool × List (Spl × Int)):Prop where
 le:y.1 ≤ L.length
 no:y.2.1 = false→y.2.2 = L.take y.1∧∀ q ∈ L.take y.1,0 < cmpS x q.1
 yes:y.2.1 = true→y.2.2 ++ L.drop y.1 = putN cmpS L k x
 len:y.2.2.length ≤ y.1 + 1
theorem putN_at {L:List (Spl × Int)} {k:Int} {x:Spl} {i:Nat} (h:i < L.length) (hlow:∀ q ∈ L.take i,0 < cmpS x q.1):putN cmpS L k x = L.take i ++ putN cmpS (L[i] :: L.drop (i + 1)) k x:=by
 have h1:=putN_skip (k:=k) (L.drop i) hlow
 rw [List.take_append_drop,List.drop_eq_getElem_cons h] at h1
 exact h1
set_option maxHeartbeats 8000000 in
theorem a_l05Put (L:List (Spl × Int)) (k:Int) (x:Spl) (hl:L.length ≤ 1000000) (hL:∀ q ∈ L,(1 ≤ q.2∧q.2 ≤ 1000000000)∧SmS q.1) (hk:1 ≤ k∧k ≤ 1000000000) (hx:SmS x):AFn Try.prog 193 [[.sl 3 (L.map eSp)],eSp (x,k)] (· = [.val (.sl 3 ((putN cmpS L k x).map eSp))]):=by
 refine AFn.val1 ?_
 have hff:=eq_true hx
 obtain ⟨xf,xg⟩:=x
 refine AFn.of_runs (cfg_ok 54) Try.func193 rfl rfl rfl (by simp only [List.length_cons,List.length_nil];decide) ?_
 have hres:Try.f193.results.toList = [.tmp 4]:=rfl
 have hrts:Try.f193.resultTypes.toList = [131]:=rfl
 simp only [argRegs,argAV1,eL,eI,eLL,eB,Nat.zero_add,Nat.reduceAdd,eSp]
 intro M
 refine RunK.of ?_
 repeat' (first|with_reducible (first|refine Q1 ?_|refine Q2 ?_|refine Q3 ?_|refine Q4 ?_|refine Q5 ?_|refine Q6 ?_|refine Q7 ?_|refine Q8 ?_|refine Q9 ?_|refine Qa ?_|refine Qb ?_|refine Qc ?_|refine Qd ?_|refine Qe ?_|refine Qf ?_)|((with_reducible refine Qo ?_ ?_);focus rfl)|((with_reducible first|refine QT 10 (l:=?_) ?_ ?_|refine QF 10 (l:=?_) ?_ ?_);rotate_left 1;focus (simp only [Zu,Nat.reduceSub,Nat.reduceBEq];with_reducible rfl))|((with_reducible first|refine QS (cfg_ok 54) Tab.none (s':=?_) ?_ ?_|refine QC (b:=?_) ?_ ?_);rotate_left 1;focus ((with_reducible refine QW ?_);simp only [Zg,seval,if_true,if_false,reduceCtorEq,Nat.reduceEqDiff];with_reducible rfl))|((with_reducible refine QD (cfg_ok 54) Tab.none mixed_ok (tr:=?_) (s':=?_) ?_ ?_ ?_);rotate_left 2;(focus ((with_reducible refine QW ?_);simp only [Zg,Zd,seval,if_true,if_false,reduceCtorEq,Nat.reduceEqDiff];with_reducible rfl));focus ((with_reducible refine QK ?_);simp only [Zk];kernel_rfl)))
 refine RunK.loop (β:=Nat × Bool × List (Spl × Int)) (γ:=Bool × List (Spl × Int)) (fun y => ⟨[(0,.c (.val (.sl 3 (L.map eSp)))),(3,.optr 3 0 0),(5,.c (.own 5 y.2.2.length)),(6,.c (.val (.bool y.2.1))),(7,.c (.val (.int y.1)))],[(3,.row 3 [[.sl 1 (xf.map eL),.sl 1 (xg.map eL),.int k]] false),(5,.row 3 (y.2.2.map eSp) false)]⟩) (PutNI L k (xf,xg)) (fun y => L.length - y.1)
  (fun y => ⟨[(3,.optr 3 0 0),(5,.c (.own 5 y.2.length)),(6,.c (.val (.bool y.1)))],[(3,.row 3 [[.sl 1 (xf.map eL),.sl 1 (xg.map eL),.int k]] false),(5,.row 3 (y.2.map eSp) false)]⟩) (fun y => PutNI L k (xf,xg) (L.length,y)) (0,false,[]) ⟨Nat.zero_le _,fun _ => ⟨rfl,by simp⟩,(fun h => nomatch h),Nat.zero_le _⟩ ?_ ?_ ?_
 ·(repeat' (first|with_reducible refine Qn|((with_reducible refine Qr ?_ ?_);focus (first|with_reducible rfl|(simp only [Zz,Nat.reduceBEq,List.map_nil,List.length_nil];done)|rfl))|((with_reducible refine Qj (o':=?_) ?_ ?_ ?_);rotate_left 1;focus rfl)|((with_reducible refine Qw ?_ ?_);(focus (first|with_reducible rfl|(simp only [Zv,List.map_nil,List.length_nil];done)));focus (first|exact id|exact (fun h => nomatch h)|exact (fun _ => rfl)))))
 ·rintro ⟨i,d,o⟩ ⟨hi,hno,hyes,hlen⟩
  simp only at hi hno hyes hlen ⊢
  have hw:=w64_succ (n:=i) (by omega)
  have q1:=big_le (n:=o.length + 1) (by omega)
  have q2:=big_mul (n:=o.length + 1) (c:=56) (by omega) (by omega)
  have q3:=big_le (n:=o.length + 1 + 1) (by omega)
  have q4:=big_mul (n:=o.length + 1 + 1) (c:=56) (by omega) (by omega)
  by_cases h:i < L.length
  ·have i1:((i:Int) < (L.length:Int)) = True:=eq_true (by omega)
   have i2:((0:Int) ≤ (i:Int)) = True:=eq_true (by omega)
   obtain ⟨z,hz⟩:∃ z,z = L[i]:=⟨_,rfl⟩
   obtain ⟨⟨hz1,hz2⟩,hz3⟩:=hL L[i] (List.getElem_mem _)
   have hg:(L.map eSp)[i]? = some [.sl 1 (z.1.1.map eL),.sl 1 (z.1.2.map eL),.int z.2]:=by rw [map_get h,hz];rfl
   have hdr:L.drop i = z :: L.drop (i + 1):=by rw [hz];exact List.drop_eq_getElem_cons h
   have htk:L.take (i + 1) = L.take i ++ [z]:=by rw [hz];exact List.take_succ_eq_append_getElem h
   rw [← hz] at hz1 hz2 hz3
   obtain ⟨⟨zf,zg⟩,zn⟩:=z
   simp only at hz1 hz2 hz3 hg
   have hzz:=eq_true hz3
   cases d with
   | true =>
    repeat' (first|with_reducible (first|refine Q1 ?_|refine Q2 ?_|refine Q3 ?_|refine Q4 ?_|refine Q5 ?_|refine Q6 ?_|refine Q7 ?_|refine Q8 ?_|refine Q9 ?_|refine Qa ?_|refine Qb ?_|refine Qc ?_|refine Qd ?_|refine Qe ?_|refine Qf ?_)|((with_reducible refine Qo ?_ ?_);focus rfl)|((with_reducible first|refine QT 10 (l:=?_) ?_ ?_|refine QF 10 (l:=?_) ?_ ?_);rotate_left 1;focus (simp only [Zu,Nat.reduceSub,Nat.reduceBEq];with_reducible rfl))|((with_reducible first|refine QS (cfg_ok 54) TPutN (s':=?_) ?_ ?_|refine QC (b:=?_) ?_ ?_);rotate_left 1;focus ((with_reducible refine QW ?_);simp only [Zg,seval,if_true,if_false,reduceCtorEq,Nat.reduceEqDiff,TPutN,TPutN,codSp_d,z10,z00,zm0,i1,i2,hg,hw,q1,q2,Int.toNat_natCast,List.length_map];with_reducible rfl))|((with_reducible refine QD (cfg_ok 54) TPutN mixed_ok (tr:=?_) (s':=?_) ?_ ?_ ?_);rotate_left 2;(focus ((with_reducible refine QW ?_);simp only [Zg,Zd,seval,if_true,if_false,reduceCtorEq,Nat.reduceEqDiff,TPutN,TPutN,codSp_d,z10,z00,zm0,i1,i2,hg,hw,q1,q2,Int.toNat_natCast,List.length_map];with_reducible rfl));focus ((with_reducible refine QK ?_);simp only [Zk];kernel_rfl)))
    refine roundK.on (i + 1,true,o ++ [((zf,zg),zn)]) ?_ ?_
    refine ⟨⟨h,(fun h => nomatch h),fun _ => ?_,?_⟩,?_⟩
    ·rw [← hyes rfl,hdr];simp
    ·simp;omega
    ·show L.length - (i + 1) < L.length - i;omega
    ·(repeat' (first|with_reducible refine Qn|((with_reducible refine Qr ?_ ?_);focus (first|with_reducible rfl|(simp only [Zz,Nat.reduceBEq,eSp,List.length_append,List.length_singleton];done)|rfl))|((with_reducible refine Qj (o':=?_) ?_ ?_ ?_);rotate_left 1;focus rfl)|((with_reducible refine Qw ?_ ?_);(focus (first|with_reducible rfl|(simp only [Zv,eSp,List.length_append,List.length_singleton];done)));focus (first|exact id|exact (fun h => nomatch h)|exact (fun _ => rfl)))))
   | false =>
    obtain ⟨ho,hlow⟩:=hno rfl
    have hpa:=putN_at (k:=k) h hlow
    rw [← hz] at hpa
    rcases Int.lt_trichotomy (cmpS (xf,xg) (zf,zg)) 0 with hc|hc|hc
    ·have hs:=sgn_neg hc
     have hp:putN cmpS L k (xf,xg) = o ++ [((xf,xg),k)] ++ [((zf,zg),zn)] ++ L.drop (i + 1):=by
      rw [hpa,ho];unfold putN;rw [if_pos hc];simp
     repeat' (first|with_reducible (first|refine Q1 ?_|refine Q2 ?_|refine Q3 ?_|refine Q4 ?_|refine Q5 ?_|refine Q6 ?_|refine Q7 ?_|refine Q8 ?_|refine Q9 ?_|refine Qa ?_|refine Qb ?_|refine Qc ?_|refine Qd ?_|refine Qe ?_|refine Qf ?_)|((with_reducible refine Qo ?_ ?_);focus rfl)|((with_reducible first|refine QT 10 (l:=?_) ?_ ?_|refine QF 10 (l:=?_) ?_ ?_);rotate_left 1;focus (simp only [Zu,Nat.reduceSub,Nat.reduceBEq];with_reducible rfl))|((with_reducible first|refine QS (cfg_ok 54) TPutN (s':=?_) ?_ ?_|refine QC (b:=?_) ?_ ?_);rotate_left 1;focus ((with_reducible refine QW ?_);simp only [Zg,seval,if_true,if_false,reduceCtorEq,Nat.reduceEqDiff,TPutN,TPutN,codSp_d,z10,z00,zm0,i1,i2,hg,hw,hs,hff,hzz,q1,q2,q3,q4,Int.toNat_natCast,List.length_map,List.length_append];with_reducible rfl))|((with_reducible refine QD (cfg_ok 54) TPutN mixed_ok (tr:=?_) (s':=?_) ?_ ?_ ?_);rotate_left 2;(focus ((with_reducible refine QW ?_);simp only [Zg,Zd,seval,if_true,if_false,reduceCtorEq,Nat.reduceEqDiff,TPutN,TPutN,codSp_d,z10,z00,zm0,i1,i2,hg,hw,hs,hff,hzz,q1,q2,q3,q4,Int.toNat_natCast,List.length_map,List.length_append];with_reducible rfl));focus ((with_reducible refine QK ?_);simp only [Zk];kernel_rfl)))
     refine roundK.on (i + 1,true,o ++ [((xf,xg),k)] ++ [((zf,zg),zn)]) ?_ ?_
     refine ⟨⟨h,(fun h => nomatch h),fun _ => hp.symm,?_⟩,?_⟩
     ·have:o.length = i:=by rw [ho,List.length_take];omega
      simp;omega
     ·show L.length - (i + 1) < L.length - i;omega
     ·(repeat' (first|with_reducible refine Qn|((with_reducible refine Qr ?_ ?_);focus (first|with_reducible rfl|(simp only [Zz,Nat.reduceBEq,eSp,List.length_append,List.length_singleton];done)|rfl))|((with_reducible refine Qj (o':=?_) ?_ ?_ ?_);rotate_left 1;focus rfl)|((with_reducible refine Qw ?_ ?_);(focus (first|with_reducible rfl|(simp only [Zv,eSp,List.length_append,List.length_singleton];done)));focus (first|exact id|exact (fun h => nomatch h)|exact (fun _ => rfl)))))
    ·have hs:sgn (cmpS (xf,xg) (zf,zg)) = 0:=by rw [hc];rfl
     have hwk:=w64_eq (n:=zn + k) (by omega)
     have hp:putN cmpS L k (xf,xg) = o ++ [((zf,zg),zn + k)] ++ L.drop (i + 1):=by
      rw [hpa,ho];unfold putN;rw [if_neg (show ¬ cmpS (xf,xg) (zf,zg) < 0 by omega),if_pos hc];simp
     repeat' (first|with_reducible (first|refine Q1 ?_|refine Q2 ?_|refine Q3 ?_|refine Q4 ?_|refine Q5 ?_|refine Q6 ?_|refine Q7 ?_|refine Q8 ?_|refine Q9 ?_|refine Qa ?_|refine Qb ?_|refine Qc ?_|refine Qd ?_|refine Qe ?_|refine Qf ?_)|((with_reducible refine Qo ?_ ?_);focus rfl)|((with_reducible first|refine QT 10 (l:=?_) ?_ ?_|refine QF 10 (l:=?_) ?_ ?_);rotate_left 1;focus (simp only [Zu,Nat.reduceSub,Nat.reduceBEq];with_reducible rfl))|((with_reducible first|refine QS (cfg_ok 54) TPutN (s':=?_) ?_ ?_|refine QC (b:=?_) ?_ ?_);rotate_left 1;focus ((with_reducible refine QW ?_);simp only [Zg,seval,if_true,if_false,reduceCtorEq,Nat.reduceEqDiff,TPutN,TPutN,codSp_d,z10,z00,zm0,i1,i2,hg,hw,hs,hwk,hff,hzz,q1,q2,Int.toNat_natCast,List.length_map];with_reducible rfl))|((with_reducible refine QD (cfg_ok 54) TPutN mixed_ok (tr:=?_) (s':=?_) ?_ ?_ ?_);rotate_left 2;(focus ((with_reducible refine QW ?_);simp only [Zg,Zd,seval,if_true,if_false,reduceCtorEq,Nat.reduceEqDiff,TPutN,TPutN,codSp_d,z10,z00,zm0,i1,i2,hg,hw,hs,hwk,hff,hzz,q1,q2,Int.toNat_natCast,List.length_map];with_reducible rfl));focus ((with_reducible refine QK ?_);simp only [Zk];kernel_rfl)))
     refine roundK.on (i + 1,true,o ++ [((zf,zg),zn + k)]) ?_ ?_
     refine ⟨⟨h,(fun h => nomatch h),fun _ => hp.symm,?_⟩,?_⟩
     ·simp;omega
     ·show L.length - (i + 1) < L.length - i;omega
     ·(repeat' (first|with_reducible refine Qn|((with_reducible refine Qr ?_ ?_);focus (first|with_reducible rfl|(simp only [Zz,Nat.reduceBEq,eSp,List.length_append,List.length_singleton];done)|rfl))|((with_reducible refine Qj (o':=?_) ?_ ?_ ?_);rotate_left 1;focus rfl)|((with_reducible refine Qw ?_ ?_);(focus (first|with_reducible rfl|(simp only [Zv,eSp,List.length_append,List.length_singleton];done)));focus (first|exact id|exact (fun h => nomatch h)|exact (fun _ => rfl)))))
    ·have hs:=sgn_pos hc
     repeat' (first|with_reducible (first|refine Q1 ?_|refine Q2 ?_|refine Q3 ?_|refine Q4 ?_|refine Q5 ?_|refine Q6 ?_|refine Q7 ?_|refine Q8 ?_|refine Q9 ?_|refine Qa ?_|refine Qb ?_|refine Qc ?_|refine Qd ?_|refine Qe ?_|refine Qf ?_)|((with_reducible refine Qo ?_ ?_);focus rfl)|((with_reducible first|refine QT 10 (l:=?_) ?_ ?_|refine QF 10 (l:=?_) ?_ ?_);rotate_left 1;focus (simp only [Zu,Nat.reduceSub,Nat.reduceBEq];with_reducible rfl))|((with_reducible first|refine QS (cfg_ok 54) TPutN (s':=?_) ?_ ?_|refine QC (b:=?_) ?_ ?_);rotate_left 1;focus ((with_reducible refine QW ?_);simp only [Zg,seval,if_true,if_false,reduceCtorEq,Nat.reduceEqDiff,TPutN,TPutN,codSp_d,z10,z00,zm0,i1,i2,hg,hw,hs,hff,hzz,q1,q2,Int.toNat_natCast,List.length_map];with_reducible rfl))|((with_reducible refine QD (cfg_ok 54) TPutN mixed_ok (tr:=?_) (s':=?_) ?_ ?_ ?_);rotate_left 2;(focus ((with_reducible refine QW ?_);simp only [Zg,Zd,seval,if_true,if_false,reduceCtorEq,Nat.reduceEqDiff,TPutN,TPutN,codSp_d,z10,z00,zm0,i1,i2,hg,hw,hs,hff,hzz,q1,q2,Int.toNat_natCast,List.length_map];with_reducible rfl));focus ((with_reducible refine QK ?_);simp only [Zk];kernel_rfl)))
     refine roundK.on (i + 1,false,o ++ [((zf,zg),zn)]) ?_ ?_
     refine ⟨⟨h,fun _ => ⟨by rw [htk,ho],?_⟩,(fun h => nomatch h),?_⟩,?_⟩
     ·intro q hq
      have hq:q ∈ L.take (i + 1):=hq
      rw [htk,List.mem_append,List.mem_singleton] at hq
      rcases hq with hq|rfl
      ·exact hlow q hq
      ·exact hc
     ·simp;omega
     ·show L.length - (i + 1) < L.length - i;omega
     ·(repeat' (first|with_reducible refine Qn|((with_reducible refine Qr ?_ ?_);focus (first|with_reducible rfl|(simp only [Zz,Nat.reduceBEq,eSp,List.length_append,List.length_singleton];done)|rfl))|((with_reducible refine Qj (o':=?_) ?_ ?_ ?_);rotate_left 1;focus rfl)|((with_reducible refine Qw ?_ ?_);(focus (first|with_reducible rfl|(simp only [Zv,eSp,List.length_append,List.length_singleton];done)));focus (first|exact id|exact (fun h => nomatch h)|exact (fun _ => rfl)))))
  ·have i1:((i:Int) < (L.length:Int)) = False:=eq_false (by omega)
   obtain rfl:i = L.length:=by omega
   repeat' (first|with_reducible (first|refine Q1 ?_|refine Q2 ?_|refine Q3 ?_|refine Q4 ?_|refine Q5 ?_|refine Q6 ?_|refine Q7 ?_|refine Q8 ?_|refine Q9 ?_|refine Qa ?_|refine Qb ?_|refine Qc ?_|refine Qd ?_|refine Qe ?_|refine Qf ?_)|((with_reducible refine Qo ?_ ?_);focus rfl)|((with_reducible first|refine QT 10 (l:=?_) ?_ ?_|refine QF 10 (l:=?_) ?_ ?_);rotate_left 1;focus (simp only [Zu,Nat.reduceSub,Nat.reduceBEq];with_reducible rfl))|((with_reducible first|refine QS (cfg_ok 54) Tab.none (s':=?_) ?_ ?_|refine QC (b:=?_) ?_ ?_);rotate_left 1;focus ((with_reducible refine QW ?_);simp only [Zg,seval,if_true,if_false,reduceCtorEq,Nat.reduceEqDiff,i1,List.length_map];with_reducible rfl))|((with_reducible refine QD (cfg_ok 54) Tab.none mixed_ok (tr:=?_) (s':=?_) ?_ ?_ ?_);rotate_left 2;(focus ((with_reducible refine QW ?_);simp only [Zg,Zd,seval,if_true,if_false,reduceCtorEq,Nat.reduceEqDiff,i1,List.length_map];with_reducible rfl));focus ((with_reducible refine QK ?_);simp only [Zk];kernel_rfl)))
   refine roundK.out (d,o) ⟨Nat.le_refl _,hno,hyes,hlen⟩ ?_
   (repeat' (first|with_reducible refine Qn|((with_reducible refine Qr ?_ ?_);focus (first|with_reducible rfl|(simp only [Zz,Nat.reduceBEq];done)|rfl))|((with_reducible refine Qj (o':=?_) ?_ ?_ ?_);rotate_left 1;focus rfl)|((with_reducible refine Qw ?_ ?_);(focus (first|with_reducible rfl|(simp only [Zv];done)));focus (first|exact id|exact (fun h => nomatch h)|exact (fun _ => rfl)))))
 ·rintro ⟨d,o⟩ ⟨_,hno,hyes,hlen⟩
  simp only at hno hyes hlen ⊢
  have q1:=big_le (n:=o.length + 1) (by omega)
  have q2:=big_mul (n:=o.length + 1) (c:=56) (by omega) (by omega)
  cases d with
  | true =>
   have hp:putN cmpS L k (xf,xg) = o:=by rw [← hyes rfl];simp
   rw [hp]
   repeat' (first|with_reducible (first|refine Q1 ?_|refine Q2 ?_|refine Q3 ?_|refine Q4 ?_|refine Q5 ?_|refine Q6 ?_|refine Q7 ?_|refine Q8 ?_|refine Q9 ?_|refine Qa ?_|refine Qb ?_|refine Qc ?_|refine Qd ?_|refine Qe ?_|refine Qf ?_)|((with_reducible refine Qo ?_ ?_);focus rfl)|((with_reducible first|refine QT 10 (l:=?_) ?_ ?_|refine QF 10 (l:=?_) ?_ ?_);rotate_left 1;focus (simp only [Zu,Nat.reduceSub,Nat.reduceBEq];with_reducible rfl))|((with_reducible first|refine QS (cfg_ok 54) Tab.none (s':=?_) ?_ ?_|refine QC (b:=?_) ?_ ?_);rotate_left 1;focus ((with_reducible refine QW ?_);simp only [Zg,seval,if_true,if_false,reduceCtorEq,Nat.reduceEqDiff];with_reducible rfl))|((with_reducible refine QD (cfg_ok 54) Tab.none mixed_ok (tr:=?_) (s':=?_) ?_ ?_ ?_);rotate_left 2;(focus ((with_reducible refine QW ?_);simp only [Zg,Zd,seval,if_true,if_false,reduceCtorEq,Nat.reduceEqDiff];with_reducible rfl));focus ((with_reducible refine QK ?_);simp only [Zk];kernel_rfl)))
   (refine Ends.mk (by simp) (rs:=?_) (ks:=?_) hres hrts ?_ ?_ ?_;rotate_left 2;(focus (simp only [Ze,Zg,seval,if_true,if_false,reduceCtorEq,Nat.reduceEqDiff];with_reducible rfl));(focus simp);focus (first|with_reducible rfl|(simp only [Zv];done)))
  | false =>
   obtain ⟨ho,hlow⟩:=hno rfl
   have hp:putN cmpS L k (xf,xg) = o ++ [((xf,xg),k)]:=by
    have h1:=putN_skip (k:=k) [] hlow
    rw [List.append_nil,List.take_length] at h1
    rw [h1,ho,List.take_length]
    rfl
   rw [hp]
   repeat' (first|with_reducible (first|refine Q1 ?_|refine Q2 ?_|refine Q3 ?_|refine Q4 ?_|refine Q5 ?_|refine Q6 ?_|refine Q7 ?_|refine Q8 ?_|refine Q9 ?_|refine Qa ?_|refine Qb ?_|refine Qc ?_|refine Qd ?_|refine Qe ?_|refine Qf ?_)|((with_reducible refine Qo ?_ ?_);focus rfl)|((with_reducible first|refine QT 10 (l:=?_) ?_ ?_|refine QF 10 (l:=?_) ?_ ?_);rotate_left 1;focus (simp only [Zu,Nat.reduceSub,Nat.reduceBEq];with_reducible rfl))|((with_reducible first|refine QS (cfg_ok 54) TPutN (s':=?_) ?_ ?_|refine QC (b:=?_) ?_ ?_);rotate_left 1;focus ((with_reducible refine QW ?_);simp only [Zg,seval,if_true,if_false,reduceCtorEq,Nat.reduceEqDiff,TPutN,q1,q2,List.length_map];with_reducible rfl))|((with_reducible refine QD (cfg_ok 54) TPutN mixed_ok (tr:=?_) (s':=?_) ?_ ?_ ?_);rotate_left 2;(focus ((with_reducible refine QW ?_);simp only [Zg,Zd,seval,if_true,if_false,reduceCtorEq,Nat.reduceEqDiff,TPutN,q1,q2,List.length_map];with_reducible rfl));focus ((with_reducible refine QK ?_);simp only [Zk];kernel_rfl)))
   (refine Ends.mk (by simp) (rs:=?_) (ks:=?_) hres hrts ?_ ?_ ?_;rotate_left 2;(focus (simp only [Ze,Zg,seval,if_true,if_false,reduceCtorEq,Nat.reduceEqDiff,eSp];with_reducible rfl));(focus simp);focus (first|with_reducible rfl|(simp only [Zv,eSp];done)))
def sumN (P:List (Spl × Int)):List (Spl × Int):=P.foldl (fun s p => putN cmpS s p.2 p.1) []
theorem sumN_snoc (P:List (Spl × Int)) (p:Spl × Int):sumN (P ++ [p]) = putN cmpS (sumN P) p.2 p.1:=by unfold sumN;rw [List.foldl_append];rfl
theorem sumN_is {P:List (Spl × Int)} (h:∀ p ∈ P,1 ≤ p.2):IsN cmpS (sumN P) (expN P):=by
 have:=IsN.puts cmpS_cmp P (IsN.nil (c:=cmpS)) h
 rw [List.nil_append] at this
 exact this
theorem sumN_ok {P:List (Spl × Int)} (hP:∀ q ∈ P,1 ≤ q.2∧SmS q.1) (hn:(expN P).length ≤ 1000000):(sumN P).length ≤ 1000000∧∀ q ∈ sumN P,(1 ≤ q.2∧q.2 ≤ 1000000000)∧SmS q.1:=by
 have h:=sumN_is (fun p hp => (hP p hp).1)
 refine ⟨Nat.le_trans h.len hn,fun q hq => ?_⟩
 have h1:=h.cnt q hq
 obtain ⟨r,hr,e⟩:=expN_mem (h.key q hq)
 exact ⟨⟨h1.1,by omega⟩,e ▸ (hP r hr).2⟩
def prodN (A B:List (Spl × Int)):List (Spl × Int):=A.flatMap fun a => B.map fun b => (mulS a.1 b.1,a.2 * b.2)
theorem times_sum (A B:List (Spl × Int)):timesN cmpS mulS A B = sumN (prodN A B):=rfl
theorem prodN_len {A B:List (Spl × Int)} (hA:∀ p ∈ A,1 ≤ p.2) (hB:∀ p ∈ B,1 ≤ p.2):(expN (prodN A B)).length = (expN A).length * (expN B).length:=by
 unfold prodN
 rw [(exp_prod mulS B hB A hA).length_eq]
 generalize expN A = X
 induction X with
 | nil => simp
 | cons x X ih => rw [List.flatMap_cons,List.length_append,ih,List.length_map,List.length_cons,Nat.succ_mul,Nat.add_comm]
theorem prodN_snoc (A B:List (Spl × Int)) (a:Spl × Int):prodN (A ++ [a]) B = prodN A B ++ B.map fun b => (mulS a.1 b.1,a.2 * b.2):=by simp [prodN]
theorem prodN_take {A B:List (Spl × Int)} {i:Nat} (h:i < A.length):∃ Y,prodN A B = (prodN (A.take i) B ++ B.map fun b => (mulS A[i].1 b.1,A[i].2 * b.2)) ++ Y:=by
 refine ⟨prodN (A.drop (i + 1)) B,?_⟩
 rw [← prodN_snoc,← List.take_succ_eq_append_getElem h]
 unfold prodN
 rw [← List.flatMap_append,List.take_append_drop]
noncomputable def TTmN:Tab Try.prog :=
 (Tab.none.add 138 (tab2 codLL codLL fun f g => if HaF f∧HaF g then some [.val (.sl 1 ((mulF f g).map eL))] else none) (tab2_ok fun f g rs h => by
  split at h
  ·rename_i hs
   cases h
   exact AFn.valT (a_l03Times f g (by have:=hs.1.1;omega) (fun b hb => by have:=sumLen_mem hb;have:=hs.1.2;omega) (by have:=hs.2.1;omega) (fun b hb => by have:=sumLen_mem hb;have:=hs.2.2;omega))
  ·cases h)).add
  193 (tab2 (codS 3 codSp) codSp fun L p => if L.length ≤ 1000000∧(∀ q ∈ L,(1 ≤ q.2∧q.2 ≤ 1000000000)∧SmS q.1)∧(1 ≤ p.2∧p.2 ≤ 1000000000)∧SmS p.1 then some [.val (.sl 3 ((putN cmpS L p.2 p.1).map eSp))] else none) (tab2_ok fun L p rs h => by
  split at h
  ·rename_i hs
   cases h
   exact a_l05Put L p.2 p.1 hs.1 hs.2.1 hs.2.2.1 hs.2.2.2
  ·cases h)
set_option maxRecDepth 20000 in
set_option maxHeartbeats 8000000 in
theorem a_l05Times (A B:List (Spl × Int)) (hA:∀ p ∈ A,1 ≤ p.2∧HaS p.1) (hB:∀ p ∈ B,1 ≤ p.2∧HaS p.1) (nA:(expN A).length ≤ 1000) (nB:(expN B).length ≤ 1000) :
  AFn Try.prog 208 [[.sl 3 (A.map eSp)],[.sl 3 (B.map eSp)]] (· = [.val (.sl 3 ((timesN cmpS mulS A B).map eSp))]):=by
 rw [times_sum]
 have cA:∀ p ∈ A,p.2 ≤ 1000:=fun p hp => by
  obtain ⟨s,t,rfl⟩:=List.append_of_mem hp
  rw [expN_app,expN_cons,List.length_append,List.length_append,List.length_replicate] at nA
  omega
 have cB:∀ p ∈ B,p.2 ≤ 1000:=fun p hp => by
  obtain ⟨s,t,rfl⟩:=List.append_of_mem hp
  rw [expN_app,expN_cons,List.length_append,List.length_append,List.length_replicate] at nB
  omega
 have len1:∀ (L:List (Spl × Int)),(∀ p ∈ L,1 ≤ p.2)→L.length ≤ (expN L).length:=by
  intro L
  induction L with
  | nil => intro _;exact Nat.le_refl _
  | cons p L ih =>
   intro hp
   have h1:=hp p (by simp)
   have h2:=ih (fun q hq => hp q (by simp [hq]))
   rw [expN_cons,List.length_append,List.length_replicate,List.length_cons];omega
 have lA:A.length ≤ 1000:=Nat.le_trans (len1 A (fun p hp => (hA p hp).1)) nA
 have lB:B.length ≤ 1000:=Nat.le_trans (len1 B (fun p hp => (hB p hp).1)) nB
 have hP:∀ q ∈ prodN A B,1 ≤ q.2∧SmS q.1:=fun q hq => by
  obtain ⟨a,ha,hq⟩:=List.mem_flatMap.1 hq
  obtain ⟨b,hb,rfl⟩:=List.mem_map.1 hq
  exact ⟨Int.mul_pos (hA a ha).1 (hB b hb).1,(hA a ha).2.mul (hB b hb).2⟩
 have hN:(expN (prodN A B)).length ≤ 1000000:=by
  rw [prodN_len (fun p hp => (hA p hp).1) (fun p hp => (hB p hp).1)]
  exact Nat.le_trans (Nat.mul_le_mul nA nB) (by decide)
 have hpre:∀ X Y,prodN A B = X ++ Y→(sumN X).length ≤ 1000000∧∀ q ∈ sumN X,(1 ≤ q.2∧q.2 ≤ 1000000000)∧SmS q.1:=fun X Y e =>
  sumN_ok (fun q hq => hP q (by rw [e];simp [hq])) (by rw [e,expN_app,List.length_append] at hN;omega)
 refine AFn.of_runs (cfg_ok 58) Try.func208 rfl rfl rfl (by simp only [List.length_cons,List.length_nil];decide) ?_
 have hres:Try.f208.results.toList = [.tmp 4]:=rfl
 have hrts:Try.f208.resultTypes.toList = [131]:=rfl
 simp only [argRegs,argAV1,eL,eI,eLL,eB,Nat.zero_add,Nat.reduceAdd]
 intro M
 refine RunK.of ?_
 repeat' (first|with_reducible (first|refine Q1 ?_|refine Q2 ?_|refine Q3 ?_|refine Q4 ?_|refine Q5 ?_|refine Q6 ?_|refine Q7 ?_|refine Q8 ?_|refine Q9 ?_|refine Qa ?_|refine Qb ?_|refine Qc ?_|refine Qd ?_|refine Qe ?_|refine Qf ?_)|((with_reducible refine Qo ?_ ?_);focus rfl)|((with_reducible first|refine QT 8 (l:=?_) ?_ ?_|refine QF 8 (l:=?_) ?_ ?_);rotate_left 1;focus (simp only [Zu,Nat.reduceSub,Nat.reduceBEq];with_reducible rfl))|((with_reducible first|refine QS (cfg_ok 58) Tab.none (s':=?_) ?_ ?_|refine QC (b:=?_) ?_ ?_);rotate_left 1;focus ((with_reducible refine QW ?_);simp only [Zg,seval,if_true,if_false,reduceCtorEq,Nat.reduceEqDiff];with_reducible rfl))|((with_reducible refine QD (cfg_ok 58) Tab.none mixed_ok (tr:=?_) (s':=?_) ?_ ?_ ?_);rotate_left 2;(focus ((with_reducible refine QW ?_);simp only [Zg,Zd,seval,if_true,if_false,reduceCtorEq,Nat.reduceEqDiff];with_reducible rfl));focus ((with_reducible refine QK ?_);simp only [Zk];kernel_rfl)))
 refine RunK.frz 5 ?_
 refine RunK.fits (s0:=⟨[(0,.c (.val (.sl 3 (A.map eSp)))),(1,.c (.val (.sl 3 (B.map eSp)))),(5,.c (.val (.sl 3 []))),(6,.c (.val (.int 0)))],[]⟩) ?_ ?_
 ·(repeat' (first|with_reducible refine Qn|((with_reducible refine Qr ?_ ?_);focus (first|with_reducible rfl|(simp only [Zz,Nat.reduceBEq,St.frz,frzR,frzH,look,AV.frz,AC.frz,drop];done)|rfl))|((with_reducible refine Qj (o':=?_) ?_ ?_ ?_);rotate_left 1;focus rfl)|((with_reducible refine Qw ?_ ?_);(focus (first|with_reducible rfl|(simp only [Zv,St.frz,frzR,frzH,look,AV.frz,AC.frz,drop];done)));focus (first|exact id|exact (fun h => nomatch h)|exact (fun _ => rfl)))))
 refine RunK.loop (β:=Nat) (γ:=Unit) (fun i => ⟨[(0,.c (.val (.sl 3 (A.map eSp)))),(1,.c (.val (.sl 3 (B.map eSp)))),(5,.c (.val (.sl 3 ((sumN (prodN (A.take i) B)).map eSp)))),(6,.c (.val (.int i)))],[]⟩) (fun i => i ≤ A.length) (fun i => A.length - i)
  (fun _ => ⟨[(5,.c (.val (.sl 3 ((sumN (prodN A B)).map eSp))))],[]⟩) (fun _ => True) 0 (Nat.zero_le _) ?_ ?_ ?_
 ·(repeat' (first|with_reducible refine Qn|((with_reducible refine Qr ?_ ?_);focus (first|with_reducible rfl|(simp only [Zz,Nat.reduceBEq,List.take_zero,show prodN [] B = [] from rfl,show sumN [] = [] from rfl,List.map_nil,Int.natCast_zero];done)|rfl))|((with_reducible refine Qj (o':=?_) ?_ ?_ ?_);rotate_left 1;focus rfl)|((with_reducible refine Qw ?_ ?_);(focus (first|with_reducible rfl|(simp only [Zv,List.take_zero,show prodN [] B = [] from rfl,show sumN [] = [] from rfl,List.map_nil,Int.natCast_zero];done)));focus (first|exact id|exact (fun h => nomatch h)|exact (fun _ => rfl)))))
 ·intro i hi
  have hi:i ≤ A.length:=hi
  have hw:=w64_succ (n:=i) (by omega)
  by_cases h:i < A.length
  ·have i1:((i:Int) < (A.length:Int)) = True:=eq_true (by omega)
   have i2:((0:Int) ≤ (i:Int)) = True:=eq_true (by omega)
   obtain ⟨z,hz⟩:∃ z,z = A[i]:=⟨_,rfl⟩
   obtain ⟨hz1,hz2⟩:=hA A[i] (List.getElem_mem _)
   have hz3:=cA A[i] (List.getElem_mem _)
   obtain ⟨Y,hY⟩:=prodN_take (B:=B) h
   have hg:(A.map eSp)[i]? = some [.sl 1 (z.1.1.map eL),.sl 1 (z.1.2.map eL),.int z.2]:=by rw [map_get h,hz];rfl
   have htk:prodN (A.take (i + 1)) B = prodN (A.take i) B ++ B.map fun b => (mulS z.1 b.1,z.2 * b.2):=by
    rw [hz,List.take_succ_eq_append_getElem h,prodN_snoc]
   rw [← hz] at hz1 hz2 hz3 hY
   obtain ⟨R,hR⟩:∃ R,R = prodN (A.take i) B:=⟨_,rfl⟩
   rw [← hR] at hY htk ⊢
   have hle:(A.map eSp).length = A.length:=List.length_map _
   repeat' (first|with_reducible (first|refine Q1 ?_|refine Q2 ?_|refine Q3 ?_|refine Q4 ?_|refine Q5 ?_|refine Q6 ?_|refine Q7 ?_|refine Q8 ?_|refine Q9 ?_|refine Qa ?_|refine Qb ?_|refine Qc ?_|refine Qd ?_|refine Qe ?_|refine Qf ?_)|((with_reducible refine Qo ?_ ?_);focus rfl)|((with_reducible first|refine QT 8 (l:=?_) ?_ ?_|refine QF 8 (l:=?_) ?_ ?_);rotate_left 1;focus (simp only [Zu,Nat.reduceSub,Nat.reduceBEq];with_reducible rfl))|((with_reducible first|refine QS (cfg_ok 58) Tab.none (s':=?_) ?_ ?_|refine QC (b:=?_) ?_ ?_);rotate_left 1;focus ((with_reducible refine QW ?_);simp only [Zg,seval,if_true,if_false,reduceCtorEq,Nat.reduceEqDiff,i1,i2,hle,Int.toNat_natCast];with_reducible rfl))|((with_reducible refine QD (cfg_ok 58) Tab.none mixed_ok (tr:=?_) (s':=?_) ?_ ?_ ?_);rotate_left 2;(focus ((with_reducible refine QW ?_);simp only [Zg,Zd,seval,if_true,if_false,reduceCtorEq,Nat.reduceEqDiff,i1,i2,hle,Int.toNat_natCast];with_reducible rfl));focus ((with_reducible refine QK ?_);simp only [Zk];kernel_rfl)))
   refine RunK.loop (β:=Nat) (γ:=Unit) (fun j => ⟨[(0,.c (.val (.sl 3 (A.map eSp)))),(1,.c (.val (.sl 3 (B.map eSp)))),(5,.c (.val (.sl 3 ((sumN (R ++ (B.take j).map fun b => (mulS z.1 b.1,z.2 * b.2))).map eSp)))),(6,.c (.val (.int i))),(7,.c (.val (.int j)))],[]⟩) (fun j => j ≤ B.length) (fun j => B.length - j)
    (fun _ => ⟨[(0,.c (.val (.sl 3 (A.map eSp)))),(1,.c (.val (.sl 3 (B.map eSp)))),(5,.c (.val (.sl 3 ((sumN (R ++ B.map fun b => (mulS z.1 b.1,z.2 * b.2))).map eSp)))),(6,.c (.val (.int i)))],[]⟩) (fun _ => True) 0 (Nat.zero_le _) ?_ ?_ ?_
   ·(repeat' (first|with_reducible refine Qn|((with_reducible refine Qr ?_ ?_);focus (first|with_reducible rfl|(simp only [Zz,Nat.reduceBEq,List.take_zero,List.map_nil,List.append_nil,Int.natCast_zero];done)|rfl))|((with_reducible refine Qj (o':=?_) ?_ ?_ ?_);rotate_left 1;focus rfl)|((with_reducible refine Qw ?_ ?_);(focus (first|with_reducible rfl|(simp only [Zv,List.take_zero,List.map_nil,List.append_nil,Int.natCast_zero];done)));focus (first|exact id|exact (fun h => nomatch h)|exact (fun _ => rfl)))))
   ·intro j hj
    have hj:j ≤ B.length:=hj
    have hwj:=w64_succ (n:=j) (by omega)
    by_cases g:j < B.length
    ·have j1:((j:Int) < (B.length:Int)) = True:=eq_true (by omega)
     have j2:((0:Int) ≤ (j:Int)) = True:=eq_true (by omega)
     obtain ⟨y,hy⟩:∃ y,y = B[j]:=⟨_,rfl⟩
     obtain ⟨hy1,hy2⟩:=hB B[j] (List.getElem_mem _)
     have hy3:=cB B[j] (List.getElem_mem _)
     have hgj:(B.map eSp)[j]? = some [.sl 1 (y.1.1.map eL),.sl 1 (y.1.2.map eL),.int y.2]:=by rw [map_get g,hy];rfl
     have hst:(R ++ (B.take (j + 1)).map fun b => (mulS z.1 b.1,z.2 * b.2)) = (R ++ (B.take j).map fun b => (mulS z.1 b.1,z.2 * b.2)) ++ [(mulS z.1 y.1,z.2 * y.2)]:=by
      rw [hy,List.take_succ_eq_append_getElem g,List.map_append,List.append_assoc];rfl
     rw [← hy] at hy1 hy2 hy3
     have hsplit:prodN A B = (R ++ (B.take j).map fun b => (mulS z.1 b.1,z.2 * b.2)) ++ (((B.drop j).map fun b => (mulS z.1 b.1,z.2 * b.2)) ++ Y):=by
      rw [hY]
      conv => lhs;rw [← List.take_append_drop j B,List.map_append]
      simp only [List.append_assoc]
     obtain ⟨K,hK⟩:∃ K,K = R ++ (B.take j).map fun b => (mulS z.1 b.1,z.2 * b.2):=⟨_,rfl⟩
     rw [← hK] at hsplit hst ⊢
     have hKb:=hpre K _ hsplit
     have hej:(B.map eSp).length = B.length:=List.length_map _
     have hm0:1 ≤ z.2 * y.2:=Int.mul_pos hz1 hy1
     have hm1:z.2 * y.2 ≤ 1000000:=Int.mul_le_mul hz3 hy3 (by omega) (by decide)
     have hwm:=w64_eq (n:=z.2 * y.2) (by omega)
     have t1:=eq_true (And.intro hz2.1 hy2.1)
     have t2:=eq_true (And.intro hz2.2 hy2.2)
     have t3:=eq_true (And.intro hKb.1 (And.intro hKb.2 (And.intro (show 1 ≤ z.2 * y.2∧z.2 * y.2 ≤ 1000000000 by omega) (show SmS (mulF z.1.1 y.1.1,mulF z.1.2 y.1.2) from hz2.mul hy2))))
     repeat' (first|with_reducible (first|refine Q1 ?_|refine Q2 ?_|refine Q3 ?_|refine Q4 ?_|refine Q5 ?_|refine Q6 ?_|refine Q7 ?_|refine Q8 ?_|refine Q9 ?_|refine Qa ?_|refine Qb ?_|refine Qc ?_|refine Qd ?_|refine Qe ?_|refine Qf ?_)|((with_reducible refine Qo ?_ ?_);focus rfl)|((with_reducible first|refine QT 8 (l:=?_) ?_ ?_|refine QF 8 (l:=?_) ?_ ?_);rotate_left 1;focus (simp only [Zu,Nat.reduceSub,Nat.reduceBEq];with_reducible rfl))|((with_reducible first|refine QS (cfg_ok 58) TTmN (s':=?_) ?_ ?_|refine QC (b:=?_) ?_ ?_);rotate_left 1;focus ((with_reducible refine QW ?_);simp only [Zg,seval,if_true,if_false,reduceCtorEq,Nat.reduceEqDiff,TTmN,TTmN,codSp_d,codSps_d,i1,i2,j1,j2,hg,hgj,hwj,hle,hej,hwm,t1,t2,t3,Int.toNat_natCast];with_reducible rfl))|((with_reducible refine QD (cfg_ok 58) TTmN mixed_ok (tr:=?_) (s':=?_) ?_ ?_ ?_);rotate_left 2;(focus ((with_reducible refine QW ?_);simp only [Zg,Zd,seval,if_true,if_false,reduceCtorEq,Nat.reduceEqDiff,TTmN,TTmN,codSp_d,codSps_d,i1,i2,j1,j2,hg,hgj,hwj,hle,hej,hwm,t1,t2,t3,Int.toNat_natCast];with_reducible rfl));focus ((with_reducible refine QK ?_);simp only [Zk];kernel_rfl)))
     refine roundK.on (j + 1) ⟨g,by omega⟩ ?_
     rw [hst,sumN_snoc]
     (repeat' (first|with_reducible refine Qn|((with_reducible refine Qr ?_ ?_);focus (first|with_reducible rfl|(simp only [Zz,Nat.reduceBEq,mulS];done)|rfl))|((with_reducible refine Qj (o':=?_) ?_ ?_ ?_);rotate_left 1;focus rfl)|((with_reducible refine Qw ?_ ?_);(focus (first|with_reducible rfl|(simp only [Zv,mulS];done)));focus (first|exact id|exact (fun h => nomatch h)|exact (fun _ => rfl)))))
    ·have j1:((j:Int) < (B.length:Int)) = False:=eq_false (by omega)
     obtain rfl:j = B.length:=by omega
     rw [List.take_length]
     repeat' (first|with_reducible (first|refine Q1 ?_|refine Q2 ?_|refine Q3 ?_|refine Q4 ?_|refine Q5 ?_|refine Q6 ?_|refine Q7 ?_|refine Q8 ?_|refine Q9 ?_|refine Qa ?_|refine Qb ?_|refine Qc ?_|refine Qd ?_|refine Qe ?_|refine Qf ?_)|((with_reducible refine Qo ?_ ?_);focus rfl)|((with_reducible first|refine QT 8 (l:=?_) ?_ ?_|refine QF 8 (l:=?_) ?_ ?_);rotate_left 1;focus (simp only [Zu,Nat.reduceSub,Nat.reduceBEq];with_reducible rfl))|((with_reducible first|refine QS (cfg_ok 58) Tab.none (s':=?_) ?_ ?_|refine QC (b:=?_) ?_ ?_);rotate_left 1;focus ((with_reducible refine QW ?_);simp only [Zg,seval,if_true,if_false,reduceCtorEq,Nat.reduceEqDiff,j1,List.length_map];with_reducible rfl))|((with_reducible refine QD (cfg_ok 58) Tab.none mixed_ok (tr:=?_) (s':=?_) ?_ ?_ ?_);rotate_left 2;(focus ((with_reducible refine QW ?_);simp only [Zg,Zd,seval,if_true,if_false,reduceCtorEq,Nat.reduceEqDiff,j1,List.length_map];with_reducible rfl));focus ((with_reducible refine QK ?_);simp only [Zk];kernel_rfl)))
     refine roundK.out () trivial ?_
     (repeat' (first|with_reducible refine Qn|((with_reducible refine Qr ?_ ?_);focus (first|with_reducible rfl|(simp only [Zz,Nat.reduceBEq];done)|rfl))|((with_reducible refine Qj (o':=?_) ?_ ?_ ?_);rotate_left 1;focus rfl)|((with_reducible refine Qw ?_ ?_);(focus (first|with_reducible rfl|(simp only [Zv];done)));focus (first|exact id|exact (fun h => nomatch h)|exact (fun _ => rfl)))))
   ·rintro _ _
    repeat' (first|with_reducible (first|refine Q1 ?_|refine Q2 ?_|refine Q3 ?_|refine Q4 ?_|refine Q5 ?_|refine Q6 ?_|refine Q7 ?_|refine Q8 ?_|refine Q9 ?_|refine Qa ?_|refine Qb ?_|refine Qc ?_|refine Qd ?_|refine Qe ?_|refine Qf ?_)|((with_reducible refine Qo ?_ ?_);focus rfl)|((with_reducible first|refine QT 8 (l:=?_) ?_ ?_|refine QF 8 (l:=?_) ?_ ?_);rotate_left 1;focus (simp only [Zu,Nat.reduceSub,Nat.reduceBEq];with_reducible rfl))|((with_reducible first|refine QS (cfg_ok 58) Tab.none (s':=?_) ?_ ?_|refine QC (b:=?_) ?_ ?_);rotate_left 1;focus ((with_reducible refine QW ?_);simp only [Zg,seval,if_true,if_false,reduceCtorEq,Nat.reduceEqDiff,hw];with_reducible rfl))|((with_reducible refine QD (cfg_ok 58) Tab.none mixed_ok (tr:=?_) (s':=?_) ?_ ?_ ?_);rotate_left 2;(focus ((with_reducible refine QW ?_);simp only [Zg,Zd,seval,if_true,if_false,reduceCtorEq,Nat.reduceEqDiff,hw];with_reducible rfl));focus ((with_reducible refine QK ?_);simp only [Zk];kernel_rfl)))
    refine roundK.on (i + 1) ⟨h,by omega⟩ ?_
    rw [htk]
    (repeat' (first|with_reducible refine Qn|((with_reducible refine Qr ?_ ?_);focus (first|with_reducible rfl|(simp only [Zz,Nat.reduceBEq];done)|rfl))|((with_reducible refine Qj (o':=?_) ?_ ?_ ?_);rotate_left 1;focus rfl)|((with_reducible refine Qw ?_ ?_);(focus (first|with_reducible rfl|(simp only [Zv];done)));focus (first|exact id|exact (fun h => nomatch h)|exact (fun _ => rfl)))))
  ·have i1:((i:Int) < (A.length:Int)) = False:=eq_false (by omega)
   obtain rfl:i = A.length:=by omega
   rw [List.take_length]
   repeat' (first|with_reducible (first|refine Q1 ?_|refine Q2 ?_|refine Q3 ?_|refine Q4 ?_|refine Q5 ?_|refine Q6 ?_|refine Q7 ?_|refine Q8 ?_|refine Q9 ?_|refine Qa ?_|refine Qb ?_|refine Qc ?_|refine Qd ?_|refine Qe ?_|refine Qf ?_)|((with_reducible refine Qo ?_ ?_);focus rfl)|((with_reducible first|refine QT 8 (l:=?_) ?_ ?_|refine QF 8 (l:=?_) ?_ ?_);rotate_left 1;focus (simp only [Zu,Nat.reduceSub,Nat.reduceBEq];with_reducible rfl))|((with_reducible first|refine QS (cfg_ok 58) Tab.none (s':=?_) ?_ ?_|refine QC (b:=?_) ?_ ?_);rotate_left 1;focus ((with_reducible refine QW ?_);simp only [Zg,seval,if_true,if_false,reduceCtorEq,Nat.reduceEqDiff,i1,List.length_map];with_reducible rfl))|((with_reducible refine QD (cfg_ok 58) Tab.none mixed_ok (tr:=?_) (s':=?_) ?_ ?_ ?_);rotate_left 2;(focus ((with_reducible refine QW ?_);simp only [Zg,Zd,seval,if_true,if_false,reduceCtorEq,Nat.reduceEqDiff,i1,List.length_map];with_reducible rfl));focus ((with_reducible refine QK ?_);simp only [Zk];kernel_rfl)))
   refine roundK.out () trivial ?_
   (repeat' (first|with_reducible refine Qn|((with_reducible refine Qr ?_ ?_);focus (first|with_reducible rfl|(simp only [Zz,Nat.reduceBEq];done)|rfl))|((with_reducible refine Qj (o':=?_) ?_ ?_ ?_);rotate_left 1;focus rfl)|((with_reducible refine Qw ?_ ?_);(focus (first|with_reducible rfl|(simp only [Zv];done)));focus (first|exact id|exact (fun h => nomatch h)|exact (fun _ => rfl)))))
 ·rintro _ _
  repeat' (first|with_reducible (first|refine Q1 ?_|refine Q2 ?_|refine Q3 ?_|refine Q4 ?_|refine Q5 ?_|refine Q6 ?_|refine Q7 ?_|refine Q8 ?_|refine Q9 ?_|refine Qa ?_|refine Qb ?_|refine Qc ?_|refine Qd ?_|refine Qe ?_|refine Qf ?_)|((with_reducible refine Qo ?_ ?_);focus rfl)|((with_reducible first|refine QT 8 (l:=?_) ?_ ?_|refine QF 8 (l:=?_) ?_ ?_);rotate_left 1;focus (simp only [Zu,Nat.reduceSub,Nat.reduceBEq];with_reducible rfl))|((with_reducible first|refine QS (cfg_ok 58) Tab.none (s':=?_) ?_ ?_|refine QC (b:=?_) ?_ ?_);rotate_left 1;focus ((with_reducible refine QW ?_);simp only [Zg,seval,if_true,if_false,reduceCtorEq,Nat.reduceEqDiff];with_reducible rfl))|((with_reducible refine QD (cfg_ok 58) Tab.none mixed_ok (tr:=?_) (s':=?_) ?_ ?_ ?_);rotate_left 2;(focus ((with_reducible refine QW ?_);simp only [Zg,Zd,seval,if_true,if_false,reduceCtorEq,Nat.reduceEqDiff];with_reducible rfl));focus ((with_reducible refine QK ?_);simp only [Zk];kernel_rfl)))
  (refine Ends.mk (by simp) (rs:=?_) (ks:=?_) hres hrts ?_ ?_ ?_;rotate_left 2;(focus (simp only [Ze,Zg,seval,if_true,if_false,reduceCtorEq,Nat.reduceEqDiff];with_reducible rfl));(focus simp);focus (first|with_reducible rfl|(simp only [Zv];done)))
end Go.Proofs.Ytofpjonggpjneaa
namespace Go.Proofs.Ytofpjonggpjneaa
open Go.RowKit
theorem Row.take {w:World} {k n m cap:Nat} {ds:List Value} {og:Option Nat} (h:Row w (slv og n cap) k n ds og) (hm:m ≤ n):Row w (slv og m cap) k m (ds.take (m * k)) og:=by
 refine ⟨by rw [List.length_take,h.1];exact Nat.min_eq_left (Nat.mul_le_mul_right k hm),?_⟩
 rcases h.2 with ⟨h1,h2,h3⟩|⟨g,c,cur,e,h1,h2,h3,h4,h5,h6,h7⟩
 ·subst h3
  exact .inl ⟨rfl,by omega,rfl⟩
 ·subst h2
  have hc:cap = c:=by
   unfold slv at h1
   simp only [Value.slice.injEq] at h1
   exact h1.2.2
  subst hc
  refine .inr ⟨g,cap,cur,e,rfl,rfl,h3,by omega,h5,h6,?_⟩
  rw [← h7,List.take_take,Nat.min_eq_left (Nat.mul_le_mul_right k hm)]
section
variable {P:Program} {cfg:Cfg} {M:Nat→Prop} {w0:W0} {w w':World} {Ok:Nat→Prop} {N:Nat} {σ:Asg} {s:St} {a:Act} {ops:Array Oper}
theorem RunK.regCut (C:CfgOK P cfg) (T:Tab P) {fs:List Fr} {Q:Exit→St→Prop} {id:Nat} (n:Nat) {s1:St} (ha:Work (aopsT cfg T ops (ops.toList.take n) s) (some s1))
  (h:ROps P cfg M ops (ops.toList.drop n) (outK P cfg M fs Q .normal) s1):RunK P cfg M (.region id ops false) fs Q s:=by
 refine Runs.region ?_
 have e:ops.toList = ops.toList.take n ++ ops.toList.drop n:=(List.take_append_drop n _).symm
 have cut:∀ (l m:List Oper) (s:St),aopsT cfg T ops l s = some s1→ROps P cfg M ops m (outK P cfg M fs Q .normal) s1→ROps P cfg M ops (l ++ m) (outK P cfg M fs Q .normal) s:=by
  intro l
  induction l with
  | nil => intro m s h1 h2;simp only [aopsT,Option.some.injEq] at h1;subst h1;exact h2
  | cons o l ih =>
   intro m s h1 h2
   simp only [aopsT] at h1
   obtain ⟨s2,h3,h4⟩:=bind_some h1
   exact ROps.stepT C h3 (ih m s2 h4 h2)
 rw [e]
 exact cut _ _ s ha h
end
end Go.Proofs.Ytofpjonggpjneaa
namespace Go.Proofs.Ytofpjonggpjneaa
open Go.RowKit
section
variable {P:Program} {cfg:Cfg} {w0:W0} {w w':World} {Ok:Nat→Prop} {N:Nat} {σ σ':Asg} {s s':St} {a:Act} {M:Nat→Prop}
theorem relArgs.split {A:Nat→Prop}:∀ {pre:List (List D)} {ds:List (List D)} {vs:List Value},relArgs A w (pre ++ ds) vs→∃ vs1 vs2,vs = vs1 ++ vs2∧relArgs A w pre vs1∧relArgs A w ds vs2
 | [],ds,vs,h => ⟨[],vs,rfl,rfl,h⟩
 | d :: pre,ds,vs,⟨v,us,e,h1,h2⟩ => by
  obtain ⟨us1,us2,e2,h3,h4⟩:=relArgs.split h2
  subst e2;subst e
  exact ⟨v :: us1,us2,rfl,⟨v,us1,rfl,h1,h3⟩,h4⟩
theorem relArgs.join {A:Nat→Prop}:∀ {pre:List (List D)} {ds:List (List D)} {vs1 vs2:List Value},relArgs A w pre vs1→relArgs A w ds vs2→relArgs A w (pre ++ ds) (vs1 ++ vs2)
 | [],ds,vs1,vs2,h,k => by rw [show vs1 = [] from h];exact k
 | d :: pre,ds,vs1,vs2,⟨v,us,e,h1,h2⟩,k => by
  subst e
  exact ⟨v,us ++ vs2,rfl,h1,relArgs.join h2 k⟩
theorem Bel.nil (h:Bel ⟨w,fun b => (none:Option Nat) = some b⟩ w'):Below w.heap.size w w' :=
 ⟨h.os,h.tape,h.output,h.size,fun i hi => h.block i hi (fun e => nomatch e)⟩
theorem AOw.nil {g:FuncId} {pre post:List (List D)} {k:Nat} {Q:List Res→Prop} (h:AOw P g pre k [] post Q) (hk:0 < k):AFn P g (pre ++ [.raw (.slice none 0 0)] :: post) Q:=by
 refine ⟨h.call,fun A w vs hA hr => ?_⟩
 obtain ⟨vs1,vs2,e,h1,v,us,e2,h2,h3⟩:=relArgs.split hr
 subst e2;subst e
 obtain ⟨rfl,_⟩:=rdV_raw.1 (show rdV A w v (.raw (.slice none 0 0)) from h2)
 refine (h.fn A w vs1 us none 0 [] hA h1 h3 ⟨(Nat.zero_mul k).symm,.inl ⟨rfl,rfl,rfl⟩⟩ hk (by first|exact ⟨0,hk,rfl⟩|exact ⟨0,hk,trivial⟩|exact ⟨0,hk,by simp [rdL]⟩) (fun b e => nomatch e)).mono ?_
 rintro e w' ⟨v,rs,rfl,hQ,hb,ho⟩
 have e:(W0.mine ⟨w,fun b => (none:Option Nat) = some b⟩) = fun b => w.heap.size ≤ b:=by funext b;simp [W0.mine]
 rw [e] at ho
 exact ⟨v,rs,rfl,hQ,hb.nil,ho⟩
theorem n_callR (C:CfgOK P cfg) (h:Sim w0 Ok N σ s a w) {o:Oper} {f:Operand} {args:Array Operand} {ts:Array TypeId} {g:FuncId} (ho:o.op = .call ⟨.value f,args,ts⟩) (hf:((opv s.regs f).bind avD).bind fnId = some g)
  {ds:List (List D)} (hd:relArgs (Zn σ s.heap w) w ds (args.toList.map a.eval)) {Q0:List Res→Prop} (hfn:AFn P g ds Q0)
  {K:Act→World→Prop} {Q:Exit→Act→World→Prop} {key:Nat} (hfr:∀ rs,Q0 rs→∀ q ob,look q (resACs key rs).2 = some ob→Free s q)
  (hK:∀ rs,Q0 rs→∀ v w' σ',relAV σ' ((resACs key rs).2 ++ s.heap) w' (outAV (resACs key rs).1) v→Sim w0 Ok N σ' ⟨s.regs,(resACs key rs).2 ++ s.heap⟩ a w'→K (a.put o.dst v) w'):o.wp P a w K Q:=by
 have hfv:a.eval f = .func (.func g) #[] #[]:=fnId_rel h hf
 have hrun:(execOp a.eval o).run P w = .ok (.enter g (args.map a.eval)) w:=by
  unfold execOp
  rw [ho]
  simp [resolve,Deferred.ofValue,hfv,invoke,hfn.call]
 obtain ⟨A,hA,hAa,hAz⟩:∃ A:Nat→Prop,(∀ b,A b→b < w.heap.size)∧relArgs A w ds (args.toList.map a.eval)∧((∃ rs,Q0 rs∧rs.all Res.scalar = false)→∀ b,A b→Zn σ s.heap w b):=by
  exact ⟨Zn σ s.heap w,fun _ h => h.1,hd,fun _ b hb => hb⟩
 have hcall:=hfn.fn A w (args.toList.map a.eval) hA hAa
 unfold Oper.wp
 rw [hrun,Oper.upon_enter]
 have e:(args.toList.map a.eval).toArray = args.map a.eval:=by rw [← Array.toList_map,Array.toArray_toList]
 rw [← e]
 refine hcall.mono ?_
 rintro e w' ⟨v,rs,rfl,hQ,hw,us,G,X,rfl,hG1,hG2,hrel⟩
 obtain ⟨σ',k0,k1,k2,k3,k4⟩:=outs_asg key σ hrel hG1
 have hgn:∀ q u,look q (resACs key rs).2 = some u→∀ b,σ'.g q = some b→w.heap.size ≤ b:=fun q u hq b hb => hG2 b ((k2 q u hq).2.2.1 b (fp_out hb))
 have hZ1:(∀ b,A b→Zn σ s.heap w b)→∀ b,((A b ∨ w.heap.size ≤ b)∧b ∉ X)→b < w'.heap.size→Zn σ' ((resACs key rs).2 ++ s.heap) w' b:=by
  intro hAz b hb hlt
  have hz:=Kept.grown hw h hAz b hb.1 hlt
  refine ⟨hlt,by rw [k0];exact hz.2.1,fun q u hq e => ?_⟩
  rw [look_append] at hq
  cases hn:look q (resACs key rs).2 with
  | some o' => exact hb.2 ((k2 q o' hn).2.2.2 b e)
  | none =>
   rw [hn] at hq
   rw [(k1 q hn).1] at e
   exact hz.2.2 q u hq e
 refine hK rs hQ _ w' σ' (out_rel ?_) ?_
 ·by_cases hsc:rs.all Res.scalar = true
  ·exact k4.relS hsc
  ·exact k4.rel (hZ1 (hAz ⟨rs,hQ,by simpa using hsc⟩))
 ·refine h.news k0 hw (hfr rs hQ) k1 (fun q o' hq => ?_) (fun q o' hq => ?_) k3
  ·obtain ⟨⟨dd,k,xs,d,b1,b2,b3,b4⟩,_⟩:=k2 q o' hq
   subst b1
   refine ⟨dd,b2,b3,?_⟩
   show if d = true then ownR k w' dd xs (σ'.F q) else rdR k (Zn σ' ((resACs key rs).2 ++ s.heap) w') w' dd xs
   cases d with
   | true => rw [if_pos rfl];exact b4
   | false =>
    rw [if_neg (by decide)]
    have b4':rdR k (fun b => (A b ∨ w.heap.size ≤ b)∧b ∉ X) w' dd xs:=b4
    have hsc:rs.all Res.scalar = false:=by
     have key:∀ {rs:List Res} {key:Nat} {q:Nat},look q (resACs key rs).2 = some (.row k xs false)→rs.all Res.scalar = false:=by
      intro rs
      induction rs with
      | nil => intro key q hq;cases hq
      | cons r rs ih =>
       intro key q hq
       cases r with
       | val d => rw [List.all_cons,ih (by simpa [resACs,resAC] using hq),Bool.and_false]
       | own kk ys d =>
        simp only [resACs,resAC,List.singleton_append,look] at hq
        split at hq
        ·cases hq;rfl
        ·rw [List.all_cons,ih hq,Bool.and_false]
     exact key hq
    exact b4'.mono (fun b hb hlt => hZ1 (hAz ⟨rs,hQ,hsc⟩) b hb hlt)
  ·obtain ⟨_,b5,b6,_⟩:=k2 q o' hq
   exact ⟨fun b hb => hG2 b (b6 b hb),b5⟩
theorem ROps.callNilP (C:CfgOK P cfg) {ops:Array Oper} {o:Oper} {l:List Oper} {Q:St→Prop} {d:Nat} {f:Operand} {args:Array Operand} {ts:Array TypeId} {g:FuncId} (hb:awanted ops s.regs o = some true) (hdN:d < cfg.N)
  (ho:o.op = .call ⟨.value f,args,ts⟩) (hod:o.dst = some d) (hf:((opv s.regs f).bind avD).bind fnId = some g)
  {xs:List Operand} {tx:List TypeId} {pre:List (List D)} {ys:List Operand} {ty:List TypeId} {post:List (List D)} (ha:args.toList = xs ++ .const (.slice none 0 0) :: ys) (hpre:aargs cfg (fun k => look k s.heap) s.regs xs tx = some pre) (hr:opRefs s.regs xs = []) (hpost:aargs cfg (fun k => look k s.heap) s.regs ys ty = some post) (hr2:opRefs s.regs ys = [])
  {rs:List Res} (hfn:AFn P g (pre ++ [.raw (.slice none 0 0)] :: post) (· = rs)) (hfr:(resACs d rs).2.all (fun p => fresh s p.1) = true)
  (h:ROps P cfg M ops l Q (s.got d rs)):ROps P cfg M ops (o :: l) Q s:=by
 intro w0 Ok σ a w Q' hM hS hQ
 refine wpList_step (fun K hK => ?_)
 rw [awanted_spec hS hb]
 simp only [if_true]
 have hrel:relArgs (Zn σ s.heap w) w (pre ++ [.raw (.slice none 0 0)] :: post) (args.toList.map a.eval):=by
  rw [ha,List.map_append]
  exact relArgs.join ((aargs_rel C hS hpre).2 hr) ⟨_,_,rfl,rdV_raw.2 ⟨rfl,rfl⟩,(aargs_rel C hS hpost).2 hr2⟩
 refine n_callR C hS (key:=d) ho hf hrel hfn (fun rs' e => e ▸ fun q ob hq => fresh_free (List.all_eq_true.1 hfr _ (look_all hq))) (fun rs' e v w' σ' hv hS' => ?_)
 subst e
 rw [hod]
 have hsub:∀ k o',look k (insAll (resACs d rs').2 s.heap) = some o'→look k ((resACs d rs').2 ++ s.heap) = some o':=fun k o' ho' => by rw [look_insAll] at ho';exact ho'
 exact hK _ _ (h w0 Ok σ' _ _ Q' hM (Sim.ins (hS'.forget (fun _ _ h => h) hsub) hdN (hv.sub hsub)) hQ)
end
end Go.Proofs.Ytofpjonggpjneaa
namespace Go.Proofs.Ytofpjonggpjneaa
open Go.RowKit
theorem foldS_len {α:Type} (f:α→List Spl) (m:α→Nat):∀ (bs:List α) (A:List Spl),(∀ b ∈ bs,(f b).length ≤ 2 ^ m b)→(foldS A (bs.map f)).length ≤ A.length * 2 ^ (bs.map m).sum
 | [],A,_ => by simp [foldS]
 | b :: bs,A,h => by
  have h1:=foldS_len f m bs (A.flatMap fun s => (f b).map (catS s)) (fun x hx => h x (by simp [hx]))
  have h2:(A.flatMap fun s => (f b).map (catS s)).length = A.length * (f b).length:=by
   clear h1
   induction A with
   | nil => simp
   | cons a A ih => rw [List.flatMap_cons,List.length_append,ih,List.length_map,List.length_cons,Nat.succ_mul,Nat.add_comm]
  rw [h2] at h1
  have e:((b :: bs).map m).sum = m b + (bs.map m).sum:=by simp
  rw [e,Nat.pow_add]
  refine Nat.le_trans h1 ?_
  rw [← Nat.mul_assoc]
  exact Nat.mul_le_mul_right _ (Nat.mul_le_mul_left _ (h b (by simp)))
theorem split_len:∀ (n:Nat) {t:List Int},t.length ≤ n→LevP t→(split t).length ≤ 2 ^ t.length
 | 0,t,hn,h => by have:=h.pos;omega
 | n + 1,t,hn,h => by
  rw [split_eq h,List.length_append,List.length_map,List.length_singleton]
  have h1:=foldS_len split List.length (brs t) [([],[])] (fun b hb => split_len n (by have:=brs_short h b hb;omega) (brs_lev h b hb))
  have hb:=sumLen_brs h
  have h2:(prodS ((brs t).map split)).length ≤ 2 ^ sumLen (brs t):=by
   have:(foldS [([],[])] ((brs t).map split)).length ≤ 1 * 2 ^ sumLen (brs t):=h1
   rw [Nat.one_mul] at this;exact this
  rw [← hb,Nat.pow_succ]
  have:0 < 2 ^ sumLen (brs t):=Nat.pow_pos (by decide)
  omega
theorem prod_len {bs:List (List Int)} (h:∀ b ∈ bs,LevP b) (h8:sumLen bs ≤ 8):(prodS (bs.map split)).length ≤ 256:=by
 have h1:=foldS_len split List.length bs [([],[])] (fun b hb => split_len _ (Nat.le_refl _) (h b hb))
 have h2:(prodS (bs.map split)).length ≤ 2 ^ sumLen bs:=by
  have:(foldS [([],[])] (bs.map split)).length ≤ 1 * 2 ^ sumLen bs:=h1
  rw [Nat.one_mul] at this;exact this
 exact Nat.le_trans h2 (Nat.pow_le_pow_right (by decide) h8)
theorem prod_good {bs:List (List Int)} (h:∀ b ∈ bs,LevP b):∀ s ∈ prodS (bs.map split),GoodS (sumLen bs) s:=fun s hs => by
 have:=foldS_good split List.length bs [([],[])] 0 (fun b hb => split_good _ (Nat.le_refl _) (h b hb)) (fun s hs => by
  obtain rfl:=List.mem_singleton.1 hs
  exact ⟨by simp,rfl⟩) s hs
 rw [Nat.zero_add] at this
 exact this
theorem GoodS.nrm {n:Nat} {s:Spl} (h:GoodS n s):GoodS n (nrmS s):=by
 refine ⟨fun t ht => h.1 t ?_,?_⟩
 ·unfold nrmS at ht
  simp only [List.mem_append,sortC_mem] at ht ⊢
  exact ht
 ·unfold nrmS
  simp only
  rw [sumLen_perm (sortC_perm _),sumLen_perm (sortC_perm _)]
  exact h.2
theorem len_sum:∀ {f:List (List Int)},(∀ t ∈ f,LevP t)→f.length ≤ sumLen f
 | [],_ => Nat.le_refl _
 | t :: f,h => by
  have h1:=(h t (by simp)).pos
  have h2:=len_sum (f:=f) (fun x hx => h x (by simp [hx]))
  have:sumLen (t :: f) = t.length + sumLen f:=rfl
  rw [this,List.length_cons];omega
theorem GoodS.ha {n:Nat} {s:Spl} (h:GoodS n s) (hn:n ≤ 9):HaS s:=by
 have h1:=len_sum (f:=s.1) (fun t ht => (h.1 t (by simp [ht])).1)
 have h2:=len_sum (f:=s.2) (fun t ht => (h.1 t (by simp [ht])).1)
 have h3:=h.2
 exact ⟨⟨by omega,by omega⟩,⟨by omega,by omega⟩⟩
theorem gath_ok {L:List Spl} {n:Nat} (hL:∀ s ∈ L,GoodS n s) (hn:n ≤ 9):∀ p ∈ gathS L,1 ≤ p.2∧HaS p.1:=fun p hp => by
 have h:=gathS_is L
 refine ⟨(h.cnt p hp).1,?_⟩
 obtain ⟨s,hs,e⟩:=List.mem_map.1 (h.key p hp)
 rw [← e]
 exact (hL s hs).nrm.ha hn
theorem gath_good {L:List Spl} {n:Nat} (hL:∀ s ∈ L,GoodS n s):∀ p ∈ gathS L,1 ≤ p.2∧p.2 ≤ L.length∧GoodS n p.1:=fun p hp => by
 have h:=gathS_is L
 have hc:=h.cnt p hp
 rw [List.length_map] at hc
 refine ⟨hc.1,hc.2,?_⟩
 obtain ⟨s,hs,e⟩:=List.mem_map.1 (h.key p hp)
 rw [← e]
 exact (hL s hs).nrm
theorem gath_exp (L:List Spl):(expN (gathS L)).length = L.length:=by rw [(gathS_is L).2.length_eq,List.length_map]
theorem gath_one:gathS [([],[])] = [(([],[]),1)]:=IsN.ext cmpS_cmp (gathS_is _) one_is (List.Perm.refl _)
theorem prodS_snoc (Ls:List (List Spl)) (L:List Spl):prodS (Ls ++ [L]) = (prodS Ls).flatMap fun s => L.map (catS s):=by unfold prodS;rw [List.foldl_append];rfl
theorem times_gath (Ls:List (List Spl)) (L:List Spl):timesN cmpS mulS (gathS (prodS Ls)) (gathS L) = gathS (prodS (Ls ++ [L])):=by
 refine IsN.ext cmpS_cmp (IsN.times cmpS_cmp mulS (gathS_is _) (gathS_is _)) (gathS_is _) ?_
 rw [prodS_snoc,nrm_flat]
theorem mem_take {α:Type} {l:List α} {i:Nat} {P:α→Prop} (h:∀ b ∈ l,P b):∀ b ∈ l.take i,P b:=fun b hb => h b (List.mem_of_mem_take hb)
theorem sumLen_take' (l:List (List Int)) (i:Nat):sumLen (l.take i) ≤ sumLen l:=by
 conv => rhs;rw [← List.take_append_drop i l,sumLen_append]
 omega
theorem a_l03Parts (t:List Int) (h:LevP t) (hl:t.length ≤ 1000):AFn Try.prog 123 [eL t] (· = [.own 1 ((brs t).map eL) true]) :=
 afn_L_oo (enters_of Try.func123 rfl rfl) (fun u w h' => c_spec_l03Parts u t w h' h (by omega))
theorem a_l03Branches (t:List Int) (h:LevP t) (hc:canon t = t) (hl:t.length ≤ 1000):AFn Try.prog 192 [eL t] (· = [.own 1 ((sortC cmpT (brs t)).map eL) true]):=by
 have h1:=a_l03CanonB t h hl
 have h2:=a_l03Parts t h hl
 have hb:=sumLen_brs h
 have h3:=a_l03Sort (brs t) (by have:=brs_few h;omega) (fun b hb' => by have:=sumLen_mem hb';omega)
 rw [hc] at h1
 simp only [eL,eLL] at h1 h2 h3
 refine AFn.of_runs (cfg_ok 7) Try.func192 rfl rfl rfl (by simp only [List.length_cons,List.length_nil];decide) ?_
 have hres:Try.f192.results.toList = [.tmp 2]:=rfl
 have hrts:Try.f192.resultTypes.toList = [30]:=rfl
 simp only [argRegs,argAV1,eL,eI,eLL,eB,Nat.zero_add,Nat.reduceAdd]
 intro M
 refine RunK.of ?_
 repeat' (first|with_reducible (first|refine Q1 ?_|refine Q2 ?_|refine Q3 ?_|refine Q4 ?_|refine Q5 ?_|refine Q6 ?_|refine Q7 ?_|refine Q8 ?_|refine Q9 ?_|refine Qa ?_|refine Qb ?_|refine Qc ?_|refine Qd ?_|refine Qe ?_|refine Qf ?_)|((with_reducible refine Qo ?_ ?_);focus rfl)|((with_reducible first|refine QT 3 (l:=?_) ?_ ?_|refine QF 3 (l:=?_) ?_ ?_);rotate_left 1;focus (simp only [Zu,Nat.reduceSub,Nat.reduceBEq];with_reducible rfl))|((with_reducible first|refine QS (cfg_ok 7) (((Tab.none.at' 112 h1).at' 123 h2).at' 179 h3) (s':=?_) ?_ ?_|refine QC (b:=?_) ?_ ?_);rotate_left 1;focus ((with_reducible refine QW ?_);simp only [Zg,seval,if_true,if_false,reduceCtorEq,Nat.reduceEqDiff];with_reducible rfl)))
 (refine Ends.mk (by simp) (rs:=?_) (ks:=?_) hres hrts ?_ ?_ ?_;rotate_left 2;(focus (simp only [Ze,Zg,seval,if_true,if_false,reduceCtorEq,Nat.reduceEqDiff,forest];with_reducible rfl));(focus simp);focus (first|with_reducible rfl|(simp only [Zv,forest];done)))
set_option maxHeartbeats 4000000 in
theorem a_l05Forest_of (n:Nat) (hT:∀ b,LevP b→canon b = b→b.length ≤ n→AFn Try.prog 183 [eL b] (· = [.val (.sl 3 ((gathS (split b)).map eSp))])) (bs:List (List Int)) (hb:∀ b ∈ bs,LevP b∧canon b = b∧b.length ≤ n) (h8:sumLen bs ≤ 8) :
  AFn Try.prog 191 [eLL bs] (· = [.val (.sl 3 ((gathS (prodS (bs.map split))).map eSp))]):=by
 have hlev:∀ b ∈ bs,LevP b:=fun b hb' => (hb b hb').1
 have hbl:=len_sum hlev
 refine AFn.of_runs (cfg_ok 21) Try.func191 rfl rfl rfl (by simp only [List.length_cons,List.length_nil];decide) ?_
 have hres:Try.f191.results.toList = [.tmp 2]:=rfl
 have hrts:Try.f191.resultTypes.toList = [131]:=rfl
 simp only [argRegs,argAV1,eL,eI,eLL,eB,Nat.zero_add,Nat.reduceAdd]
 intro M
 refine RunK.of ?_
 repeat' (first|with_reducible (first|refine Q1 ?_|refine Q2 ?_|refine Q3 ?_|refine Q4 ?_|refine Q5 ?_|refine Q6 ?_|refine Q7 ?_|refine Q8 ?_|refine Q9 ?_|refine Qa ?_|refine Qb ?_|refine Qc ?_|refine Qd ?_|refine Qe ?_|refine Qf ?_)|((with_reducible refine Qo ?_ ?_);focus rfl)|((with_reducible first|refine QT 5 (l:=?_) ?_ ?_|refine QF 5 (l:=?_) ?_ ?_);rotate_left 1;focus (simp only [Zu,Nat.reduceSub,Nat.reduceBEq];with_reducible rfl))|((with_reducible first|refine QS (cfg_ok 21) Tab.none (s':=?_) ?_ ?_|refine QC (b:=?_) ?_ ?_);rotate_left 1;focus ((with_reducible refine QW ?_);simp only [Zg,seval,if_true,if_false,reduceCtorEq,Nat.reduceEqDiff];with_reducible rfl)))
 refine RunK.frz 3 ?_
 refine RunK.fits (s0:=⟨[(0,.c (.val (.sl 1 (bs.map eL)))),(3,.c (.val (.sl 3 [[.sl 1 [],.sl 1 [],.int 1]]))),(4,.c (.val (.int 0)))],[]⟩) ?_ ?_
 ·(repeat' (first|with_reducible refine Qn|((with_reducible refine Qr ?_ ?_);focus (first|with_reducible rfl|(simp only [Zz,Nat.reduceBEq,St.frz,frzR,frzH,look,AV.frz,AC.frz,drop];done)|rfl))|((with_reducible refine Qj (o':=?_) ?_ ?_ ?_);rotate_left 1;focus rfl)|((with_reducible refine Qw ?_ ?_);(focus (first|with_reducible rfl|(simp only [Zv,St.frz,frzR,frzH,look,AV.frz,AC.frz,drop];done)));focus (first|exact id|exact (fun h => nomatch h)|exact (fun _ => rfl)))))
 refine RunK.loop (β:=Nat) (γ:=Unit) (fun i => ⟨[(0,.c (.val (.sl 1 (bs.map eL)))),(3,.c (.val (.sl 3 ((gathS (prodS ((bs.take i).map split))).map eSp)))),(4,.c (.val (.int i)))],[]⟩) (fun i => i ≤ bs.length) (fun i => bs.length - i)
  (fun _ => ⟨[(3,.c (.val (.sl 3 ((gathS (prodS (bs.map split))).map eSp))))],[]⟩) (fun _ => True) 0 (Nat.zero_le _) ?_ ?_ ?_
 ·(repeat' (first|with_reducible refine Qn|((with_reducible refine Qr ?_ ?_);focus (first|with_reducible rfl|(simp only [Zz,Nat.reduceBEq,List.take_zero,List.map_nil,show prodS [] = [([],[])] from rfl,gath_one,List.map_cons,eSp,Int.natCast_zero];done)|rfl))|((with_reducible refine Qj (o':=?_) ?_ ?_ ?_);rotate_left 1;focus rfl)|((with_reducible refine Qw ?_ ?_);(focus (first|with_reducible rfl|(simp only [Zv,List.take_zero,List.map_nil,show prodS [] = [([],[])] from rfl,gath_one,List.map_cons,eSp,Int.natCast_zero];done)));focus (first|exact id|exact (fun h => nomatch h)|exact (fun _ => rfl)))))
 ·intro i hi
  have hi:i ≤ bs.length:=hi
  have hw:=w64_succ (n:=i) (by omega)
  by_cases h:i < bs.length
  ·have i1:((i:Int) < (bs.length:Int)) = True:=eq_true (by omega)
   have i2:((0:Int) ≤ (i:Int)) = True:=eq_true (by omega)
   obtain ⟨b,hbe⟩:∃ b,b = bs[i]:=⟨_,rfl⟩
   have hmem:b ∈ bs:=by rw [hbe];exact List.getElem_mem _
   have hg:(bs.map eL)[i]? = some [.sl 1 (b.map eI)]:=by rw [map_get h,hbe];rfl
   have hle:(bs.map eL).length = bs.length:=List.length_map _
   obtain ⟨hb1,hb2,hb3⟩:=hb b hmem
   have hb4:b.length ≤ 8:=by have:=sumLen_mem hmem;omega
   have ht:=hT b hb1 hb2 hb3
   have hX:=sumLen_take' bs i
   have hlevX:=mem_take (i:=i) hlev
   have htm:=a_l05Times (gathS (prodS ((bs.take i).map split))) (gathS (split b)) (gath_ok (prod_good hlevX) (by omega)) (gath_ok (split_good _ (Nat.le_refl _) hb1) (by omega))
    (by rw [gath_exp];have:=prod_len hlevX (by omega);omega)
    (by rw [gath_exp];have:=split_len _ (Nat.le_refl _) hb1;have h2:2 ^ b.length ≤ 2 ^ 8:=Nat.pow_le_pow_right (by decide) hb4;omega)
   rw [times_gath] at htm
   have htk:(bs.take (i + 1)).map split = (bs.take i).map split ++ [split b]:=by rw [hbe,List.take_succ_eq_append_getElem h,List.map_append];rfl
   simp only [eL] at ht
   repeat' (first|with_reducible (first|refine Q1 ?_|refine Q2 ?_|refine Q3 ?_|refine Q4 ?_|refine Q5 ?_|refine Q6 ?_|refine Q7 ?_|refine Q8 ?_|refine Q9 ?_|refine Qa ?_|refine Qb ?_|refine Qc ?_|refine Qd ?_|refine Qe ?_|refine Qf ?_)|((with_reducible refine Qo ?_ ?_);focus rfl)|((with_reducible first|refine QT 5 (l:=?_) ?_ ?_|refine QF 5 (l:=?_) ?_ ?_);rotate_left 1;focus (simp only [Zu,Nat.reduceSub,Nat.reduceBEq];with_reducible rfl))|((with_reducible first|refine QS (cfg_ok 21) ((Tab.none.at' 183 ht).at' 208 htm) (s':=?_) ?_ ?_|refine QC (b:=?_) ?_ ?_);rotate_left 1;focus ((with_reducible refine QW ?_);simp only [Zg,seval,if_true,if_false,reduceCtorEq,Nat.reduceEqDiff,i1,i2,hg,hw,hle,Int.toNat_natCast];with_reducible rfl)))
   refine roundK.on (i + 1) ⟨h,by omega⟩ ?_
   rw [htk]
   (repeat' (first|with_reducible refine Qn|((with_reducible refine Qr ?_ ?_);focus (first|with_reducible rfl|(simp only [Zz,Nat.reduceBEq];done)|rfl))|((with_reducible refine Qj (o':=?_) ?_ ?_ ?_);rotate_left 1;focus rfl)|((with_reducible refine Qw ?_ ?_);(focus (first|with_reducible rfl|(simp only [Zv];done)));focus (first|exact id|exact (fun h => nomatch h)|exact (fun _ => rfl)))))
  ·have i1:((i:Int) < (bs.length:Int)) = False:=eq_false (by omega)
   obtain rfl:i = bs.length:=by omega
   rw [List.take_length]
   repeat' (first|with_reducible (first|refine Q1 ?_|refine Q2 ?_|refine Q3 ?_|refine Q4 ?_|refine Q5 ?_|refine Q6 ?_|refine Q7 ?_|refine Q8 ?_|refine Q9 ?_|refine Qa ?_|refine Qb ?_|refine Qc ?_|refine Qd ?_|refine Qe ?_|refine Qf ?_)|((with_reducible refine Qo ?_ ?_);focus rfl)|((with_reducible first|refine QT 5 (l:=?_) ?_ ?_|refine QF 5 (l:=?_) ?_ ?_);rotate_left 1;focus (simp only [Zu,Nat.reduceSub,Nat.reduceBEq];with_reducible rfl))|((with_reducible first|refine QS (cfg_ok 21) Tab.none (s':=?_) ?_ ?_|refine QC (b:=?_) ?_ ?_);rotate_left 1;focus ((with_reducible refine QW ?_);simp only [Zg,seval,if_true,if_false,reduceCtorEq,Nat.reduceEqDiff,i1,List.length_map];with_reducible rfl)))
   refine roundK.out () trivial ?_
   (repeat' (first|with_reducible refine Qn|((with_reducible refine Qr ?_ ?_);focus (first|with_reducible rfl|(simp only [Zz,Nat.reduceBEq];done)|rfl))|((with_reducible refine Qj (o':=?_) ?_ ?_ ?_);rotate_left 1;focus rfl)|((with_reducible refine Qw ?_ ?_);(focus (first|with_reducible rfl|(simp only [Zv];done)));focus (first|exact id|exact (fun h => nomatch h)|exact (fun _ => rfl)))))
 ·rintro _ _
  repeat' (first|with_reducible (first|refine Q1 ?_|refine Q2 ?_|refine Q3 ?_|refine Q4 ?_|refine Q5 ?_|refine Q6 ?_|refine Q7 ?_|refine Q8 ?_|refine Q9 ?_|refine Qa ?_|refine Qb ?_|refine Qc ?_|refine Qd ?_|refine Qe ?_|refine Qf ?_)|((with_reducible refine Qo ?_ ?_);focus rfl)|((with_reducible first|refine QT 5 (l:=?_) ?_ ?_|refine QF 5 (l:=?_) ?_ ?_);rotate_left 1;focus (simp only [Zu,Nat.reduceSub,Nat.reduceBEq];with_reducible rfl))|((with_reducible first|refine QS (cfg_ok 21) Tab.none (s':=?_) ?_ ?_|refine QC (b:=?_) ?_ ?_);rotate_left 1;focus ((with_reducible refine QW ?_);simp only [Zg,seval,if_true,if_false,reduceCtorEq,Nat.reduceEqDiff];with_reducible rfl)))
  (refine Ends.mk (by simp) (rs:=?_) (ks:=?_) hres hrts ?_ ?_ ?_;rotate_left 2;(focus (simp only [Ze,Zg,seval,if_true,if_false,reduceCtorEq,Nat.reduceEqDiff];with_reducible rfl));(focus simp);focus (first|with_reducible rfl|(simp only [Zv];done)))
theorem tree_sum {t:List Int} (h:LevP t) (hc:canon t = t):(gathS (prodS ((sortC cmpT (brs t)).map split))).foldl (fun s p => putN cmpS s p.2 (rootS p.1)) [(([t],[]),1)] = gathS (split t):=by
 have hf:=spec_tree h hc (fun b => gathS (split b)) (fun b _ => gathS_is _)
 unfold putsS at hf
 rw [spec_forest (sortC cmpT (brs t)) (fun b => gathS (split b)) (fun b _ => rfl)] at hf
 exact hf
theorem putM_is (L:List (Spl × Int)) (P:List (Spl × Int)) {M:List Spl} (hL:IsN cmpS L M) (hP:∀ p ∈ P,1 ≤ p.2):IsN cmpS (P.foldl (fun s p => putN cmpS s p.2 (rootS p.1)) L) (M ++ expN (P.map fun p => (rootS p.1,p.2))):=by
 have h2:=IsN.puts cmpS_cmp (P.map fun p => (rootS p.1,p.2)) hL (fun p hp => by
  obtain ⟨q,hq,rfl⟩:=List.mem_map.1 hp
  exact hP q hq)
 rw [List.foldl_map] at h2
 exact h2
theorem canon_brs {t:List Int} (h:LevP t) (hc:canon t = t):∀ b ∈ brs t,canon b = b:=fun b hb => by
 have hl:∀ c ∈ sortC cmpD ((brs t).map canon),LevP c:=fun c hc' => by
  rw [sortC_mem,List.mem_map] at hc'
  obtain ⟨x,hx,rfl⟩:=hc'
  exact canon_lev (brs_lev h x hx)
 have e:=canon_eq h
 rw [hc] at e
 rw [e,brs_rootOn hl,sortC_mem,List.mem_map] at hb
 obtain ⟨x,hx,rfl⟩:=hb
 exact canon_idem (brs_lev h x hx)
theorem root_sm {s:Spl} {n:Nat} (h:GoodS n s) (hn:n ≤ 8):SmS (rootS s):=by
 have h1:=(h.ha (by omega)).1.sm
 have hl:LevP (rootOn s.2):=rootOn_lev fun b hb => (h.1 b (by simp [hb])).1
 refine ⟨h1,by simp [rootS],?_⟩
 show (canon (rootOn s.2)).length + 0 ≤ 100
 rw [canon_len hl,rootOn_len]
 have:=h.2;omega
set_option maxHeartbeats 8000000 in
theorem a_l05Tree:∀ (n:Nat),n ≤ 8→∀ t:List Int,LevP t→canon t = t→t.length ≤ n→AFn Try.prog 183 [eL t] (· = [.val (.sl 3 ((gathS (split t)).map eSp))])
 | 0,_,t,h,_,hn => by have:=h.pos;omega
 | n + 1,hn8,t,h,hc,hn => by
  have hsb:=sumLen_brs h
  have hperm:=sortC_perm (c:=cmpT) (brs t)
  have hlev:∀ b ∈ sortC cmpT (brs t),LevP b:=fun b hb => brs_lev h b (sortC_mem.1 hb)
  have hs8:sumLen (sortC cmpT (brs t)) ≤ 7:=by rw [sumLen_perm hperm];omega
  have hbr:=AFn.valT (a_l03Branches t h hc (by omega))
  have hfo:=a_l05Forest_of n (fun b h1 h2 h3 => a_l05Tree n (by omega) b h1 h2 h3) (sortC cmpT (brs t)) (fun b hb => by
   have hb':=sortC_mem.1 hb
   exact ⟨brs_lev h b hb',canon_brs h hc b hb',by have:=brs_short h b hb';omega⟩) (by omega)
  have how:=AFn.valT (a_l01Own t (by omega))
  have hgood:=gath_good (prod_good hlev)
  have hlen:=prod_len hlev (by omega)
  have hfin:=tree_sum h hc
  have hBl:(gathS (prodS ((sortC cmpT (brs t)).map split))).length ≤ 256:=by have:=(gathS_is (prodS ((sortC cmpT (brs t)).map split))).len;rw [List.length_map] at this;omega
  have hBe:=gath_exp (prodS ((sortC cmpT (brs t)).map split))
  obtain ⟨B,hB⟩:∃ B,B = gathS (prodS ((sortC cmpT (brs t)).map split)):=⟨_,rfl⟩
  rw [← hB] at hgood hfin hfo hBl hBe
  have hone:IsN cmpS [((([t],[]):Spl),1)] [([t],[])]:=⟨⟨by simp,by simp⟩,List.Perm.refl _⟩
  have hF:∀ j,((B.take j).foldl (fun s p => putN cmpS s p.2 (rootS p.1)) [(([t],[]),1)]).length ≤ 1000000∧∀ q ∈ (B.take j).foldl (fun s p => putN cmpS s p.2 (rootS p.1)) [(([t],[]),1)],(1 ≤ q.2∧q.2 ≤ 1000000000)∧SmS q.1:=fun j => by
   have hP:∀ p ∈ B.take j,1 ≤ p.2∧p.2 ≤ 256∧SmS (rootS p.1):=fun p hp => by
    obtain ⟨g1,g2,g3⟩:=hgood p (List.mem_of_mem_take hp)
    exact ⟨g1,by omega,root_sm g3 (by omega)⟩
   have hi:=putM_is _ (B.take j) hone (fun p hp => (hP p hp).1)
   have hlt:(expN ((B.take j).map fun p => (rootS p.1,p.2))).length ≤ 256 * 256:=by
    have key:∀ (X:List (Spl × Int)),(∀ p ∈ X,p.2 ≤ 256)→(expN (X.map fun p => (rootS p.1,p.2))).length ≤ 256 * X.length:=by
     intro X
     induction X with
     | nil => intro _;simp [expN]
     | cons x X ih =>
      intro hx
      have h1:=ih (fun p hp => hx p (by simp [hp]))
      have h2:=hx x (by simp)
      rw [List.map_cons,expN_cons,List.length_append,List.length_replicate,List.length_cons,Nat.mul_succ]
      show x.2.toNat + _ ≤ _
      omega
    have h1:=key (B.take j) (fun p hp => (hP p hp).2.1)
    have h2:(B.take j).length ≤ 256:=by rw [List.length_take];omega
    exact Nat.le_trans h1 (Nat.mul_le_mul_left _ h2)
   have hM:([(([t],[]):Spl)] ++ expN ((B.take j).map fun p => (rootS p.1,p.2))).length ≤ 1 + 256 * 256:=by rw [List.length_append,List.length_singleton];omega
   refine ⟨Nat.le_trans hi.len (by omega),fun q hq => ?_⟩
   have hcq:=hi.cnt q hq
   refine ⟨⟨hcq.1,by omega⟩,?_⟩
   have hk:=hi.key q hq
   rcases List.mem_append.1 hk with hk|hk
   ·rw [List.mem_singleton.1 hk]
    exact ⟨⟨by simp,by show t.length + 0 ≤ 100;omega⟩,by show SmF [];decide⟩
   ·obtain ⟨r,hr,e⟩:=expN_mem hk
    obtain ⟨p,hp,rfl⟩:=List.mem_map.1 hr
    rw [← e]
    exact (hP p hp).2.2
  simp only [eL,eLL] at hbr hfo how
  refine AFn.of_runs (cfg_ok 41) Try.func183 rfl rfl rfl (by simp only [List.length_cons,List.length_nil];decide) ?_
  have hres:Try.f183.results.toList = [.tmp 2]:=rfl
  have hrts:Try.f183.resultTypes.toList = [131]:=rfl
  simp only [argRegs,argAV1,eL,eI,eLL,eB,Nat.zero_add,Nat.reduceAdd]
  intro M
  refine RunK.of ?_
  repeat' (first|with_reducible (first|refine Q1 ?_|refine Q2 ?_|refine Q3 ?_|refine Q4 ?_|refine Q5 ?_|refine Q6 ?_|refine Q7 ?_|refine Q8 ?_|refine Q9 ?_|refine Qa ?_|refine Qb ?_|refine Qc ?_|refine Qd ?_|refine Qe ?_|refine Qf ?_)|((with_reducible refine Qo ?_ ?_);focus rfl)|((with_reducible first|refine QT 6 (l:=?_) ?_ ?_|refine QF 6 (l:=?_) ?_ ?_);rotate_left 1;focus (simp only [Zu,Nat.reduceSub,Nat.reduceBEq];with_reducible rfl))|((with_reducible first|refine QS (cfg_ok 41) ((Tab.none.at' 192 hbr).at' 191 hfo) (s':=?_) ?_ ?_|refine QC (b:=?_) ?_ ?_);rotate_left 1;focus ((with_reducible refine QW ?_);simp only [Zg,seval,if_true,if_false,reduceCtorEq,Nat.reduceEqDiff];with_reducible rfl))|((with_reducible refine QD (cfg_ok 41) ((Tab.none.at' 192 hbr).at' 191 hfo) mixed_ok (tr:=?_) (s':=?_) ?_ ?_ ?_);rotate_left 2;(focus ((with_reducible refine QW ?_);simp only [Zg,Zd,seval,if_true,if_false,reduceCtorEq,Nat.reduceEqDiff];with_reducible rfl));focus ((with_reducible refine QK ?_);simp only [Zk];kernel_rfl)))
  refine RunK.regCut (cfg_ok 41) (Tab.none.at' 164 how) 3 (s1:=?_) ?_ ?_
  rotate_left 1
  focus (refine Work.mk ?_;simp only [Zg,seval,if_true,if_false,reduceCtorEq,Nat.reduceEqDiff];with_reducible rfl)
  simp only [List.toList_toArray,List.drop_succ_cons,List.drop_zero]
  refine ROps.frzs [11] ?_
  refine ROps.opsT (cfg_ok 41) (T:=Tab.none) (s':=?_) ?_ ?_
  rotate_left 1
  focus (simp only [Zg,seval,if_true,if_false,reduceCtorEq,Nat.reduceEqDiff];with_reducible rfl)
  repeat' (first|with_reducible (first|refine Q1 ?_|refine Q2 ?_|refine Q3 ?_|refine Q4 ?_|refine Q5 ?_|refine Q6 ?_|refine Q7 ?_|refine Q8 ?_|refine Q9 ?_|refine Qa ?_|refine Qb ?_|refine Qc ?_|refine Qd ?_|refine Qe ?_|refine Qf ?_)|((with_reducible refine Qo ?_ ?_);focus rfl)|((with_reducible first|refine QT 6 (l:=?_) ?_ ?_|refine QF 6 (l:=?_) ?_ ?_);rotate_left 1;focus (simp only [Zu,Nat.reduceSub,Nat.reduceBEq];with_reducible rfl))|((with_reducible first|refine QS (cfg_ok 41) Tab.none (s':=?_) ?_ ?_|refine QC (b:=?_) ?_ ?_);rotate_left 1;focus ((with_reducible refine QW ?_);simp only [Zg,seval,if_true,if_false,reduceCtorEq,Nat.reduceEqDiff];with_reducible rfl))|((with_reducible refine QD (cfg_ok 41) Tab.none mixed_ok (tr:=?_) (s':=?_) ?_ ?_ ?_);rotate_left 2;(focus ((with_reducible refine QW ?_);simp only [Zg,Zd,seval,if_true,if_false,reduceCtorEq,Nat.reduceEqDiff];with_reducible rfl));focus ((with_reducible refine QK ?_);simp only [Zk];kernel_rfl)))
  refine RunK.frz 4 ?_
  refine RunK.fits (s0:=⟨[(3,.c (.val (.sl 3 (B.map eSp)))),(4,.c (.val (.sl 3 [[.sl 1 [[.sl 1 (t.map eI)]],.sl 1 [],.int 1]]))),(5,.c (.val (.int 0)))],[]⟩) ?_ ?_
  ·(repeat' (first|with_reducible refine Qn|((with_reducible refine Qr ?_ ?_);focus (first|with_reducible rfl|(simp only [Zz,Nat.reduceBEq,St.frz,frzR,frzH,look,AV.frz,AC.frz,drop];done)|rfl))|((with_reducible refine Qj (o':=?_) ?_ ?_ ?_);rotate_left 1;focus rfl)|((with_reducible refine Qw ?_ ?_);(focus (first|with_reducible rfl|(simp only [Zv,St.frz,frzR,frzH,look,AV.frz,AC.frz,drop];done)));focus (first|exact id|exact (fun h => nomatch h)|exact (fun _ => rfl)))))
  refine RunK.loop (β:=Nat) (γ:=Unit) (fun j => ⟨[(3,.c (.val (.sl 3 (B.map eSp)))),(4,.c (.val (.sl 3 (((B.take j).foldl (fun s p => putN cmpS s p.2 (rootS p.1)) [(([t],[]),1)]).map eSp)))),(5,.c (.val (.int j)))],[]⟩) (fun j => j ≤ B.length) (fun j => B.length - j)
   (fun _ => ⟨[(4,.c (.val (.sl 3 ((gathS (split t)).map eSp))))],[]⟩) (fun _ => True) 0 (Nat.zero_le _) ?_ ?_ ?_
  ·(repeat' (first|with_reducible refine Qn|((with_reducible refine Qr ?_ ?_);focus (first|with_reducible rfl|(simp only [Zz,Nat.reduceBEq,List.take_zero,List.foldl_nil,List.map_nil,List.map_cons,eSp,eL,Int.natCast_zero];done)|rfl))|((with_reducible refine Qj (o':=?_) ?_ ?_ ?_);rotate_left 1;focus rfl)|((with_reducible refine Qw ?_ ?_);(focus (first|with_reducible rfl|(simp only [Zv,List.take_zero,List.foldl_nil,List.map_nil,List.map_cons,eSp,eL,Int.natCast_zero];done)));focus (first|exact id|exact (fun h => nomatch h)|exact (fun _ => rfl)))))
  ·intro i hi
   have hi:i ≤ B.length:=hi
   have hw:=w64_succ (n:=i) (by omega)
   by_cases h':i < B.length
   ·have i1:((i:Int) < (B.length:Int)) = True:=eq_true (by omega)
    have i2:((0:Int) ≤ (i:Int)) = True:=eq_true (by omega)
    obtain ⟨z,hz⟩:∃ z,z = B[i]:=⟨_,rfl⟩
    have hgz:=hgood B[i] (List.getElem_mem _)
    rw [← hz] at hgz
    obtain ⟨g1,g2,g3⟩:=hgz
    have hgz:=(g3.ha (by omega)).2.sm
    have hlz:∀ b ∈ z.1.2,LevP b:=fun b hb => (g3.1 b (by simp [hb])).1
    have hroot:=AFn.valT (a_l03Root z.1.2 hgz hlz)
    have hst:(B.take (i + 1)).foldl (fun s p => putN cmpS s p.2 (rootS p.1)) [(([t],[]),1)] = putN cmpS ((B.take i).foldl (fun s p => putN cmpS s p.2 (rootS p.1)) [(([t],[]),1)]) z.2 (rootS z.1):=by
     rw [hz,List.take_succ_eq_append_getElem h',List.foldl_append];rfl
    have hFi:=hF i
    obtain ⟨K,hK⟩:∃ K,K = (B.take i).foldl (fun s p => putN cmpS s p.2 (rootS p.1)) [(([t],[]),1)]:=⟨_,rfl⟩
    rw [← hK] at hst hFi ⊢
    have hput:=a_l05Put K z.2 (rootS z.1) hFi.1 hFi.2 ⟨g1,by omega⟩ (root_sm g3 (by omega))
    have hg:(B.map eSp)[i]? = some [.sl 1 (z.1.1.map eL),.sl 1 (z.1.2.map eL),.int z.2]:=by rw [map_get h',hz];rfl
    have hle:(B.map eSp).length = B.length:=List.length_map _
    simp only [eLL,rootS,eSp,eL,List.map_cons,List.map_nil] at hroot hput
    repeat' (first|with_reducible (first|refine Q1 ?_|refine Q2 ?_|refine Q3 ?_|refine Q4 ?_|refine Q5 ?_|refine Q6 ?_|refine Q7 ?_|refine Q8 ?_|refine Q9 ?_|refine Qa ?_|refine Qb ?_|refine Qc ?_|refine Qd ?_|refine Qe ?_|refine Qf ?_)|((with_reducible refine Qo ?_ ?_);focus rfl)|((with_reducible first|refine QT 6 (l:=?_) ?_ ?_|refine QF 6 (l:=?_) ?_ ?_);rotate_left 1;focus (simp only [Zu,Nat.reduceSub,Nat.reduceBEq];with_reducible rfl))|((with_reducible first|refine QS (cfg_ok 41) ((Tab.none.at' 194 hroot).at' 193 hput) (s':=?_) ?_ ?_|refine QC (b:=?_) ?_ ?_);rotate_left 1;focus ((with_reducible refine QW ?_);simp only [Zg,seval,if_true,if_false,reduceCtorEq,Nat.reduceEqDiff,i1,i2,hg,hw,hle,Int.toNat_natCast];with_reducible rfl))|((with_reducible refine QD (cfg_ok 41) ((Tab.none.at' 194 hroot).at' 193 hput) mixed_ok (tr:=?_) (s':=?_) ?_ ?_ ?_);rotate_left 2;(focus ((with_reducible refine QW ?_);simp only [Zg,Zd,seval,if_true,if_false,reduceCtorEq,Nat.reduceEqDiff,i1,i2,hg,hw,hle,Int.toNat_natCast];with_reducible rfl));focus ((with_reducible refine QK ?_);simp only [Zk];kernel_rfl)))
    refine roundK.on (i + 1) ⟨h',by omega⟩ ?_
    rw [hst]
    (repeat' (first|with_reducible refine Qn|((with_reducible refine Qr ?_ ?_);focus (first|with_reducible rfl|(simp only [Zz,Nat.reduceBEq,rootS];done)|rfl))|((with_reducible refine Qj (o':=?_) ?_ ?_ ?_);rotate_left 1;focus rfl)|((with_reducible refine Qw ?_ ?_);(focus (first|with_reducible rfl|(simp only [Zv,rootS];done)));focus (first|exact id|exact (fun h => nomatch h)|exact (fun _ => rfl)))))
   ·have i1:((i:Int) < (B.length:Int)) = False:=eq_false (by omega)
    obtain rfl:i = B.length:=by omega
    rw [List.take_length,hfin]
    repeat' (first|with_reducible (first|refine Q1 ?_|refine Q2 ?_|refine Q3 ?_|refine Q4 ?_|refine Q5 ?_|refine Q6 ?_|refine Q7 ?_|refine Q8 ?_|refine Q9 ?_|refine Qa ?_|refine Qb ?_|refine Qc ?_|refine Qd ?_|refine Qe ?_|refine Qf ?_)|((with_reducible refine Qo ?_ ?_);focus rfl)|((with_reducible first|refine QT 6 (l:=?_) ?_ ?_|refine QF 6 (l:=?_) ?_ ?_);rotate_left 1;focus (simp only [Zu,Nat.reduceSub,Nat.reduceBEq];with_reducible rfl))|((with_reducible first|refine QS (cfg_ok 41) Tab.none (s':=?_) ?_ ?_|refine QC (b:=?_) ?_ ?_);rotate_left 1;focus ((with_reducible refine QW ?_);simp only [Zg,seval,if_true,if_false,reduceCtorEq,Nat.reduceEqDiff,i1,List.length_map];with_reducible rfl))|((with_reducible refine QD (cfg_ok 41) Tab.none mixed_ok (tr:=?_) (s':=?_) ?_ ?_ ?_);rotate_left 2;(focus ((with_reducible refine QW ?_);simp only [Zg,Zd,seval,if_true,if_false,reduceCtorEq,Nat.reduceEqDiff,i1,List.length_map];with_reducible rfl));focus ((with_reducible refine QK ?_);simp only [Zk];kernel_rfl)))
    refine roundK.out () trivial ?_
    (repeat' (first|with_reducible refine Qn|((with_reducible refine Qr ?_ ?_);focus (first|with_reducible rfl|(simp only [Zz,Nat.reduceBEq];done)|rfl))|((with_reducible refine Qj (o':=?_) ?_ ?_ ?_);rotate_left 1;focus rfl)|((with_reducible refine Qw ?_ ?_);(focus (first|with_reducible rfl|(simp only [Zv];done)));focus (first|exact id|exact (fun h => nomatch h)|exact (fun _ => rfl)))))
  ·rintro _ _
   repeat' (first|with_reducible (first|refine Q1 ?_|refine Q2 ?_|refine Q3 ?_|refine Q4 ?_|refine Q5 ?_|refine Q6 ?_|refine Q7 ?_|refine Q8 ?_|refine Q9 ?_|refine Qa ?_|refine Qb ?_|refine Qc ?_|refine Qd ?_|refine Qe ?_|refine Qf ?_)|((with_reducible refine Qo ?_ ?_);focus rfl)|((with_reducible first|refine QT 6 (l:=?_) ?_ ?_|refine QF 6 (l:=?_) ?_ ?_);rotate_left 1;focus (simp only [Zu,Nat.reduceSub,Nat.reduceBEq];with_reducible rfl))|((with_reducible first|refine QS (cfg_ok 41) Tab.none (s':=?_) ?_ ?_|refine QC (b:=?_) ?_ ?_);rotate_left 1;focus ((with_reducible refine QW ?_);simp only [Zg,seval,if_true,if_false,reduceCtorEq,Nat.reduceEqDiff];with_reducible rfl))|((with_reducible refine QD (cfg_ok 41) Tab.none mixed_ok (tr:=?_) (s':=?_) ?_ ?_ ?_);rotate_left 2;(focus ((with_reducible refine QW ?_);simp only [Zg,Zd,seval,if_true,if_false,reduceCtorEq,Nat.reduceEqDiff];with_reducible rfl));focus ((with_reducible refine QK ?_);simp only [Zk];kernel_rfl)))
   (refine Ends.mk (by simp) (rs:=?_) (ks:=?_) hres hrts ?_ ?_ ?_;rotate_left 2;(focus (simp only [Ze,Zg,seval,if_true,if_false,reduceCtorEq,Nat.reduceEqDiff];with_reducible rfl));(focus simp);focus (first|with_reducible rfl|(simp only [Zv];done)))
end Go.Proofs.Ytofpjonggpjneaa
