/- Lemmas (9). -/
import Derived.Test.YtgngidchldajhaaGreatZC1
import Derived.Test.YtgngidchldajhaaGreatZC4
import Derived.Test.YtgngidchldajhaaGreatZC6
import Derived.Test.YtgngidchldajhaaGreatZC7
import Derived.Test.YtgngidchldajhaaGreatZC8
set_option linter.unusedSimpArgs false
set_option linter.unusedVariables false
namespace Go.Proofs.YtgngidchldajhaaGreat
open Go.RowKit
def eSp (z:Spl × Int):List D:=[.sl 1 (z.1.1.map eL),.sl 1 (z.1.2.map eL),.int z.2]
def codF2:Cod Spl:=codP 1 codLL codLL (fun _ => rfl)
def codSp:Cod (Spl × Int):=codP 2 codF2 codI (fun _ => rfl)
theorem codSp_d (f g:List (List Int)) (n:Int):codSp.d [.sl 1 (f.map eL),.sl 1 (g.map eL),.int n] = some ((f,g),n):=codSp.de ((f,g),n)
theorem codSps_d (L:List (Spl × Int)):(codS 3 codSp).d [.sl 3 (L.map eSp)] = some L:=(codS 3 codSp).de L
def SmS (s:Spl):Prop:=SmF s.1∧SmF s.2
instance (s:Spl):Decidable (SmS s):=inferInstanceAs (Decidable (_∧_))
def HaF (f:List (List Int)):Prop:=f.length ≤ 9∧sumLen f ≤ 50
instance (f:List (List Int)):Decidable (HaF f):=inferInstanceAs (Decidable (_∧_))
def HaS (s:Spl):Prop:=HaF s.1∧HaF s.2
theorem HaF.mul {f g:List (List Int)} (hf:HaF f) (hg:HaF g):SmF (mulF f g):=by
 obtain ⟨h1,h2⟩:=hf
 obtain ⟨h3,h4⟩:=hg
 exact ⟨by rw [mulF_len];omega,by rw [mulF_sum];omega⟩
theorem HaS.mul {s c:Spl} (hs:HaS s) (hc:HaS c):SmS (mulS s c):=⟨hs.1.mul hc.1,hs.2.mul hc.2⟩
theorem HaF.sm {f:List (List Int)} (hf:HaF f):SmF f:=⟨by have:=hf.1;omega,by have:=hf.2;omega⟩
theorem HaS.sm {s:Spl} (hs:HaS s):SmS s:=⟨hs.1.sm,hs.2.sm⟩
theorem cmpS_sgn (s c:Spl):sgn (cmpS s c) = if sumLen s.1 = sumLen c.1 then (if sgn (cmpN s.1 c.1) = 0 then sgn (cmpN s.2 c.2) else sgn (cmpN s.1 c.1)) else (if sumLen s.1 < sumLen c.1 then -1 else 1):=by
 have z:∀ n:Int,sgn n = 0 ↔ n = 0:=fun n => by unfold sgn;split <;> (try split) <;> omega
 unfold cmpS pairC
 rw [cmpF_N]
 by_cases h:sumLen s.1 = sumLen c.1
 ·rw [if_pos h]
  simp only [h,if_true]
  by_cases h0:cmpN s.1 c.1 = 0
  ·rw [if_pos h0,if_pos ((z _).2 h0)]
  ·rw [if_neg h0,if_neg (fun e => h0 ((z _).1 e))]
 ·rw [if_neg h,if_neg (show ¬ (sumLen s.1:Int) = sumLen c.1 by omega),if_neg (by omega)]
  by_cases h2:sumLen s.1 < sumLen c.1
  ·rw [if_pos h2,sgn_neg (by omega)]
  ·rw [if_neg h2,sgn_pos (by omega)]
noncomputable def TOrd:Tab Tryz.prog :=
 TForS.add 225 (tab2 codLL codLL fun f g => if SmF f∧SmF g then some [.val (.int (sgn (cmpN f g)))] else none) (tab2_ok fun f g rs h => by split at h;cases h;rename_i hs;exact a_l05Compare f g (by have:=hs.1.1;omega) (by have:=hs.2.1;omega);cases h)
set_option maxHeartbeats 4000000 in
theorem a_l05Order (z y:Spl × Int) (hz:SmS z.1) (hy:SmS y.1):AFn Tryz.prog 246 [eSp z,eSp y] (· = [.val (.int (sgn (cmpS z.1 y.1)))]):=by
 obtain ⟨⟨f,g⟩,n⟩:=z
 obtain ⟨⟨f',g'⟩,n'⟩:=y
 obtain ⟨hz1,hz2⟩:=hz
 obtain ⟨hy1,hy2⟩:=hy
 simp only at hz1 hz2 hy1 hy2
 have hn1:nodesB f = sumLen f:=nodesB_eq f (by have:=hz1.2;omega)
 have hn2:nodesB f' = sumLen f':=nodesB_eq f' (by have:=hy1.2;omega)
 have e1:=eq_true hz1
 have e2:=eq_true hz2
 have e3:=eq_true hy1
 have e4:=eq_true hy2
 rw [cmpS_sgn]
 simp only
 refine AFn.of_runs (cfg_ok 33) Tryz.func246 rfl rfl rfl (by simp only [List.length_cons,List.length_nil];decide) ?_
 have hres:Tryz.f246.results.toList = [.tmp 4]:=rfl
 have hrts:Tryz.f246.resultTypes.toList = [2]:=rfl
 simp only [argRegs,argAV1,Nat.zero_add,eSp]
 intro M
 refine RunK.of ?_
 by_cases hl:sumLen f = sumLen f'
 ·have hb:((sumLen f:Int) != (sumLen f':Int)) = false:=by simp [hl]
  rw [if_pos hl]
  by_cases h0:sgn (cmpN f f') = 0
  ·have h0b:(sgn (cmpN f f') != 0) = false:=by simp [h0]
   rw [if_pos h0]
   repeat' (first|with_reducible (first|refine Q1 ?_|refine Q2 ?_|refine Q3 ?_|refine Q4 ?_|refine Q5 ?_|refine Q6 ?_|refine Q7 ?_|refine Q8 ?_|refine Q9 ?_|refine Qa ?_|refine Qb ?_|refine Qc ?_|refine Qd ?_|refine Qe ?_|refine Qf ?_)|((with_reducible refine Qo ?_ ?_);focus rfl)|((with_reducible first|refine QT 8 (l:=?_) ?_ ?_|refine QF 8 (l:=?_) ?_ ?_);rotate_left 1;focus (simp only [Zu,Nat.reduceSub,Nat.reduceBEq];with_reducible rfl))|((with_reducible first|refine QS (cfg_ok 33) TOrd (s':=?_) ?_ ?_|refine QC (b:=?_) ?_ ?_);rotate_left 1;focus ((with_reducible refine QW ?_);simp only [Zg,seval,Nat.reduceEqDiff,TOrd,TForS,hb,h0b,e1,e2,e3,e4];with_reducible rfl))|((with_reducible refine QD (cfg_ok 33) TOrd mixed_ok (tr:=?_) (s':=?_) ?_ ?_ ?_);rotate_left 2;(focus ((with_reducible refine QW ?_);simp only [Zg,Zd,seval,Nat.reduceEqDiff,TOrd,TForS,hn1,hn2];with_reducible rfl));focus ((with_reducible refine QK ?_);simp only [Zk];kernel_rfl)))
   (refine Ends.mk (by simp) (rs:=?_) (ks:=?_) hres hrts ?_ ?_ ?_;rotate_left 2;(focus (simp only [Ze,Zg,seval];with_reducible rfl));(focus simp);focus (first|with_reducible rfl|(simp only [Zv];done)))
  ·have h0b:(sgn (cmpN f f') != 0) = true:=bne_iff_ne.2 h0
   rw [if_neg h0]
   repeat' (first|with_reducible (first|refine Q1 ?_|refine Q2 ?_|refine Q3 ?_|refine Q4 ?_|refine Q5 ?_|refine Q6 ?_|refine Q7 ?_|refine Q8 ?_|refine Q9 ?_|refine Qa ?_|refine Qb ?_|refine Qc ?_|refine Qd ?_|refine Qe ?_|refine Qf ?_)|((with_reducible refine Qo ?_ ?_);focus rfl)|((with_reducible first|refine QT 8 (l:=?_) ?_ ?_|refine QF 8 (l:=?_) ?_ ?_);rotate_left 1;focus (simp only [Zu,Nat.reduceSub,Nat.reduceBEq];with_reducible rfl))|((with_reducible first|refine QS (cfg_ok 33) TOrd (s':=?_) ?_ ?_|refine QC (b:=?_) ?_ ?_);rotate_left 1;focus ((with_reducible refine QW ?_);simp only [Zg,seval,Nat.reduceEqDiff,TOrd,TForS,hb,h0b,e1,e3];with_reducible rfl))|((with_reducible refine QD (cfg_ok 33) TOrd mixed_ok (tr:=?_) (s':=?_) ?_ ?_ ?_);rotate_left 2;(focus ((with_reducible refine QW ?_);simp only [Zg,Zd,seval,Nat.reduceEqDiff,TOrd,TForS,hn1,hn2];with_reducible rfl));focus ((with_reducible refine QK ?_);simp only [Zk];kernel_rfl)))
   (refine Ends.mk (by simp) (rs:=?_) (ks:=?_) hres hrts ?_ ?_ ?_;rotate_left 2;(focus (simp only [Ze,Zg,seval];with_reducible rfl));(focus simp);focus (first|with_reducible rfl|(simp only [Zv];done)))
 ·have hb:((sumLen f:Int) != (sumLen f':Int)) = true:=by simp;omega
  rw [if_neg hl]
  by_cases h2:sumLen f < sumLen f'
  ·have i1:((sumLen f:Int) < (sumLen f':Int)) = True:=eq_true (by omega)
   rw [if_pos h2]
   repeat' (first|with_reducible (first|refine Q1 ?_|refine Q2 ?_|refine Q3 ?_|refine Q4 ?_|refine Q5 ?_|refine Q6 ?_|refine Q7 ?_|refine Q8 ?_|refine Q9 ?_|refine Qa ?_|refine Qb ?_|refine Qc ?_|refine Qd ?_|refine Qe ?_|refine Qf ?_)|((with_reducible refine Qo ?_ ?_);focus rfl)|((with_reducible first|refine QT 8 (l:=?_) ?_ ?_|refine QF 8 (l:=?_) ?_ ?_);rotate_left 1;focus (simp only [Zu,Nat.reduceSub,Nat.reduceBEq];with_reducible rfl))|((with_reducible first|refine QS (cfg_ok 33) TForS (s':=?_) ?_ ?_|refine QC (b:=?_) ?_ ?_);rotate_left 1;focus ((with_reducible refine QW ?_);simp only [Zg,seval,Nat.reduceEqDiff,TForS,hb,i1];with_reducible rfl))|((with_reducible refine QD (cfg_ok 33) TForS mixed_ok (tr:=?_) (s':=?_) ?_ ?_ ?_);rotate_left 2;(focus ((with_reducible refine QW ?_);simp only [Zg,Zd,seval,Nat.reduceEqDiff,TForS,hn1,hn2];with_reducible rfl));focus ((with_reducible refine QK ?_);simp only [Zk];kernel_rfl)))
   (refine Ends.mk (by simp) (rs:=?_) (ks:=?_) hres hrts ?_ ?_ ?_;rotate_left 2;(focus (simp only [Ze,Zg,seval];with_reducible rfl));(focus simp);focus (first|with_reducible rfl|(simp only [Zv];done)))
  ·have i1:((sumLen f:Int) < (sumLen f':Int)) = False:=eq_false (by omega)
   rw [if_neg h2]
   repeat' (first|with_reducible (first|refine Q1 ?_|refine Q2 ?_|refine Q3 ?_|refine Q4 ?_|refine Q5 ?_|refine Q6 ?_|refine Q7 ?_|refine Q8 ?_|refine Q9 ?_|refine Qa ?_|refine Qb ?_|refine Qc ?_|refine Qd ?_|refine Qe ?_|refine Qf ?_)|((with_reducible refine Qo ?_ ?_);focus rfl)|((with_reducible first|refine QT 8 (l:=?_) ?_ ?_|refine QF 8 (l:=?_) ?_ ?_);rotate_left 1;focus (simp only [Zu,Nat.reduceSub,Nat.reduceBEq];with_reducible rfl))|((with_reducible first|refine QS (cfg_ok 33) TForS (s':=?_) ?_ ?_|refine QC (b:=?_) ?_ ?_);rotate_left 1;focus ((with_reducible refine QW ?_);simp only [Zg,seval,Nat.reduceEqDiff,TForS,hb,i1];with_reducible rfl))|((with_reducible refine QD (cfg_ok 33) TForS mixed_ok (tr:=?_) (s':=?_) ?_ ?_ ?_);rotate_left 2;(focus ((with_reducible refine QW ?_);simp only [Zg,Zd,seval,Nat.reduceEqDiff,TForS,hn1,hn2];with_reducible rfl));focus ((with_reducible refine QK ?_);simp only [Zk];kernel_rfl)))
   (refine Ends.mk (by simp) (rs:=?_) (ks:=?_) hres hrts ?_ ?_ ?_;rotate_left 2;(focus (simp only [Ze,Zg,seval];with_reducible rfl));(focus simp);focus (first|with_reducible rfl|(simp only [Zv];done)))
noncomputable def TPutN:Tab Tryz.prog :=
 Tab.none.add 246 (tab2 codSp codSp fun z y => if SmS z.1∧SmS y.1 then some [.val (.int (sgn (cmpS z.1 y.1)))] else none) (tab2_ok fun z y rs h => by split at h;cases h;rename_i hs;exact a_l05Order z y hs.1 hs.2;cases h)
structure PutNI (L:List (Spl × Int)) (k:Int) (x:Spl) (y:Nat × Bool × List (Spl × Int)):Prop where
 le:y.1 ≤ L.length
 no:y.2.1 = false→y.2.2 = L.take y.1∧∀ q ∈ L.take y.1,0 < cmpS x q.1
 yes:y.2.1 = true→y.2.2 ++ L.drop y.1 = putN cmpS L k x
 len:y.2.2.length ≤ y.1 + 1
theorem putN_at {L:List (Spl × Int)} {k:Int} {x:Spl} {i:Nat} (h:i < L.length) (hlow:∀ q ∈ L.take i,0 < cmpS x q.1):putN cmpS L k x = L.take i ++ putN cmpS (L[i] :: L.drop (i + 1)) k x:=by
 have h1:=putN_skip (k:=k) (L.drop i) hlow
 rw [List.take_append_drop,List.drop_eq_getElem_cons h] at h1
 exact h1
set_option maxHeartbeats 8000000 in
theorem a_l05Put (L:List (Spl × Int)) (k:Int) (x:Spl) (hl:L.length ≤ 1000000) (hL:∀ q ∈ L,(1 ≤ q.2∧q.2 ≤ 1000000000)∧SmS q.1) (hk:1 ≤ k∧k ≤ 1000000000) (hx:SmS x):AFn Tryz.prog 209 [[.sl 3 (L.map eSp)],eSp (x,k)] (· = [.val (.sl 3 ((putN cmpS L k x).map eSp))]):=by
 refine AFn.val1 ?_
 have hff:=eq_true hx
 obtain ⟨xf,xg⟩:=x
 refine AFn.of_runs (cfg_ok 54) Tryz.func209 rfl rfl rfl (by simp only [List.length_cons,List.length_nil];decide) ?_
 have hres:Tryz.f209.results.toList = [.tmp 4]:=rfl
 have hrts:Tryz.f209.resultTypes.toList = [50]:=rfl
 simp only [argRegs,argAV1,Nat.zero_add,eSp]
 intro M
 refine RunK.of ?_
 repeat' (first|with_reducible (first|refine Q1 ?_|refine Q2 ?_|refine Q3 ?_|refine Q4 ?_|refine Q5 ?_|refine Q6 ?_|refine Q7 ?_|refine Q8 ?_|refine Q9 ?_|refine Qa ?_|refine Qb ?_|refine Qc ?_|refine Qd ?_|refine Qe ?_|refine Qf ?_)|((with_reducible refine Qo ?_ ?_);focus rfl)|((with_reducible first|refine QT 10 (l:=?_) ?_ ?_|refine QF 10 (l:=?_) ?_ ?_);rotate_left 1;focus (simp only [Zu,Nat.reduceSub,Nat.reduceBEq];with_reducible rfl))|((with_reducible first|refine QS (cfg_ok 54) Tab.none (s':=?_) ?_ ?_|refine QC (b:=?_) ?_ ?_);rotate_left 1;focus ((with_reducible refine QW ?_);simp only [Zg,seval,Nat.reduceEqDiff];with_reducible rfl))|((with_reducible refine QD (cfg_ok 54) Tab.none mixed_ok (tr:=?_) (s':=?_) ?_ ?_ ?_);rotate_left 2;(focus ((with_reducible refine QW ?_);simp only [Zg,Zd,seval,if_true,if_false,reduceCtorEq,Nat.reduceEqDiff];with_reducible rfl));focus ((with_reducible refine QK ?_);simp only [Zk];kernel_rfl)))
 refine RunK.loop (β:=Nat × Bool × List (Spl × Int)) (γ:=Bool × List (Spl × Int)) (fun y => ⟨[(0,.c (.val (.sl 3 (L.map eSp)))),(3,.optr 3 0 0),(5,.c (.own 5 y.2.2.length)),(6,.c (.val (.bool y.2.1))),(7,.c (.val (.int y.1)))],[(3,.row 3 [[.sl 1 (xf.map eL),.sl 1 (xg.map eL),.int k]] false),(5,.row 3 (y.2.2.map eSp) false)]⟩) (PutNI L k (xf,xg)) (fun y => L.length - y.1)
  (fun y => ⟨[(3,.optr 3 0 0),(5,.c (.own 5 y.2.length)),(6,.c (.val (.bool y.1)))],[(3,.row 3 [[.sl 1 (xf.map eL),.sl 1 (xg.map eL),.int k]] false),(5,.row 3 (y.2.map eSp) false)]⟩) (fun y => PutNI L k (xf,xg) (L.length,y)) (0,false,[]) ⟨Nat.zero_le _,fun _ => ⟨rfl,by simp⟩,(fun h => nomatch h),Nat.zero_le _⟩ ?_ ?_ ?_
 ·(repeat' (first|with_reducible refine Qn|((with_reducible refine Qr ?_ ?_);focus (first|with_reducible rfl|(simp only [Zz,Nat.reduceBEq];done)|rfl))|((with_reducible refine Qj (o':=?_) ?_ ?_ ?_);rotate_left 1;focus rfl)|((with_reducible refine Qw ?_ ?_);(focus (first|with_reducible rfl|(simp only [Zv];done)));focus (first|exact id|exact (fun h => nomatch h)|exact (fun _ => rfl)))))
 ·rintro ⟨i,d,o⟩ ⟨hi,hno,hyes,hlen⟩
  simp only at hi hno hyes hlen ⊢
  have hw:=w64_succ (n:=i) (by omega)
  have q1:=big_le (n:=o.length + 1) (by omega)
  have q2:=big_mul (n:=o.length + 1) (c:=56) (by omega) (by omega)
  have q3:=big_le (n:=o.length + 1 + 1) (by omega)
  have q4:=big_mul (n:=o.length + 1 + 1) (c:=56) (by omega) (by omega)
  by_cases h:i < L.length
  ·have i1:((i:Int) < (L.length:Int)) = True:=eq_true (by omega)
   have i2:((0:Int) ≤ (i:Int)) = True:=eq_true (by omega)
   obtain ⟨z,hz⟩:∃ z,z = L[i]:=⟨_,rfl⟩
   obtain ⟨⟨hz1,hz2⟩,hz3⟩:=hL L[i] (List.getElem_mem _)
   have hg:(L.map eSp)[i]? = some [.sl 1 (z.1.1.map eL),.sl 1 (z.1.2.map eL),.int z.2]:=by rw [map_get h,hz];rfl
   have hdr:L.drop i = z :: L.drop (i + 1):=by rw [hz];exact List.drop_eq_getElem_cons h
   have htk:L.take (i + 1) = L.take i ++ [z]:=by rw [hz];exact List.take_succ_eq_append_getElem h
   rw [← hz] at hz1 hz2 hz3
   obtain ⟨⟨zf,zg⟩,zn⟩:=z
   simp only at hz1 hz2 hz3 hg
   have hzz:=eq_true hz3
   cases d with
   | true =>
    repeat' (first|with_reducible (first|refine Q1 ?_|refine Q2 ?_|refine Q3 ?_|refine Q4 ?_|refine Q5 ?_|refine Q6 ?_|refine Q7 ?_|refine Q8 ?_|refine Q9 ?_|refine Qa ?_|refine Qb ?_|refine Qc ?_|refine Qd ?_|refine Qe ?_|refine Qf ?_)|((with_reducible refine Qo ?_ ?_);focus rfl)|((with_reducible first|refine QT 10 (l:=?_) ?_ ?_|refine QF 10 (l:=?_) ?_ ?_);rotate_left 1;focus (simp only [Zu,Nat.reduceSub,Nat.reduceBEq];with_reducible rfl))|((with_reducible first|refine QS (cfg_ok 54) TPutN (s':=?_) ?_ ?_|refine QC (b:=?_) ?_ ?_);rotate_left 1;focus ((with_reducible refine QW ?_);simp only [Zg,seval,Nat.reduceEqDiff,TPutN,TPutN,z10,i1,i2,hg,hw,q1,q2,Int.toNat_natCast,List.length_map];with_reducible rfl))|((with_reducible refine QD (cfg_ok 54) TPutN mixed_ok (tr:=?_) (s':=?_) ?_ ?_ ?_);rotate_left 2;(focus ((with_reducible refine QW ?_);simp only [Zg,Zd,seval,if_true,if_false,reduceCtorEq,Nat.reduceEqDiff,TPutN,TPutN,codSp_d,z10,z00,zm0,i1,i2,hg,hw,q1,q2,Int.toNat_natCast,List.length_map];with_reducible rfl));focus ((with_reducible refine QK ?_);simp only [Zk];kernel_rfl)))
    refine roundK.on (i + 1,true,o ++ [((zf,zg),zn)]) ?_ ?_
    refine ⟨⟨h,(fun h => nomatch h),fun _ => ?_,?_⟩,?_⟩
    ·rw [← hyes rfl,hdr];simp
    ·simp;omega
    ·show L.length - (i + 1) < L.length - i;omega
    ·(repeat' (first|with_reducible refine Qn|((with_reducible refine Qr ?_ ?_);focus (first|with_reducible rfl|(simp only [Zz,Nat.reduceBEq];done)|rfl))|((with_reducible refine Qj (o':=?_) ?_ ?_ ?_);rotate_left 1;focus rfl)|((with_reducible refine Qw ?_ ?_);(focus (first|with_reducible rfl|(simp only [Zv,eSp];done)));focus (first|exact id|exact (fun h => nomatch h)|exact (fun _ => rfl)))))
   | false =>
    obtain ⟨ho,hlow⟩:=hno rfl
    have hpa:=putN_at (k:=k) h hlow
    rw [← hz] at hpa
    rcases Int.lt_trichotomy (cmpS (xf,xg) (zf,zg)) 0 with hc|hc|hc
    ·have hs:=sgn_neg hc
     have hp:putN cmpS L k (xf,xg) = o ++ [((xf,xg),k)] ++ [((zf,zg),zn)] ++ L.drop (i + 1):=by
      rw [hpa,ho];unfold putN;rw [if_pos hc];simp
     repeat' (first|with_reducible (first|refine Q1 ?_|refine Q2 ?_|refine Q3 ?_|refine Q4 ?_|refine Q5 ?_|refine Q6 ?_|refine Q7 ?_|refine Q8 ?_|refine Q9 ?_|refine Qa ?_|refine Qb ?_|refine Qc ?_|refine Qd ?_|refine Qe ?_|refine Qf ?_)|((with_reducible refine Qo ?_ ?_);focus rfl)|((with_reducible first|refine QT 10 (l:=?_) ?_ ?_|refine QF 10 (l:=?_) ?_ ?_);rotate_left 1;focus (simp only [Zu,Nat.reduceSub,Nat.reduceBEq];with_reducible rfl))|((with_reducible first|refine QS (cfg_ok 54) TPutN (s':=?_) ?_ ?_|refine QC (b:=?_) ?_ ?_);rotate_left 1;focus ((with_reducible refine QW ?_);simp only [Zg,seval,Nat.reduceEqDiff,TPutN,TPutN,zm0,i1,i2,hg,hw,q1,q2,q3,q4,Int.toNat_natCast,List.length_map,List.length_append];with_reducible rfl))|((with_reducible refine QD (cfg_ok 54) TPutN mixed_ok (tr:=?_) (s':=?_) ?_ ?_ ?_);rotate_left 2;(focus ((with_reducible refine QW ?_);simp only [Zg,Zd,seval,Nat.reduceEqDiff,TPutN,TPutN,codSp_d,i1,i2,hg,hs,hff,hzz,Int.toNat_natCast,List.length_map];with_reducible rfl));focus ((with_reducible refine QK ?_);simp only [Zk];kernel_rfl)))
     refine roundK.on (i + 1,true,o ++ [((xf,xg),k)] ++ [((zf,zg),zn)]) ?_ ?_
     refine ⟨⟨h,(fun h => nomatch h),fun _ => hp.symm,?_⟩,?_⟩
     ·have:o.length = i:=by rw [ho,List.length_take];omega
      simp;omega
     ·show L.length - (i + 1) < L.length - i;omega
     ·(repeat' (first|with_reducible refine Qn|((with_reducible refine Qr ?_ ?_);focus (first|with_reducible rfl|(simp only [Zz,Nat.reduceBEq];done)|rfl))|((with_reducible refine Qj (o':=?_) ?_ ?_ ?_);rotate_left 1;focus rfl)|((with_reducible refine Qw ?_ ?_);(focus (first|with_reducible rfl|(simp only [Zv,eSp];done)));focus (first|exact id|exact (fun h => nomatch h)|exact (fun _ => rfl)))))
    ·have hs:sgn (cmpS (xf,xg) (zf,zg)) = 0:=by rw [hc];rfl
     have hwk:=w64_eq (n:=zn + k) (by omega)
     have hp:putN cmpS L k (xf,xg) = o ++ [((zf,zg),zn + k)] ++ L.drop (i + 1):=by
      rw [hpa,ho];unfold putN;rw [if_neg (show ¬ cmpS (xf,xg) (zf,zg) < 0 by omega),if_pos hc];simp
     repeat' (first|with_reducible (first|refine Q1 ?_|refine Q2 ?_|refine Q3 ?_|refine Q4 ?_|refine Q5 ?_|refine Q6 ?_|refine Q7 ?_|refine Q8 ?_|refine Q9 ?_|refine Qa ?_|refine Qb ?_|refine Qc ?_|refine Qd ?_|refine Qe ?_|refine Qf ?_)|((with_reducible refine Qo ?_ ?_);focus rfl)|((with_reducible first|refine QT 10 (l:=?_) ?_ ?_|refine QF 10 (l:=?_) ?_ ?_);rotate_left 1;focus (simp only [Zu,Nat.reduceSub,Nat.reduceBEq];with_reducible rfl))|((with_reducible first|refine QS (cfg_ok 54) TPutN (s':=?_) ?_ ?_|refine QC (b:=?_) ?_ ?_);rotate_left 1;focus ((with_reducible refine QW ?_);simp only [Zg,seval,Nat.reduceEqDiff,TPutN,TPutN,i1,i2,hg,hw,hwk,q1,q2,Int.toNat_natCast,List.length_map];with_reducible rfl))|((with_reducible refine QD (cfg_ok 54) TPutN mixed_ok (tr:=?_) (s':=?_) ?_ ?_ ?_);rotate_left 2;(focus ((with_reducible refine QW ?_);simp only [Zg,Zd,seval,Nat.reduceEqDiff,TPutN,TPutN,codSp_d,i1,i2,hg,hs,hff,hzz,Int.toNat_natCast,List.length_map];with_reducible rfl));focus ((with_reducible refine QK ?_);simp only [Zk];kernel_rfl)))
     refine roundK.on (i + 1,true,o ++ [((zf,zg),zn + k)]) ?_ ?_
     refine ⟨⟨h,(fun h => nomatch h),fun _ => hp.symm,?_⟩,?_⟩
     ·simp;omega
     ·show L.length - (i + 1) < L.length - i;omega
     ·(repeat' (first|with_reducible refine Qn|((with_reducible refine Qr ?_ ?_);focus (first|with_reducible rfl|(simp only [Zz,Nat.reduceBEq];done)|rfl))|((with_reducible refine Qj (o':=?_) ?_ ?_ ?_);rotate_left 1;focus rfl)|((with_reducible refine Qw ?_ ?_);(focus (first|with_reducible rfl|(simp only [Zv,eSp];done)));focus (first|exact id|exact (fun h => nomatch h)|exact (fun _ => rfl)))))
    ·have hs:=sgn_pos hc
     repeat' (first|with_reducible (first|refine Q1 ?_|refine Q2 ?_|refine Q3 ?_|refine Q4 ?_|refine Q5 ?_|refine Q6 ?_|refine Q7 ?_|refine Q8 ?_|refine Q9 ?_|refine Qa ?_|refine Qb ?_|refine Qc ?_|refine Qd ?_|refine Qe ?_|refine Qf ?_)|((with_reducible refine Qo ?_ ?_);focus rfl)|((with_reducible first|refine QT 10 (l:=?_) ?_ ?_|refine QF 10 (l:=?_) ?_ ?_);rotate_left 1;focus (simp only [Zu,Nat.reduceSub,Nat.reduceBEq];with_reducible rfl))|((with_reducible first|refine QS (cfg_ok 54) TPutN (s':=?_) ?_ ?_|refine QC (b:=?_) ?_ ?_);rotate_left 1;focus ((with_reducible refine QW ?_);simp only [Zg,seval,Nat.reduceEqDiff,TPutN,TPutN,z10,i1,i2,hg,hw,q1,q2,Int.toNat_natCast,List.length_map];with_reducible rfl))|((with_reducible refine QD (cfg_ok 54) TPutN mixed_ok (tr:=?_) (s':=?_) ?_ ?_ ?_);rotate_left 2;(focus ((with_reducible refine QW ?_);simp only [Zg,Zd,seval,Nat.reduceEqDiff,TPutN,TPutN,codSp_d,i1,i2,hg,hs,hff,hzz,Int.toNat_natCast,List.length_map];with_reducible rfl));focus ((with_reducible refine QK ?_);simp only [Zk];kernel_rfl)))
     refine roundK.on (i + 1,false,o ++ [((zf,zg),zn)]) ?_ ?_
     refine ⟨⟨h,fun _ => ⟨by rw [htk,ho],?_⟩,(fun h => nomatch h),?_⟩,?_⟩
     ·intro q hq
      have hq:q ∈ L.take (i + 1):=hq
      rw [htk,List.mem_append,List.mem_singleton] at hq
      rcases hq with hq|rfl
      ·exact hlow q hq
      ·exact hc
     ·simp;omega
     ·show L.length - (i + 1) < L.length - i;omega
     ·(repeat' (first|with_reducible refine Qn|((with_reducible refine Qr ?_ ?_);focus (first|with_reducible rfl|(simp only [Zz,Nat.reduceBEq];done)|rfl))|((with_reducible refine Qj (o':=?_) ?_ ?_ ?_);rotate_left 1;focus rfl)|((with_reducible refine Qw ?_ ?_);(focus (first|with_reducible rfl|(simp only [Zv,eSp];done)));focus (first|exact id|exact (fun h => nomatch h)|exact (fun _ => rfl)))))
  ·have i1:((i:Int) < (L.length:Int)) = False:=eq_false (by omega)
   obtain rfl:i = L.length:=by omega
   repeat' (first|with_reducible (first|refine Q1 ?_|refine Q2 ?_|refine Q3 ?_|refine Q4 ?_|refine Q5 ?_|refine Q6 ?_|refine Q7 ?_|refine Q8 ?_|refine Q9 ?_|refine Qa ?_|refine Qb ?_|refine Qc ?_|refine Qd ?_|refine Qe ?_|refine Qf ?_)|((with_reducible refine Qo ?_ ?_);focus rfl)|((with_reducible first|refine QT 10 (l:=?_) ?_ ?_|refine QF 10 (l:=?_) ?_ ?_);rotate_left 1;focus (simp only [Zu,Nat.reduceSub,Nat.reduceBEq];with_reducible rfl))|((with_reducible first|refine QS (cfg_ok 54) Tab.none (s':=?_) ?_ ?_|refine QC (b:=?_) ?_ ?_);rotate_left 1;focus ((with_reducible refine QW ?_);simp only [Zg,seval,Nat.reduceEqDiff,i1,List.length_map];with_reducible rfl))|((with_reducible refine QD (cfg_ok 54) Tab.none mixed_ok (tr:=?_) (s':=?_) ?_ ?_ ?_);rotate_left 2;(focus ((with_reducible refine QW ?_);simp only [Zg,Zd,seval,if_true,if_false,reduceCtorEq,Nat.reduceEqDiff,i1,List.length_map];with_reducible rfl));focus ((with_reducible refine QK ?_);simp only [Zk];kernel_rfl)))
   refine roundK.out (d,o) ⟨Nat.le_refl _,hno,hyes,hlen⟩ ?_
   (repeat' (first|with_reducible refine Qn|((with_reducible refine Qr ?_ ?_);focus (first|with_reducible rfl|(simp only [Zz,Nat.reduceBEq];done)|rfl))|((with_reducible refine Qj (o':=?_) ?_ ?_ ?_);rotate_left 1;focus rfl)|((with_reducible refine Qw ?_ ?_);(focus (first|with_reducible rfl|(simp only [Zv];done)));focus (first|exact id|exact (fun h => nomatch h)|exact (fun _ => rfl)))))
 ·rintro ⟨d,o⟩ ⟨_,hno,hyes,hlen⟩
  simp only at hno hyes hlen ⊢
  have q1:=big_le (n:=o.length + 1) (by omega)
  have q2:=big_mul (n:=o.length + 1) (c:=56) (by omega) (by omega)
  cases d with
  | true =>
   have hp:putN cmpS L k (xf,xg) = o:=by rw [← hyes rfl];simp
   rw [hp]
   repeat' (first|with_reducible (first|refine Q1 ?_|refine Q2 ?_|refine Q3 ?_|refine Q4 ?_|refine Q5 ?_|refine Q6 ?_|refine Q7 ?_|refine Q8 ?_|refine Q9 ?_|refine Qa ?_|refine Qb ?_|refine Qc ?_|refine Qd ?_|refine Qe ?_|refine Qf ?_)|((with_reducible refine Qo ?_ ?_);focus rfl)|((with_reducible first|refine QT 10 (l:=?_) ?_ ?_|refine QF 10 (l:=?_) ?_ ?_);rotate_left 1;focus (simp only [Zu,Nat.reduceSub,Nat.reduceBEq];with_reducible rfl))|((with_reducible first|refine QS (cfg_ok 54) Tab.none (s':=?_) ?_ ?_|refine QC (b:=?_) ?_ ?_);rotate_left 1;focus ((with_reducible refine QW ?_);simp only [Zg,seval,Nat.reduceEqDiff];with_reducible rfl))|((with_reducible refine QD (cfg_ok 54) Tab.none mixed_ok (tr:=?_) (s':=?_) ?_ ?_ ?_);rotate_left 2;(focus ((with_reducible refine QW ?_);simp only [Zg,Zd,seval,if_true,if_false,reduceCtorEq,Nat.reduceEqDiff];with_reducible rfl));focus ((with_reducible refine QK ?_);simp only [Zk];kernel_rfl)))
   (refine Ends.mk (by simp) (rs:=?_) (ks:=?_) hres hrts ?_ ?_ ?_;rotate_left 2;(focus (simp only [Ze,Zg,seval,Nat.reduceEqDiff];with_reducible rfl));(focus simp);focus (first|with_reducible rfl|(simp only [Zv];done)))
  | false =>
   obtain ⟨ho,hlow⟩:=hno rfl
   have hp:putN cmpS L k (xf,xg) = o ++ [((xf,xg),k)]:=by
    have h1:=putN_skip (k:=k) [] hlow
    rw [List.append_nil,List.take_length] at h1
    rw [h1,ho,List.take_length]
    rfl
   rw [hp]
   repeat' (first|with_reducible (first|refine Q1 ?_|refine Q2 ?_|refine Q3 ?_|refine Q4 ?_|refine Q5 ?_|refine Q6 ?_|refine Q7 ?_|refine Q8 ?_|refine Q9 ?_|refine Qa ?_|refine Qb ?_|refine Qc ?_|refine Qd ?_|refine Qe ?_|refine Qf ?_)|((with_reducible refine Qo ?_ ?_);focus rfl)|((with_reducible first|refine QT 10 (l:=?_) ?_ ?_|refine QF 10 (l:=?_) ?_ ?_);rotate_left 1;focus (simp only [Zu,Nat.reduceSub,Nat.reduceBEq];with_reducible rfl))|((with_reducible first|refine QS (cfg_ok 54) TPutN (s':=?_) ?_ ?_|refine QC (b:=?_) ?_ ?_);rotate_left 1;focus ((with_reducible refine QW ?_);simp only [Zg,seval,Nat.reduceEqDiff,TPutN,q1,q2,List.length_map];with_reducible rfl))|((with_reducible refine QD (cfg_ok 54) TPutN mixed_ok (tr:=?_) (s':=?_) ?_ ?_ ?_);rotate_left 2;(focus ((with_reducible refine QW ?_);simp only [Zg,Zd,seval,if_true,if_false,reduceCtorEq,Nat.reduceEqDiff,TPutN,q1,q2,List.length_map];with_reducible rfl));focus ((with_reducible refine QK ?_);simp only [Zk];kernel_rfl)))
   (refine Ends.mk (by simp) (rs:=?_) (ks:=?_) hres hrts ?_ ?_ ?_;rotate_left 2;(focus (simp only [Ze,Zg,seval,Nat.reduceEqDiff];with_reducible rfl));(focus simp);focus (first|with_reducible rfl|(simp only [Zv,eSp];done)))
def sumN (P:List (Spl × Int)):List (Spl × Int):=P.foldl (fun s p => putN cmpS s p.2 p.1) []
theorem sumN_snoc (P:List (Spl × Int)) (p:Spl × Int):sumN (P ++ [p]) = putN cmpS (sumN P) p.2 p.1:=by unfold sumN;rw [List.foldl_append];rfl
theorem sumN_is {P:List (Spl × Int)} (h:∀ p ∈ P,1 ≤ p.2):IsN cmpS (sumN P) (expN P):=by
 have:=IsN.puts cmpS_cmp P (IsN.nil (c:=cmpS)) h
 rw [List.nil_append] at this
 exact this
theorem sumN_ok {P:List (Spl × Int)} (hP:∀ q ∈ P,1 ≤ q.2∧SmS q.1) (hn:(expN P).length ≤ 1000000):(sumN P).length ≤ 1000000∧∀ q ∈ sumN P,(1 ≤ q.2∧q.2 ≤ 1000000000)∧SmS q.1:=by
 have h:=sumN_is (fun p hp => (hP p hp).1)
 refine ⟨Nat.le_trans h.len hn,fun q hq => ?_⟩
 have h1:=h.cnt q hq
 obtain ⟨r,hr,e⟩:=expN_mem (h.key q hq)
 exact ⟨⟨h1.1,by omega⟩,e ▸ (hP r hr).2⟩
def prodN (A B:List (Spl × Int)):List (Spl × Int):=A.flatMap fun a => B.map fun b => (mulS a.1 b.1,a.2 * b.2)
theorem times_sum (A B:List (Spl × Int)):timesN cmpS mulS A B = sumN (prodN A B):=rfl
theorem prodN_len {A B:List (Spl × Int)} (hA:∀ p ∈ A,1 ≤ p.2) (hB:∀ p ∈ B,1 ≤ p.2):(expN (prodN A B)).length = (expN A).length * (expN B).length:=by
 unfold prodN
 rw [(exp_prod mulS B hB A hA).length_eq]
 generalize expN A = X
 induction X with
 | nil => simp
 | cons x X ih => rw [List.flatMap_cons,List.length_append,ih,List.length_map,List.length_cons,Nat.succ_mul,Nat.add_comm]
theorem prodN_snoc (A B:List (Spl × Int)) (a:Spl × Int):prodN (A ++ [a]) B = prodN A B ++ B.map fun b => (mulS a.1 b.1,a.2 * b.2):=by simp [prodN]
theorem prodN_take {A B:List (Spl × Int)} {i:Nat} (h:i < A.length):∃ Y,prodN A B = (prodN (A.take i) B ++ B.map fun b => (mulS A[i].1 b.1,A[i].2 * b.2)) ++ Y:=by
 refine ⟨prodN (A.drop (i + 1)) B,?_⟩
 rw [← prodN_snoc,← List.take_succ_eq_append_getElem h]
 unfold prodN
 rw [← List.flatMap_append,List.take_append_drop]
noncomputable def TTmN:Tab Tryz.prog :=
 (Tab.none.add 186 (tab2 codLL codLL fun f g => if HaF f∧HaF g then some [.val (.sl 1 ((mulF f g).map eL))] else none) (tab2_ok fun f g rs h => by
  split at h
  ·rename_i hs
   cases h
   exact AFn.valT (a_l03Times f g (by have:=hs.1.1;omega) (fun b hb => by have:=sumLen_mem hb;have:=hs.1.2;omega) (by have:=hs.2.1;omega) (fun b hb => by have:=sumLen_mem hb;have:=hs.2.2;omega))
  ·cases h)).add
  209 (tab2 (codS 3 codSp) codSp fun L p => if L.length ≤ 1000000∧(∀ q ∈ L,(1 ≤ q.2∧q.2 ≤ 1000000000)∧SmS q.1)∧(1 ≤ p.2∧p.2 ≤ 1000000000)∧SmS p.1 then some [.val (.sl 3 ((putN cmpS L p.2 p.1).map eSp))] else none) (tab2_ok fun L p rs h => by
  split at h
  ·rename_i hs
   cases h
   exact a_l05Put L p.2 p.1 hs.1 hs.2.1 hs.2.2.1 hs.2.2.2
  ·cases h)
set_option maxRecDepth 20000 in
set_option maxHeartbeats 8000000 in
theorem a_l05Times (A B:List (Spl × Int)) (hA:∀ p ∈ A,1 ≤ p.2∧HaS p.1) (hB:∀ p ∈ B,1 ≤ p.2∧HaS p.1) (nA:(expN A).length ≤ 1000) (nB:(expN B).length ≤ 1000) :
  AFn Tryz.prog 169 [[.sl 3 (A.map eSp)],[.sl 3 (B.map eSp)]] (· = [.val (.sl 3 ((timesN cmpS mulS A B).map eSp))]):=by
 rw [times_sum]
 have cA:∀ p ∈ A,p.2 ≤ 1000:=fun p hp => by
  obtain ⟨s,t,rfl⟩:=List.append_of_mem hp
  rw [expN_app,expN_cons,List.length_append,List.length_append,List.length_replicate] at nA
  omega
 have cB:∀ p ∈ B,p.2 ≤ 1000:=fun p hp => by
  obtain ⟨s,t,rfl⟩:=List.append_of_mem hp
  rw [expN_app,expN_cons,List.length_append,List.length_append,List.length_replicate] at nB
  omega
 have len1:∀ (L:List (Spl × Int)),(∀ p ∈ L,1 ≤ p.2)→L.length ≤ (expN L).length:=by
  intro L
  induction L with
  | nil => intro _;exact Nat.le_refl _
  | cons p L ih =>
   intro hp
   have h1:=hp p (by simp)
   have h2:=ih (fun q hq => hp q (by simp [hq]))
   rw [expN_cons,List.length_append,List.length_replicate,List.length_cons];omega
 have lA:A.length ≤ 1000:=Nat.le_trans (len1 A (fun p hp => (hA p hp).1)) nA
 have lB:B.length ≤ 1000:=Nat.le_trans (len1 B (fun p hp => (hB p hp).1)) nB
 have hP:∀ q ∈ prodN A B,1 ≤ q.2∧SmS q.1:=fun q hq => by
  obtain ⟨a,ha,hq⟩:=List.mem_flatMap.1 hq
  obtain ⟨b,hb,rfl⟩:=List.mem_map.1 hq
  exact ⟨Int.mul_pos (hA a ha).1 (hB b hb).1,(hA a ha).2.mul (hB b hb).2⟩
 have hN:(expN (prodN A B)).length ≤ 1000000:=by
  rw [prodN_len (fun p hp => (hA p hp).1) (fun p hp => (hB p hp).1)]
  exact Nat.le_trans (Nat.mul_le_mul nA nB) (by decide)
 have hpre:∀ X Y,prodN A B = X ++ Y→(sumN X).length ≤ 1000000∧∀ q ∈ sumN X,(1 ≤ q.2∧q.2 ≤ 1000000000)∧SmS q.1:=fun X Y e =>
  sumN_ok (fun q hq => hP q (by rw [e];simp [hq])) (by rw [e,expN_app,List.length_append] at hN;omega)
 refine AFn.of_runs (cfg_ok 58) Tryz.func169 rfl rfl rfl (by simp only [List.length_cons,List.length_nil];decide) ?_
 have hres:Tryz.f169.results.toList = [.tmp 4]:=rfl
 have hrts:Tryz.f169.resultTypes.toList = [50]:=rfl
 simp only [argRegs,argAV1,Nat.zero_add]
 intro M
 refine RunK.of ?_
 repeat' (first|with_reducible (first|refine Q1 ?_|refine Q2 ?_|refine Q3 ?_|refine Q4 ?_|refine Q5 ?_|refine Q6 ?_|refine Q7 ?_|refine Q8 ?_|refine Q9 ?_|refine Qa ?_|refine Qb ?_|refine Qc ?_|refine Qd ?_|refine Qe ?_|refine Qf ?_)|((with_reducible refine Qo ?_ ?_);focus rfl)|((with_reducible first|refine QT 8 (l:=?_) ?_ ?_|refine QF 8 (l:=?_) ?_ ?_);rotate_left 1;focus (simp only [Zu,Nat.reduceSub,Nat.reduceBEq];with_reducible rfl))|((with_reducible first|refine QS (cfg_ok 58) Tab.none (s':=?_) ?_ ?_|refine QC (b:=?_) ?_ ?_);rotate_left 1;focus ((with_reducible refine QW ?_);simp only [Zg,seval,Nat.reduceEqDiff];with_reducible rfl))|((with_reducible refine QD (cfg_ok 58) Tab.none mixed_ok (tr:=?_) (s':=?_) ?_ ?_ ?_);rotate_left 2;(focus ((with_reducible refine QW ?_);simp only [Zg,Zd,seval,if_true,if_false,reduceCtorEq,Nat.reduceEqDiff];with_reducible rfl));focus ((with_reducible refine QK ?_);simp only [Zk];kernel_rfl)))
 refine RunK.frz 5 ?_
 refine RunK.fits (s0:=⟨[(0,.c (.val (.sl 3 (A.map eSp)))),(1,.c (.val (.sl 3 (B.map eSp)))),(5,.c (.val (.sl 3 []))),(6,.c (.val (.int 0)))],[]⟩) ?_ ?_
 ·(repeat' (first|with_reducible refine Qn|((with_reducible refine Qr ?_ ?_);focus (first|with_reducible rfl|(simp only [Zz,St.frz,frzR,look,AV.frz,AC.frz,drop];done)|rfl))|((with_reducible refine Qj (o':=?_) ?_ ?_ ?_);rotate_left 1;focus rfl)|((with_reducible refine Qw ?_ ?_);(focus (first|with_reducible rfl|(simp only [Zv,St.frz,frzR,frzH,look,AV.frz,AC.frz,drop];done)));focus (first|exact id|exact (fun h => nomatch h)|exact (fun _ => rfl)))))
 refine RunK.loop (β:=Nat) (γ:=Unit) (fun i => ⟨[(0,.c (.val (.sl 3 (A.map eSp)))),(1,.c (.val (.sl 3 (B.map eSp)))),(5,.c (.val (.sl 3 ((sumN (prodN (A.take i) B)).map eSp)))),(6,.c (.val (.int i)))],[]⟩) (fun i => i ≤ A.length) (fun i => A.length - i)
  (fun _ => ⟨[(5,.c (.val (.sl 3 ((sumN (prodN A B)).map eSp))))],[]⟩) (fun _ => True) 0 (Nat.zero_le _) ?_ ?_ ?_
 ·(repeat' (first|with_reducible refine Qn|((with_reducible refine Qr ?_ ?_);focus (first|with_reducible rfl|(simp only [Zz,Nat.reduceBEq,List.take_zero,show prodN [] B = [] from rfl,show sumN [] = [] from rfl,List.map_nil,Int.natCast_zero];done)|rfl))|((with_reducible refine Qj (o':=?_) ?_ ?_ ?_);rotate_left 1;focus rfl)|((with_reducible refine Qw ?_ ?_);(focus (first|with_reducible rfl|(simp only [Zv,List.take_zero,show prodN [] B = [] from rfl,show sumN [] = [] from rfl,List.map_nil,Int.natCast_zero];done)));focus (first|exact id|exact (fun h => nomatch h)|exact (fun _ => rfl)))))
 ·intro i hi
  have hi:i ≤ A.length:=hi
  have hw:=w64_succ (n:=i) (by omega)
  by_cases h:i < A.length
  ·have i1:((i:Int) < (A.length:Int)) = True:=eq_true (by omega)
   have i2:((0:Int) ≤ (i:Int)) = True:=eq_true (by omega)
   obtain ⟨z,hz⟩:∃ z,z = A[i]:=⟨_,rfl⟩
   obtain ⟨hz1,hz2⟩:=hA A[i] (List.getElem_mem _)
   have hz3:=cA A[i] (List.getElem_mem _)
   obtain ⟨Y,hY⟩:=prodN_take (B:=B) h
   have hg:(A.map eSp)[i]? = some [.sl 1 (z.1.1.map eL),.sl 1 (z.1.2.map eL),.int z.2]:=by rw [map_get h,hz];rfl
   have htk:prodN (A.take (i + 1)) B = prodN (A.take i) B ++ B.map fun b => (mulS z.1 b.1,z.2 * b.2):=by
    rw [hz,List.take_succ_eq_append_getElem h,prodN_snoc]
   rw [← hz] at hz1 hz2 hz3 hY
   obtain ⟨R,hR⟩:∃ R,R = prodN (A.take i) B:=⟨_,rfl⟩
   rw [← hR] at hY htk ⊢
   have hle:(A.map eSp).length = A.length:=List.length_map _
   repeat' (first|with_reducible (first|refine Q1 ?_|refine Q2 ?_|refine Q3 ?_|refine Q4 ?_|refine Q5 ?_|refine Q6 ?_|refine Q7 ?_|refine Q8 ?_|refine Q9 ?_|refine Qa ?_|refine Qb ?_|refine Qc ?_|refine Qd ?_|refine Qe ?_|refine Qf ?_)|((with_reducible refine Qo ?_ ?_);focus rfl)|((with_reducible first|refine QT 8 (l:=?_) ?_ ?_|refine QF 8 (l:=?_) ?_ ?_);rotate_left 1;focus (simp only [Zu,Nat.reduceSub,Nat.reduceBEq];with_reducible rfl))|((with_reducible first|refine QS (cfg_ok 58) Tab.none (s':=?_) ?_ ?_|refine QC (b:=?_) ?_ ?_);rotate_left 1;focus ((with_reducible refine QW ?_);simp only [Zg,seval,Nat.reduceEqDiff,i1,hle];with_reducible rfl))|((with_reducible refine QD (cfg_ok 58) Tab.none mixed_ok (tr:=?_) (s':=?_) ?_ ?_ ?_);rotate_left 2;(focus ((with_reducible refine QW ?_);simp only [Zg,Zd,seval,if_true,if_false,reduceCtorEq,Nat.reduceEqDiff,i1,i2,hle,Int.toNat_natCast];with_reducible rfl));focus ((with_reducible refine QK ?_);simp only [Zk];kernel_rfl)))
   refine RunK.loop (β:=Nat) (γ:=Unit) (fun j => ⟨[(0,.c (.val (.sl 3 (A.map eSp)))),(1,.c (.val (.sl 3 (B.map eSp)))),(5,.c (.val (.sl 3 ((sumN (R ++ (B.take j).map fun b => (mulS z.1 b.1,z.2 * b.2))).map eSp)))),(6,.c (.val (.int i))),(7,.c (.val (.int j)))],[]⟩) (fun j => j ≤ B.length) (fun j => B.length - j)
    (fun _ => ⟨[(0,.c (.val (.sl 3 (A.map eSp)))),(1,.c (.val (.sl 3 (B.map eSp)))),(5,.c (.val (.sl 3 ((sumN (R ++ B.map fun b => (mulS z.1 b.1,z.2 * b.2))).map eSp)))),(6,.c (.val (.int i)))],[]⟩) (fun _ => True) 0 (Nat.zero_le _) ?_ ?_ ?_
   ·(repeat' (first|with_reducible refine Qn|((with_reducible refine Qr ?_ ?_);focus (first|with_reducible rfl|(simp only [Zz,Nat.reduceBEq,List.take_zero,List.map_nil,List.append_nil,Int.natCast_zero];done)|rfl))|((with_reducible refine Qj (o':=?_) ?_ ?_ ?_);rotate_left 1;focus rfl)|((with_reducible refine Qw ?_ ?_);(focus (first|with_reducible rfl|(simp only [Zv,List.take_zero,List.map_nil,List.append_nil,Int.natCast_zero];done)));focus (first|exact id|exact (fun h => nomatch h)|exact (fun _ => rfl)))))
   ·intro j hj
    have hj:j ≤ B.length:=hj
    have hwj:=w64_succ (n:=j) (by omega)
    by_cases g:j < B.length
    ·have j1:((j:Int) < (B.length:Int)) = True:=eq_true (by omega)
     have j2:((0:Int) ≤ (j:Int)) = True:=eq_true (by omega)
     obtain ⟨y,hy⟩:∃ y,y = B[j]:=⟨_,rfl⟩
     obtain ⟨hy1,hy2⟩:=hB B[j] (List.getElem_mem _)
     have hy3:=cB B[j] (List.getElem_mem _)
     have hgj:(B.map eSp)[j]? = some [.sl 1 (y.1.1.map eL),.sl 1 (y.1.2.map eL),.int y.2]:=by rw [map_get g,hy];rfl
     have hst:(R ++ (B.take (j + 1)).map fun b => (mulS z.1 b.1,z.2 * b.2)) = (R ++ (B.take j).map fun b => (mulS z.1 b.1,z.2 * b.2)) ++ [(mulS z.1 y.1,z.2 * y.2)]:=by
      rw [hy,List.take_succ_eq_append_getElem g,List.map_append,List.append_assoc];rfl
     rw [← hy] at hy1 hy2 hy3
     have hsplit:prodN A B = (R ++ (B.take j).map fun b => (mulS z.1 b.1,z.2 * b.2)) ++ (((B.drop j).map fun b => (mulS z.1 b.1,z.2 * b.2)) ++ Y):=by
      rw [hY]
      conv => lhs;rw [← List.take_append_drop j B,List.map_append]
      simp only [List.append_assoc]
     obtain ⟨K,hK⟩:∃ K,K = R ++ (B.take j).map fun b => (mulS z.1 b.1,z.2 * b.2):=⟨_,rfl⟩
     rw [← hK] at hsplit hst ⊢
     have hKb:=hpre K _ hsplit
     have hej:(B.map eSp).length = B.length:=List.length_map _
     have hm0:1 ≤ z.2 * y.2:=Int.mul_pos hz1 hy1
     have hm1:z.2 * y.2 ≤ 1000000:=Int.mul_le_mul hz3 hy3 (by omega) (by decide)
     have hwm:=w64_eq (n:=z.2 * y.2) (by omega)
     have t1:=eq_true (And.intro hz2.1 hy2.1)
     have t2:=eq_true (And.intro hz2.2 hy2.2)
     have t3:=eq_true (And.intro hKb.1 (And.intro hKb.2 (And.intro (show 1 ≤ z.2 * y.2∧z.2 * y.2 ≤ 1000000000 by omega) (show SmS (mulF z.1.1 y.1.1,mulF z.1.2 y.1.2) from hz2.mul hy2))))
     repeat' (first|with_reducible (first|refine Q1 ?_|refine Q2 ?_|refine Q3 ?_|refine Q4 ?_|refine Q5 ?_|refine Q6 ?_|refine Q7 ?_|refine Q8 ?_|refine Q9 ?_|refine Qa ?_|refine Qb ?_|refine Qc ?_|refine Qd ?_|refine Qe ?_|refine Qf ?_)|((with_reducible refine Qo ?_ ?_);focus rfl)|((with_reducible first|refine QT 8 (l:=?_) ?_ ?_|refine QF 8 (l:=?_) ?_ ?_);rotate_left 1;focus (simp only [Zu,Nat.reduceSub,Nat.reduceBEq];with_reducible rfl))|((with_reducible first|refine QS (cfg_ok 58) TTmN (s':=?_) ?_ ?_|refine QC (b:=?_) ?_ ?_);rotate_left 1;focus ((with_reducible refine QW ?_);simp only [Zg,seval,Nat.reduceEqDiff,TTmN,TTmN,j1,hwj,hej];with_reducible rfl))|((with_reducible refine QD (cfg_ok 58) TTmN mixed_ok (tr:=?_) (s':=?_) ?_ ?_ ?_);rotate_left 2;(focus ((with_reducible refine QW ?_);simp only [Zg,Zd,seval,Nat.reduceEqDiff,TTmN,TTmN,codSp_d,codSps_d,i1,i2,j1,j2,hg,hgj,hle,hej,hwm,t1,t2,t3,Int.toNat_natCast];with_reducible rfl));focus ((with_reducible refine QK ?_);simp only [Zk];kernel_rfl)))
     refine roundK.on (j + 1) ⟨g,by omega⟩ ?_
     rw [hst,sumN_snoc]
     (repeat' (first|with_reducible refine Qn|((with_reducible refine Qr ?_ ?_);focus (first|with_reducible rfl|(simp only [Zz,Nat.reduceBEq,mulS];done)|rfl))|((with_reducible refine Qj (o':=?_) ?_ ?_ ?_);rotate_left 1;focus rfl)|((with_reducible refine Qw ?_ ?_);(focus (first|with_reducible rfl|(simp only [Zv,mulS];done)));focus (first|exact id|exact (fun h => nomatch h)|exact (fun _ => rfl)))))
    ·have j1:((j:Int) < (B.length:Int)) = False:=eq_false (by omega)
     obtain rfl:j = B.length:=by omega
     rw [List.take_length]
     repeat' (first|with_reducible (first|refine Q1 ?_|refine Q2 ?_|refine Q3 ?_|refine Q4 ?_|refine Q5 ?_|refine Q6 ?_|refine Q7 ?_|refine Q8 ?_|refine Q9 ?_|refine Qa ?_|refine Qb ?_|refine Qc ?_|refine Qd ?_|refine Qe ?_|refine Qf ?_)|((with_reducible refine Qo ?_ ?_);focus rfl)|((with_reducible first|refine QT 8 (l:=?_) ?_ ?_|refine QF 8 (l:=?_) ?_ ?_);rotate_left 1;focus (simp only [Zu,Nat.reduceSub,Nat.reduceBEq];with_reducible rfl))|((with_reducible first|refine QS (cfg_ok 58) Tab.none (s':=?_) ?_ ?_|refine QC (b:=?_) ?_ ?_);rotate_left 1;focus ((with_reducible refine QW ?_);simp only [Zg,seval,Nat.reduceEqDiff,j1,List.length_map];with_reducible rfl))|((with_reducible refine QD (cfg_ok 58) Tab.none mixed_ok (tr:=?_) (s':=?_) ?_ ?_ ?_);rotate_left 2;(focus ((with_reducible refine QW ?_);simp only [Zg,Zd,seval,if_true,if_false,reduceCtorEq,Nat.reduceEqDiff,j1,List.length_map];with_reducible rfl));focus ((with_reducible refine QK ?_);simp only [Zk];kernel_rfl)))
     refine roundK.out () trivial ?_
     (repeat' (first|with_reducible refine Qn|((with_reducible refine Qr ?_ ?_);focus (first|with_reducible rfl|(simp only [Zz,Nat.reduceBEq];done)|rfl))|((with_reducible refine Qj (o':=?_) ?_ ?_ ?_);rotate_left 1;focus rfl)|((with_reducible refine Qw ?_ ?_);(focus (first|with_reducible rfl|(simp only [Zv];done)));focus (first|exact id|exact (fun h => nomatch h)|exact (fun _ => rfl)))))
   ·rintro _ _
    repeat' (first|with_reducible (first|refine Q1 ?_|refine Q2 ?_|refine Q3 ?_|refine Q4 ?_|refine Q5 ?_|refine Q6 ?_|refine Q7 ?_|refine Q8 ?_|refine Q9 ?_|refine Qa ?_|refine Qb ?_|refine Qc ?_|refine Qd ?_|refine Qe ?_|refine Qf ?_)|((with_reducible refine Qo ?_ ?_);focus rfl)|((with_reducible first|refine QT 8 (l:=?_) ?_ ?_|refine QF 8 (l:=?_) ?_ ?_);rotate_left 1;focus (simp only [Zu,Nat.reduceSub,Nat.reduceBEq];with_reducible rfl))|((with_reducible first|refine QS (cfg_ok 58) Tab.none (s':=?_) ?_ ?_|refine QC (b:=?_) ?_ ?_);rotate_left 1;focus ((with_reducible refine QW ?_);simp only [Zg,seval,hw];with_reducible rfl))|((with_reducible refine QD (cfg_ok 58) Tab.none mixed_ok (tr:=?_) (s':=?_) ?_ ?_ ?_);rotate_left 2;(focus ((with_reducible refine QW ?_);simp only [Zg,Zd,seval,if_true,if_false,reduceCtorEq,Nat.reduceEqDiff,hw];with_reducible rfl));focus ((with_reducible refine QK ?_);simp only [Zk];kernel_rfl)))
    refine roundK.on (i + 1) ⟨h,by omega⟩ ?_
    rw [htk]
    (repeat' (first|with_reducible refine Qn|((with_reducible refine Qr ?_ ?_);focus (first|with_reducible rfl|(simp only [Zz,Nat.reduceBEq];done)|rfl))|((with_reducible refine Qj (o':=?_) ?_ ?_ ?_);rotate_left 1;focus rfl)|((with_reducible refine Qw ?_ ?_);(focus (first|with_reducible rfl|(simp only [Zv];done)));focus (first|exact id|exact (fun h => nomatch h)|exact (fun _ => rfl)))))
  ·have i1:((i:Int) < (A.length:Int)) = False:=eq_false (by omega)
   obtain rfl:i = A.length:=by omega
   rw [List.take_length]
   repeat' (first|with_reducible (first|refine Q1 ?_|refine Q2 ?_|refine Q3 ?_|refine Q4 ?_|refine Q5 ?_|refine Q6 ?_|refine Q7 ?_|refine Q8 ?_|refine Q9 ?_|refine Qa ?_|refine Qb ?_|refine Qc ?_|refine Qd ?_|refine Qe ?_|refine Qf ?_)|((with_reducible refine Qo ?_ ?_);focus rfl)|((with_reducible first|refine QT 8 (l:=?_) ?_ ?_|refine QF 8 (l:=?_) ?_ ?_);rotate_left 1;focus (simp only [Zu,Nat.reduceSub,Nat.reduceBEq];with_reducible rfl))|((with_reducible first|refine QS (cfg_ok 58) Tab.none (s':=?_) ?_ ?_|refine QC (b:=?_) ?_ ?_);rotate_left 1;focus ((with_reducible refine QW ?_);simp only [Zg,seval,Nat.reduceEqDiff,i1,List.length_map];with_reducible rfl))|((with_reducible refine QD (cfg_ok 58) Tab.none mixed_ok (tr:=?_) (s':=?_) ?_ ?_ ?_);rotate_left 2;(focus ((with_reducible refine QW ?_);simp only [Zg,Zd,seval,if_true,if_false,reduceCtorEq,Nat.reduceEqDiff,i1,List.length_map];with_reducible rfl));focus ((with_reducible refine QK ?_);simp only [Zk];kernel_rfl)))
   refine roundK.out () trivial ?_
   (repeat' (first|with_reducible refine Qn|((with_reducible refine Qr ?_ ?_);focus (first|with_reducible rfl|(simp only [Zz,Nat.reduceBEq];done)|rfl))|((with_reducible refine Qj (o':=?_) ?_ ?_ ?_);rotate_left 1;focus rfl)|((with_reducible refine Qw ?_ ?_);(focus (first|with_reducible rfl|(simp only [Zv];done)));focus (first|exact id|exact (fun h => nomatch h)|exact (fun _ => rfl)))))
 ·rintro _ _
  repeat' (first|with_reducible (first|refine Q1 ?_|refine Q2 ?_|refine Q3 ?_|refine Q4 ?_|refine Q5 ?_|refine Q6 ?_|refine Q7 ?_|refine Q8 ?_|refine Q9 ?_|refine Qa ?_|refine Qb ?_|refine Qc ?_|refine Qd ?_|refine Qe ?_|refine Qf ?_)|((with_reducible refine Qo ?_ ?_);focus rfl)|((with_reducible first|refine QT 8 (l:=?_) ?_ ?_|refine QF 8 (l:=?_) ?_ ?_);rotate_left 1;focus (simp only [Zu,Nat.reduceSub,Nat.reduceBEq];with_reducible rfl))|((with_reducible first|refine QS (cfg_ok 58) Tab.none (s':=?_) ?_ ?_|refine QC (b:=?_) ?_ ?_);rotate_left 1;focus ((with_reducible refine QW ?_);simp only [Zg,seval];with_reducible rfl))|((with_reducible refine QD (cfg_ok 58) Tab.none mixed_ok (tr:=?_) (s':=?_) ?_ ?_ ?_);rotate_left 2;(focus ((with_reducible refine QW ?_);simp only [Zg,Zd,seval,if_true,if_false,reduceCtorEq,Nat.reduceEqDiff];with_reducible rfl));focus ((with_reducible refine QK ?_);simp only [Zk];kernel_rfl)))
  (refine Ends.mk (by simp) (rs:=?_) (ks:=?_) hres hrts ?_ ?_ ?_;rotate_left 2;(focus (simp only [Ze,Zg,seval,Nat.reduceEqDiff];with_reducible rfl));(focus simp);focus (first|with_reducible rfl|(simp only [Zv];done)))
end Go.Proofs.YtgngidchldajhaaGreat
namespace Go.Proofs.YtgngidchldajhaaGreat
open Go.RowKit
theorem Row.take {w:World} {k n m cap:Nat} {ds:List Value} {og:Option Nat} (h:Row w (slv og n cap) k n ds og) (hm:m ≤ n):Row w (slv og m cap) k m (ds.take (m * k)) og:=by
 refine ⟨by rw [List.length_take,h.1];exact Nat.min_eq_left (Nat.mul_le_mul_right k hm),?_⟩
 rcases h.2 with ⟨h1,h2,h3⟩|⟨g,c,cur,e,h1,h2,h3,h4,h5,h6,h7⟩
 ·subst h3
  exact .inl ⟨rfl,by omega,rfl⟩
 ·subst h2
  have hc:cap = c:=by
   unfold slv at h1
   simp only [Value.slice.injEq] at h1
   exact h1.2.2
  subst hc
  refine .inr ⟨g,cap,cur,e,rfl,rfl,h3,by omega,h5,h6,?_⟩
  rw [← h7,List.take_take,Nat.min_eq_left (Nat.mul_le_mul_right k hm)]
section
variable {P:Program} {cfg:Cfg} {M:Nat→Prop} {w0:W0} {w w':World} {Ok:Nat→Prop} {N:Nat} {σ:Asg} {s:St} {a:Act} {ops:Array Oper}
theorem Sim.trunc (h:Sim w0 Ok N σ s a w) {key k n:Nat} {xs:List (List D)} {d:Bool} (hk:look key s.heap = some (.row k xs d)) (hn:n ≤ xs.length) (hnr:∀ q u,q ≠ key→look q s.heap = some u→key ∉ u.refs) :
  Sim w0 Ok N σ ⟨killR key s.regs,insR key (.row k (xs.take n) false) s.heap⟩ a w:=by
 have hro:=h.rows key _ hk
 obtain ⟨ds,hrow,hkp,hrd⟩:=RowOK.rd h.ok1 h.rows h.disj hk
 have hlen:(xs.take n).length = n:=by rw [List.length_take];omega
 have hfp0:∀ b ∈ fp σ key (.row k (xs.take n) false),b ∈ fp σ key (.row k xs d):=by
  intro b hb
  have hb:b ∈ (σ.g key).toList ++ []:=hb
  rw [List.append_nil] at hb
  exact List.mem_append_left _ hb
 have hl:∀ q o',look q (insR key (.row k (xs.take n) false) s.heap) = some o'→(q = key∧o' = .row k (xs.take n) false) ∨ (q ≠ key∧look q s.heap = some o'):=by
  intro q o' ho'
  rw [look_ins] at ho'
  split at ho'
  ·rename_i e;cases ho';exact .inl ⟨e.symm,rfl⟩
  ·rename_i e;exact .inr ⟨fun e' => e e'.symm,ho'⟩
 have hZ:Kept σ σ s.heap (insR key (.row k (xs.take n) false) s.heap) w w:=fun b hb => ⟨⟨hb.1,hb.2.1,fun q o' ho' => by
  rcases hl q o' ho' with ⟨rfl,_⟩|⟨_,ho⟩
  ·exact hb.2.2 q _ hk
  ·exact hb.2.2 q _ ho⟩,rfl⟩
 have hst:∀ q,q ≠ key→Stays σ σ s.heap (insR key (.row k (xs.take n) false) s.heap) q:=fun q hq o' ho' => by
  rcases hl q o' ho' with ⟨e,_⟩|⟨_,ho⟩
  ·exact absurd e hq
  ·exact ⟨o',ho,rfl,rfl,rfl,rfl⟩
 refine (h.killed key).step rfl h.below hZ (fun r av hr => ⟨av,hr,.inl ⟨rfl,fun q hq => hst q ?_⟩⟩) (fun q o' ho' => ?_) (fun p o1 q u hp hq hpq b hb hb' => ?_)
 ·have hr':look r (killR key s.regs) = some av:=hr
  rw [look_killR] at hr'
  obtain ⟨v,_,rfl⟩:=map_some hr'
  exact (AV.kill_refs hq).1
 ·rcases hl q o' ho' with ⟨rfl,rfl⟩|⟨hq,ho⟩
  ·refine ⟨⟨ds.take (n * k),?_,hkp,?_⟩,fun b hb => hro.fresh b (hfp0 b hb),?_⟩
   ·show Row w (slv (σ.g q) (xs.take n).length (σ.cap q)) k (xs.take n).length _ (σ.g q)
    rw [hlen]
    exact Row.take hrow hn
   ·show rdR k _ w _ (xs.take n)
    exact (hrd.take n hn).mono (fun b hb _ => (hZ b hb).1)
   ·show ((σ.g q).toList ++ []).Nodup
    rw [List.append_nil]
    cases σ.g q <;> simp
  ·exact RowOK.keep h.ok1 h.rows h.disj ho hZ (fun q' hq' => hst q' (fun e => hnr q o' hq ho (e ▸ hq'))) rfl rfl rfl (fun _ _ => rfl)
 ·have hp2:∃ o2,look p s.heap = some o2∧b ∈ fp σ p o2:=by
   rcases hl p o1 hp with ⟨rfl,rfl⟩|⟨_,ho⟩
   ·exact ⟨_,hk,hfp0 b hb⟩
   ·exact ⟨_,ho,hb⟩
  have hq2:∃ o2,look q s.heap = some o2∧b ∈ fp σ q o2:=by
   rcases hl q u hq with ⟨rfl,rfl⟩|⟨_,ho⟩
   ·exact ⟨_,hk,hfp0 b hb'⟩
   ·exact ⟨_,ho,hb'⟩
  obtain ⟨o2,ho2,hb2⟩:=hp2
  obtain ⟨u2,hu2,hb3⟩:=hq2
  exact h.disj p o2 q u2 ho2 hu2 hpq b hb2 hb3
theorem cellD_un {z d:D} {k:Nat} {xs:List (List D)} (h:d.un = .sl k xs):cellD z (.val d) = some (d,false):=by
 cases d with
 | sl => rfl
 | tag => rfl
 | int => cases h
 | bool => cases h
 | raw => cases h
theorem RunK.regCut (C:CfgOK P cfg) (T:Tab P) {fs:List Fr} {Q:Exit→St→Prop} {id:Nat} (n:Nat) {s1:St} (ha:Work (aopsT cfg T ops (ops.toList.take n) s) (some s1))
  (h:ROps P cfg M ops (ops.toList.drop n) (outK P cfg M fs Q .normal) s1):RunK P cfg M (.region id ops false) fs Q s:=by
 refine Runs.region ?_
 have e:ops.toList = ops.toList.take n ++ ops.toList.drop n:=(List.take_append_drop n _).symm
 have cut:∀ (l m:List Oper) (s:St),aopsT cfg T ops l s = some s1→ROps P cfg M ops m (outK P cfg M fs Q .normal) s1→ROps P cfg M ops (l ++ m) (outK P cfg M fs Q .normal) s:=by
  intro l
  induction l with
  | nil => intro m s h1 h2;simp only [aopsT,Option.some.injEq] at h1;subst h1;exact h2
  | cons o l ih =>
   intro m s h1 h2
   simp only [aopsT] at h1
   obtain ⟨s2,h3,h4⟩:=bind_some h1
   exact ROps.stepT C h3 (ih m s2 h4 h2)
 rw [e]
 exact cut _ _ s ha h
theorem ROps.trunc (C:CfgOK P cfg) {o:Oper} {l:List Oper} {Q:St→Prop} {x hi:Operand} {t:TypeId} {i:TyI} {d key m n k:Nat} {xs:List (List D)} {dd:Bool} (ho:o.op = .slice t x none (some hi) none) (hg:o.guard = none) (hd:o.dst = some d) (hdN:d < cfg.N)
  (ht:cfg.sl t = some i) (hx:opv s.regs x = some (.c (.own key m))) (hh:(opv s.regs hi).bind avI = some (n:Int)) (hk:look key s.heap = some (.row k xs dd)) (hle:n ≤ xs.length) (hnr:∀ q u,q ≠ key→look q s.heap = some u→key ∉ u.refs)
  (h:ROps P cfg M ops l Q ⟨insR d (.c (.own key n)) (killR key s.regs),insR key (.row k (xs.take n) false) s.heap⟩):ROps P cfg M ops (o :: l) Q s:=by
 intro w0 Ok σ a w Q' hM hS hQ
 refine wpList_step (fun K hK => ?_)
 have hw:awanted ops s.regs o = some true:=by unfold awanted;rw [hg]
 rw [awanted_spec hS hw]
 simp only [if_true]
 obtain ⟨z,T,_⟩:=C.sl t i ht
 obtain ⟨ti,hti,_,hsz,_⟩:=T.hi
 have hxr:=(opv_rel hS hx).2 _ hk
 obtain ⟨e1,e2⟩:=hxr
 have e1:m = xs.length:=e1
 obtain ⟨hv,h3,h4⟩:=bind_some hh
 have hhi:a.eval hi = .int .i64 n:=(rdV_int.1 (show rdV (Zn σ s.heap w) w (a.eval hi) (.int n) by
  have hr:=opv_rel hS h3
  unfold avI at h4
  split at h4
  ·cases h4;exact hr.2
  ·cases h4)).1
 have hro:=hS.rows key _ hk
 obtain ⟨ds,hrow,_⟩:=hro.row
 have hrow:Row w (slv (σ.g key) xs.length (σ.cap key)) k xs.length ds (σ.g key):=hrow
 obtain ⟨oa,c,ev,k1,k2,k3,k4⟩:=slv_len hrow
 have hxe:a.eval x = .slice oa m c:=by rw [e2,e1];exact ev
 have hrun:(execOp a.eval o).run P w = .ok (.value (slv (σ.g key) n (σ.cap key))) w:=by
  unfold execOp
  rw [ho]
  have:=run_sliceSl (P:=P) T.ht ⟨ti,hti,hsz⟩ (oa:=oa) (m:=m) (c:=c) (lo:=none) (hi:=some (n:Int)) (by simp) (by simp) (by simp;omega) (by rw [e1];exact k1) w
  simp only [Option.getD_none,Option.getD_some,Option.map_none,Option.map_some] at this
  rw [show (0:Int).toNat = 0 from rfl,Int.toNat_natCast,Nat.sub_zero,Nat.sub_zero,Nat.zero_mul] at this
  have hval:(Value.slice (if c = 0 then oa else oa.map (·.add 0)) n c) = slv (σ.g key) n (σ.cap key):=by
   cases hgk:σ.g key with
   | none =>
    rw [hgk] at k4 hrow
    have h0:=hrow.len0
    have hoa:oa = none:=k4
    have hc0:=k3 hoa
    subst hoa
    have:n = 0:=by omega
    subst this;subst hc0
    rfl
   | some b =>
    rw [hgk] at k4 ev
    have hoa:oa = some ⟨b,0,none⟩:=k4
    unfold slv at ev
    simp only [Value.slice.injEq] at ev
    rw [hoa,← ev.2.2]
    simp [slv,Addr.add]
  rw [← hval]
  simp only [hxe,hhi,Option.map_none,Option.map_some]
  simp [this]
 unfold Oper.wp
 rw [hrun]
 show K (a.put o.dst _) _
 rw [hd]
 have hS2:=hS.trunc hk hle hnr
 refine hK _ _ (h w0 Ok σ _ _ Q' hM (Sim.ins hS2 hdN ⟨by cases σ.g key <;> rfl,fun o' ho' => ?_⟩) hQ)
 rw [look_ins,if_pos rfl] at ho'
 cases ho'
 have hlen:(xs.take n).length = n:=by rw [List.length_take];omega
 exact ⟨hlen.symm,rfl⟩
theorem ROps.clear (C:CfgOK P cfg) {o:Oper} {l:List Oper} {Q:St→Prop} {x:Operand} {t:TypeId} {i:TyI} {key j m k:Nat} {xs:List (List D)} {dd:Bool} (ho:o.op = .call ⟨.builtin .clear,#[x],#[t]⟩) (hg:o.guard = none) (hd:o.dst = none)
  (ht:cfg.sl t = some i) (hx:opv s.regs x = some (.c (.view key j m))) (hk:look key s.heap = some (.row k xs dd)) (hki:k = i.z.length) (hle:j + m = xs.length)
  (h:ROps P cfg M ops l Q ⟨s.regs,insR key (.row k (xs.take j ++ List.replicate m i.z) false) s.heap⟩):ROps P cfg M ops (o :: l) Q s:=by
 intro w0 Ok σ a w Q' hM hS hQ
 refine wpList_step (fun K hK => ?_)
 have hw:awanted ops s.regs o = some true:=by unfold awanted;rw [hg]
 rw [awanted_spec hS hw]
 simp only [if_true]
 obtain ⟨z,T,hz⟩:=C.sl t i ht
 obtain ⟨_,oa,c,ev,v1,v2,v3,v4⟩:=(opv_rel hS hx).2 _ hk
 have hro:=hS.rows key _ hk
 obtain ⟨ds,hrow,hkp,hrd⟩:=RowOK.rd hS.ok1 hS.rows hS.disj hk
 have hlen:(xs.take j ++ List.replicate m i.z).length = xs.length:=by simp;omega
 obtain ⟨W,hrun,hR,hgr⟩:∃ W,(execOp a.eval o).run P w = .ok (.value (.tuple #[])) W∧Row W (slv (σ.g key) xs.length (σ.cap key)) k xs.length (ds.take (j * k) ++ (List.replicate m (i.z.map zval)).flatten) (σ.g key)∧w.grownBy W (σ.g key):=by
  rcases v4 with rfl|⟨b,hgb,rfl⟩
  ·refine ⟨w,?_,?_,World.grownBy.refl _ _⟩
   ·unfold execOp
    rw [ho]
    cases oa <;> simp [resolve,invoke,builtin,ev,Builtin.clear_,run_underlying T.ht]
   ·have:ds.take (j * k) = ds:=List.take_of_length_le (by rw [hrow.1];simp at hle;rw [hle];exact Nat.le_refl _)
    rw [this];simpa using hrow
  ·rw [hgb] at hrow ⊢
   have ev:a.eval x = .slice (some ⟨b,j * k,none⟩) m c:=ev
   obtain ⟨cs,hcs⟩:∃ cs,cs = (Builtin.zeroCells z.cells m).toList:=⟨_,rfl⟩
   have hcs2:cs = (List.replicate m (i.z.map zval)).flatten:=by
    rw [hcs,← madeCells_rep hz T.hk m]
    have hs:z.cells.size = i.z.length:=by rw [← Array.length_toList,hz.1,List.length_map]
    unfold Builtin.zeroCells madeCells
    rw [hs]
   have hcl:cs.length = m * k:=by rw [hcs2,hki];simp
   have hone:∀ v ∈ cs,v.oneCell' = true:=by
    intro v hv
    rw [hcs2] at hv
    have:=(rep_own hz.2 T.hk w m).rd.one
    exact this v hv
   have hoff:j * k + cs.length ≤ ds.length:=by rw [hrow.1,hcl,← Nat.add_mul,hle];exact Nat.le_refl _
   obtain ⟨r1,r2⟩:=Row.storeCells cs (j * k) hrow hoff
   refine ⟨w.setCells b (j * k) cs,?_,?_,r2⟩
   ·have hst:=run_storeCells_cells (P:=P) b (j * k) cs 0 w (fun q hq => by
     rw [Nat.add_zero]
     have hlt:j * k + q < ds.length:=by omega
     rw [hrow.cells (j * k + q) ds[j * k + q] (List.getElem?_eq_getElem hlt)];rfl) (fun q hq => hrow.frozen _) hone
    rw [Nat.add_zero] at hst
    unfold execOp
    rw [ho]
    cases m with
    | zero =>
     have:cs = []:=by rw [hcs2];rfl
     subst this
     simp [resolve,invoke,builtin,ev,Builtin.clear_,run_underlying T.ht]
     rfl
    | succ m =>
     obtain ⟨ti,hti,hzz,hsz,_⟩:=T.hi
     simp [resolve,invoke,builtin,ev,Builtin.clear_,run_underlying T.ht,zeroValue,typeInfo,hti,hzz,← hcs,hst]
   ·rw [hcs2] at r1 ⊢
    have e:splice ds (j * k) ((List.replicate m (i.z.map zval)).flatten) = ds.take (j * k) ++ (List.replicate m (i.z.map zval)).flatten:=by
     unfold splice
     rw [List.drop_of_length_le (by rw [hrow.1,← hcs2,hcl,← Nat.add_mul,hle];exact Nat.le_refl _),List.append_nil]
    rw [e] at r1
    exact r1
 unfold Oper.wp
 rw [hrun]
 show K (a.put o.dst _) _
 rw [hd]
 have hl:∀ q o',look q (insR key (.row k (xs.take j ++ List.replicate m i.z) false) s.heap) = some o'→(q = key∧o' = .row k (xs.take j ++ List.replicate m i.z) false) ∨ (q ≠ key∧look q s.heap = some o'):=by
  intro q o' ho'
  rw [look_ins] at ho'
  split at ho'
  ·rename_i e;cases ho';exact .inl ⟨e.symm,rfl⟩
  ·rename_i e;exact .inr ⟨fun e' => e e'.symm,ho'⟩
 have hblk:∀ b,b < w.heap.size→σ.g key ≠ some b→W.heap[b]? = w.heap[b]?:=fun b hb hne => hgr.block b hb (fun e => hne e.symm)
 have hZ:Kept σ σ s.heap (insR key (.row k (xs.take j ++ List.replicate m i.z) false) s.heap) w W:=fun b hb => ⟨⟨Nat.lt_of_lt_of_le hb.1 hgr.size,hb.2.1,fun q o' ho' => by
  rcases hl q o' ho' with ⟨rfl,_⟩|⟨_,ho⟩
  ·exact hb.2.2 q _ hk
  ·exact hb.2.2 q _ ho⟩,hblk b hb.1 (hb.2.2 key _ hk)⟩
 have hst:∀ q,Stays σ σ s.heap (insR key (.row k (xs.take j ++ List.replicate m i.z) false) s.heap) q:=fun q o' ho' => by
  rcases hl q o' ho' with ⟨rfl,rfl⟩|⟨_,ho⟩
  ·exact ⟨_,hk,rfl,hlen.symm,rfl,rfl⟩
  ·exact ⟨o',ho,rfl,rfl,rfl,rfl⟩
 have hfp0:∀ b ∈ fp σ key (.row k (xs.take j ++ List.replicate m i.z) false),b ∈ fp σ key (.row k xs dd):=by
  intro b hb
  have hb:b ∈ (σ.g key).toList ++ []:=hb
  rw [List.append_nil] at hb
  exact List.mem_append_left _ hb
 refine hK _ _ (h w0 Ok σ _ _ Q' hM ?_ hQ)
 refine hS.step rfl (hS.below.grown hgr (fun b hb => hro.fresh b (fp_out hb))) hZ (fun r av hr => ⟨av,hr,.inl ⟨rfl,fun q _ => hst q⟩⟩) (fun q o' ho' => ?_) (fun p o1 q u hp hq hpq b hb hb' => ?_)
 ·rcases hl q o' ho' with ⟨rfl,rfl⟩|⟨hq,ho⟩
  ·refine ⟨⟨ds.take (j * k) ++ (List.replicate m (i.z.map zval)).flatten,?_,hkp,?_⟩,fun b hb => hro.fresh b (hfp0 b hb),?_⟩
   ·show Row W (slv (σ.g q) (xs.take j ++ List.replicate m i.z).length (σ.cap q)) k (xs.take j ++ List.replicate m i.z).length _ (σ.g q)
    rw [hlen];exact hR
   ·show rdR k _ W _ (xs.take j ++ List.replicate m i.z)
    refine rdR.append (((hrd.take j (by omega)).step hZ)) ?_
    have:=(rep_own hz.2 T.hk W m).rd
    rw [← hki] at this
    exact this.mono (fun b hb _ => by cases hb)
   ·show ((σ.g q).toList ++ []).Nodup
    rw [List.append_nil]
    cases σ.g q <;> simp
  ·refine RowOK.keep hS.ok1 hS.rows hS.disj ho hZ (fun q' _ => hst q') rfl rfl rfl (fun b hb => hblk b (fp_lt hS ho b (fp_out hb)) (fun e => ?_))
   exact hS.disj key _ q o' hk ho (fun e => hq e.symm) b (fp_out e) (fp_out hb)
 ·have hp2:∃ o2,look p s.heap = some o2∧b ∈ fp σ p o2:=by
   rcases hl p o1 hp with ⟨rfl,rfl⟩|⟨_,ho⟩
   ·exact ⟨_,hk,hfp0 b hb⟩
   ·exact ⟨_,ho,hb⟩
  have hq2:∃ o2,look q s.heap = some o2∧b ∈ fp σ q o2:=by
   rcases hl q u hq with ⟨rfl,rfl⟩|⟨_,ho⟩
   ·exact ⟨_,hk,hfp0 b hb'⟩
   ·exact ⟨_,ho,hb'⟩
  obtain ⟨o2,ho2,hb2⟩:=hp2
  obtain ⟨u2,hu2,hb3⟩:=hq2
  exact hS.disj p o2 q u2 ho2 hu2 hpq b hb2 hb3
end
end Go.Proofs.YtgngidchldajhaaGreat
namespace Go.Proofs.YtgngidchldajhaaGreat
open Go.RowKit
section
variable {P:Program} {cfg:Cfg} {w0:W0} {w w':World} {Ok:Nat→Prop} {N:Nat} {σ σ':Asg} {s s':St} {a:Act} {M:Nat→Prop}
theorem relArgs.split {A:Nat→Prop}:∀ {pre:List (List D)} {ds:List (List D)} {vs:List Value},relArgs A w (pre ++ ds) vs→∃ vs1 vs2,vs = vs1 ++ vs2∧relArgs A w pre vs1∧relArgs A w ds vs2
 | [],ds,vs,h => ⟨[],vs,rfl,rfl,h⟩
 | d :: pre,ds,vs,⟨v,us,e,h1,h2⟩ => by
  obtain ⟨us1,us2,e2,h3,h4⟩:=relArgs.split h2
  subst e2;subst e
  exact ⟨v :: us1,us2,rfl,⟨v,us1,rfl,h1,h3⟩,h4⟩
theorem relArgs.join {A:Nat→Prop}:∀ {pre:List (List D)} {ds:List (List D)} {vs1 vs2:List Value},relArgs A w pre vs1→relArgs A w ds vs2→relArgs A w (pre ++ ds) (vs1 ++ vs2)
 | [],ds,vs1,vs2,h,k => by rw [show vs1 = [] from h];exact k
 | d :: pre,ds,vs1,vs2,⟨v,us,e,h1,h2⟩,k => by
  subst e
  exact ⟨v,us ++ vs2,rfl,h1,relArgs.join h2 k⟩
theorem Bel.nil (h:Bel ⟨w,fun b => (none:Option Nat) = some b⟩ w'):Below w.heap.size w w' :=
 ⟨h.os,h.tape,h.output,h.size,fun i hi => h.block i hi (fun e => nomatch e)⟩
theorem AOw.nil {g:FuncId} {pre post:List (List D)} {k:Nat} {Q:List Res→Prop} (h:AOw P g pre k [] post Q) (hk:0 < k):AFn P g (pre ++ [.raw (.slice none 0 0)] :: post) Q:=by
 refine ⟨h.call,fun A w vs hA hr => ?_⟩
 obtain ⟨vs1,vs2,e,h1,v,us,e2,h2,h3⟩:=relArgs.split hr
 subst e2;subst e
 obtain ⟨rfl,_⟩:=rdV_raw.1 (show rdV A w v (.raw (.slice none 0 0)) from h2)
 refine (h.fn A w vs1 us none 0 [] hA h1 h3 ⟨(Nat.zero_mul k).symm,.inl ⟨rfl,rfl,rfl⟩⟩ hk (by first|exact ⟨0,hk,rfl⟩|exact ⟨0,hk,trivial⟩|exact ⟨0,hk,by simp [rdL]⟩) (fun b e => nomatch e)).mono ?_
 rintro e w' ⟨v,rs,rfl,hQ,hb,ho⟩
 have e:(W0.mine ⟨w,fun b => (none:Option Nat) = some b⟩) = fun b => w.heap.size ≤ b:=by funext b;simp [W0.mine]
 rw [e] at ho
 exact ⟨v,rs,rfl,hQ,hb.nil,ho⟩
theorem n_callR (C:CfgOK P cfg) (h:Sim w0 Ok N σ s a w) {o:Oper} {f:Operand} {args:Array Operand} {ts:Array TypeId} {g:FuncId} (ho:o.op = .call ⟨.value f,args,ts⟩) (hf:((opv s.regs f).bind avD).bind fnId = some g)
  {ds:List (List D)} (hd:relArgs (Zn σ s.heap w) w ds (args.toList.map a.eval)) {Q0:List Res→Prop} (hfn:AFn P g ds Q0)
  {K:Act→World→Prop} {Q:Exit→Act→World→Prop} {key:Nat} (hfr:∀ rs,Q0 rs→∀ q ob,look q (resACs key rs).2 = some ob→Free s q)
  (hK:∀ rs,Q0 rs→∀ v w' σ',relAV σ' ((resACs key rs).2 ++ s.heap) w' (outAV (resACs key rs).1) v→Sim w0 Ok N σ' ⟨s.regs,(resACs key rs).2 ++ s.heap⟩ a w'→K (a.put o.dst v) w'):o.wp P a w K Q:=by
 have hfv:a.eval f = .func (.func g) #[] #[]:=fnId_rel h hf
 have hrun:(execOp a.eval o).run P w = .ok (.enter g (args.map a.eval)) w:=by
  unfold execOp
  rw [ho]
  simp [resolve,Deferred.ofValue,hfv,invoke,hfn.call]
 obtain ⟨A,hA,hAa,hAz⟩:∃ A:Nat→Prop,(∀ b,A b→b < w.heap.size)∧relArgs A w ds (args.toList.map a.eval)∧((∃ rs,Q0 rs∧rs.all Res.scalar = false)→∀ b,A b→Zn σ s.heap w b):=by
  exact ⟨Zn σ s.heap w,fun _ h => h.1,hd,fun _ b hb => hb⟩
 have hcall:=hfn.fn A w (args.toList.map a.eval) hA hAa
 unfold Oper.wp
 rw [hrun,Oper.upon_enter]
 have e:(args.toList.map a.eval).toArray = args.map a.eval:=by rw [← Array.toList_map,Array.toArray_toList]
 rw [← e]
 refine hcall.mono ?_
 rintro e w' ⟨v,rs,rfl,hQ,hw,us,G,X,rfl,hG1,hG2,hrel⟩
 obtain ⟨σ',k0,k1,k2,k3,k4⟩:=outs_asg key σ hrel hG1
 have hgn:∀ q u,look q (resACs key rs).2 = some u→∀ b,σ'.g q = some b→w.heap.size ≤ b:=fun q u hq b hb => hG2 b ((k2 q u hq).2.2.1 b (fp_out hb))
 have hZ1:(∀ b,A b→Zn σ s.heap w b)→∀ b,((A b ∨ w.heap.size ≤ b)∧b ∉ X)→b < w'.heap.size→Zn σ' ((resACs key rs).2 ++ s.heap) w' b:=by
  intro hAz b hb hlt
  have hz:=Kept.grown hw h hAz b hb.1 hlt
  refine ⟨hlt,by rw [k0];exact hz.2.1,fun q u hq e => ?_⟩
  rw [look_append] at hq
  cases hn:look q (resACs key rs).2 with
  | some o' => exact hb.2 ((k2 q o' hn).2.2.2 b e)
  | none =>
   rw [hn] at hq
   rw [(k1 q hn).1] at e
   exact hz.2.2 q u hq e
 refine hK rs hQ _ w' σ' (out_rel ?_) ?_
 ·by_cases hsc:rs.all Res.scalar = true
  ·exact k4.relS hsc
  ·exact k4.rel (hZ1 (hAz ⟨rs,hQ,by simpa using hsc⟩))
 ·refine h.news k0 hw (hfr rs hQ) k1 (fun q o' hq => ?_) (fun q o' hq => ?_) k3
  ·obtain ⟨⟨dd,k,xs,d,b1,b2,b3,b4⟩,_⟩:=k2 q o' hq
   subst b1
   refine ⟨dd,b2,b3,?_⟩
   show if d = true then ownR k w' dd xs (σ'.F q) else rdR k (Zn σ' ((resACs key rs).2 ++ s.heap) w') w' dd xs
   cases d with
   | true => rw [if_pos rfl];exact b4
   | false =>
    rw [if_neg (by decide)]
    have b4':rdR k (fun b => (A b ∨ w.heap.size ≤ b)∧b ∉ X) w' dd xs:=b4
    have hsc:rs.all Res.scalar = false:=by
     have key:∀ {rs:List Res} {key:Nat} {q:Nat},look q (resACs key rs).2 = some (.row k xs false)→rs.all Res.scalar = false:=by
      intro rs
      induction rs with
      | nil => intro key q hq;cases hq
      | cons r rs ih =>
       intro key q hq
       cases r with
       | val d => rw [List.all_cons,ih (by simpa [resACs,resAC] using hq),Bool.and_false]
       | own kk ys d =>
        simp only [resACs,resAC,List.singleton_append,look] at hq
        split at hq
        ·cases hq;rfl
        ·rw [List.all_cons,ih hq,Bool.and_false]
     exact key hq
    exact b4'.mono (fun b hb hlt => hZ1 (hAz ⟨rs,hQ,hsc⟩) b hb hlt)
  ·obtain ⟨_,b5,b6,_⟩:=k2 q o' hq
   exact ⟨fun b hb => hG2 b (b6 b hb),b5⟩
theorem ROps.callNilP (C:CfgOK P cfg) {ops:Array Oper} {o:Oper} {l:List Oper} {Q:St→Prop} {d:Nat} {f:Operand} {args:Array Operand} {ts:Array TypeId} {g:FuncId} (hb:awanted ops s.regs o = some true) (hdN:d < cfg.N)
  (ho:o.op = .call ⟨.value f,args,ts⟩) (hod:o.dst = some d) (hf:((opv s.regs f).bind avD).bind fnId = some g)
  {xs:List Operand} {tx:List TypeId} {pre:List (List D)} {ys:List Operand} {ty:List TypeId} {post:List (List D)} (ha:args.toList = xs ++ .const (.slice none 0 0) :: ys) (hpre:aargs cfg (fun k => look k s.heap) s.regs xs tx = some pre) (hr:opRefs s.regs xs = []) (hpost:aargs cfg (fun k => look k s.heap) s.regs ys ty = some post) (hr2:opRefs s.regs ys = [])
  {rs:List Res} (hfn:AFn P g (pre ++ [.raw (.slice none 0 0)] :: post) (· = rs)) (hfr:(resACs d rs).2.all (fun p => fresh s p.1) = true)
  (h:ROps P cfg M ops l Q (s.got d rs)):ROps P cfg M ops (o :: l) Q s:=by
 intro w0 Ok σ a w Q' hM hS hQ
 refine wpList_step (fun K hK => ?_)
 rw [awanted_spec hS hb]
 simp only [if_true]
 have hrel:relArgs (Zn σ s.heap w) w (pre ++ [.raw (.slice none 0 0)] :: post) (args.toList.map a.eval):=by
  rw [ha,List.map_append]
  exact relArgs.join ((aargs_rel C hS hpre).2 hr) ⟨_,_,rfl,rdV_raw.2 ⟨rfl,rfl⟩,(aargs_rel C hS hpost).2 hr2⟩
 refine n_callR C hS (key:=d) ho hf hrel hfn (fun rs' e => e ▸ fun q ob hq => fresh_free (List.all_eq_true.1 hfr _ (look_all hq))) (fun rs' e v w' σ' hv hS' => ?_)
 subst e
 rw [hod]
 have hsub:∀ k o',look k (insAll (resACs d rs').2 s.heap) = some o'→look k ((resACs d rs').2 ++ s.heap) = some o':=fun k o' ho' => by rw [look_insAll] at ho';exact ho'
 exact hK _ _ (h w0 Ok σ' _ _ Q' hM (Sim.ins (hS'.forget (fun _ _ h => h) hsub) hdN (hv.sub hsub)) hQ)
end
noncomputable def atOwn (A:List (List D)) (k:Nat) (X:List (List D)) (B:List (List D)) (R:List Res) (a:List (List D)) (k':Nat) (x:List (List D)) (b:List (List D)):Option (List Res × Option (List (List D))):=by
 classical
 exact if a = A∧k' = k∧x = X∧b = B then some (R,Option.none) else Option.none
theorem atOwn_eq (A:List (List D)) (k:Nat) (X:List (List D)) (B:List (List D)) (R:List Res):atOwn A k X B R A k X B = some (R,Option.none):=by
 unfold atOwn;rw [if_pos ⟨rfl,rfl,rfl,rfl⟩]
theorem atOwn_some {A:List (List D)} {k:Nat} {X:List (List D)} {B:List (List D)} {R:List Res} {a:List (List D)} {k':Nat} {x b:List (List D)} {r:List Res × Option (List (List D))} (h:atOwn A k X B R a k' x b = some r):a = A∧k' = k∧x = X∧b = B∧r = (R,Option.none):=by
 unfold atOwn at h
 split at h
 ·rename_i h1
  exact ⟨h1.1,h1.2.1,h1.2.2.1,h1.2.2.2,(Option.some.inj h).symm⟩
 ·exact nomatch h
noncomputable def Tab.own' {P:Program} (T:Tab P) (g:FuncId) (n:Nat) {A:List (List D)} {k:Nat} {X B:List (List D)} {R:List Res} (h:AOw P g A k X B (· = R)):Tab P :=
 T.own g ⟨false,n,atOwn A k X B R⟩ (fun pre k' xs post r _ e => by
  obtain ⟨rfl,rfl,rfl,rfl,rfl⟩:=atOwn_some e
  exact h.toEf)
end Go.Proofs.YtgngidchldajhaaGreat
