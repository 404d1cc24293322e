/- Lemmas (10). -/
import Derived.Test.YtofpjonggpjneaaZE2
import Derived.Test.YtofpjonggpjneaaZE3
import Derived.Test.YtofpjonggpjneaaZE7
import Derived.Test.YtofpjonggpjneaaZE8
import Derived.Test.YtofpjonggpjneaaZE9
set_option linter.unusedSimpArgs false
set_option linter.unusedVariables false
namespace Go.Proofs.Ytofpjonggpjneaa
open Go.RowKit
theorem getD_ltn {l:List Int} {i:Nat} (h:i < l.length):l.getD i 0 = l[i]:=by rw [List.getD_eq_getElem?_getD,List.getElem?_eq_getElem h];rfl
theorem mapI_get {l:List Int} {i:Nat} (h:i < l.length):(l.map eI)[i]? = some [.int (l.getD i 0)]:=by rw [List.getElem?_map,List.getElem?_eq_getElem h,getD_ltn h];rfl
set_option maxHeartbeats 4000000 in
theorem a_likeInts (xs ys:List Int) (hsz:xs.length ≤ 1000000000):AFn Try.prog 35 [eL xs,eL ys] (· = [.val (.bool (decide (xs = ys)))]):=by
 have hx:(xs.map eI).length = xs.length:=List.length_map _
 have hy:(ys.map eI).length = ys.length:=List.length_map _
 by_cases hl:xs.length = ys.length
 rotate_left
 ·have hne:xs ≠ ys:=fun e => hl (by rw [e])
  have b:(((xs.length:Nat):Int) != ((ys.length:Nat):Int)) = true:=bne_iff_ne.2 (by omega)
  rw [decide_eq_false hne]
  refine AFn.of_runs (cfg_ok 26) Try.func35 rfl rfl rfl (by simp only [List.length_cons,List.length_nil];decide) ?_
  have hres:Try.f35.results.toList = [.tmp 4]:=rfl
  have hrts:Try.f35.resultTypes.toList = [4]:=rfl
  simp only [argRegs,argAV1,eL,eI,eLL,eB,Nat.zero_add,Nat.reduceAdd]
  intro M
  refine RunK.of ?_
  repeat' (first|with_reducible (first|refine Q1 ?_|refine Q2 ?_|refine Q3 ?_|refine Q4 ?_|refine Q5 ?_|refine Q6 ?_|refine Q7 ?_|refine Q8 ?_|refine Q9 ?_|refine Qa ?_|refine Qb ?_|refine Qc ?_|refine Qd ?_|refine Qe ?_|refine Qf ?_)|((with_reducible refine Qo ?_ ?_);focus rfl)|((with_reducible first|refine QT 6 (l:=?_) ?_ ?_|refine QF 6 (l:=?_) ?_ ?_);rotate_left 1;focus (simp only [Zu,Nat.reduceSub,Nat.reduceBEq];with_reducible rfl))|((with_reducible first|refine QS (cfg_ok 26) Tab.none (s':=?_) ?_ ?_|refine QC (b:=?_) ?_ ?_);rotate_left 1;focus ((with_reducible refine QW ?_);simp only [Zg,seval,if_true,if_false,reduceCtorEq,Nat.reduceEqDiff,b,hx,hy];with_reducible rfl))|((with_reducible refine QD (cfg_ok 26) Tab.none mixed_ok (tr:=?_) (s':=?_) ?_ ?_ ?_);rotate_left 2;(focus ((with_reducible refine QW ?_);simp only [Zg,Zd,seval,if_true,if_false,reduceCtorEq,Nat.reduceEqDiff,b,hx,hy];with_reducible rfl));focus ((with_reducible refine QK ?_);simp only [Zk];kernel_rfl)))
  (refine Ends.mk (by simp) (rs:=?_) (ks:=?_) hres hrts ?_ ?_ ?_;rotate_left 2;(focus (simp only [Ze,Zg,seval,if_true,if_false,reduceCtorEq,Nat.reduceEqDiff];with_reducible rfl));(focus simp);focus (first|with_reducible rfl|(simp only [Zv];done)))
 have b:(((ys.length:Nat):Int) != ((ys.length:Nat):Int)) = false:=by simp
 refine AFn.of_runs (cfg_ok 26) Try.func35 rfl rfl rfl (by simp only [List.length_cons,List.length_nil];decide) ?_
 have hres:Try.f35.results.toList = [.tmp 4]:=rfl
 have hrts:Try.f35.resultTypes.toList = [4]:=rfl
 simp only [argRegs,argAV1,eL,eI,eLL,eB,Nat.zero_add,Nat.reduceAdd]
 intro M
 refine RunK.of ?_
 repeat' (first|with_reducible (first|refine Q1 ?_|refine Q2 ?_|refine Q3 ?_|refine Q4 ?_|refine Q5 ?_|refine Q6 ?_|refine Q7 ?_|refine Q8 ?_|refine Q9 ?_|refine Qa ?_|refine Qb ?_|refine Qc ?_|refine Qd ?_|refine Qe ?_|refine Qf ?_)|((with_reducible refine Qo ?_ ?_);focus rfl)|((with_reducible first|refine QT 6 (l:=?_) ?_ ?_|refine QF 6 (l:=?_) ?_ ?_);rotate_left 1;focus (simp only [Zu,Nat.reduceSub,Nat.reduceBEq];with_reducible rfl))|((with_reducible first|refine QS (cfg_ok 26) Tab.none (s':=?_) ?_ ?_|refine QC (b:=?_) ?_ ?_);rotate_left 1;focus ((with_reducible refine QW ?_);simp only [Zg,seval,if_true,if_false,reduceCtorEq,Nat.reduceEqDiff,b,hx,hy,hl];with_reducible rfl))|((with_reducible refine QD (cfg_ok 26) Tab.none mixed_ok (tr:=?_) (s':=?_) ?_ ?_ ?_);rotate_left 2;(focus ((with_reducible refine QW ?_);simp only [Zg,Zd,seval,if_true,if_false,reduceCtorEq,Nat.reduceEqDiff,b,hx,hy,hl];with_reducible rfl));focus ((with_reducible refine QK ?_);simp only [Zk];kernel_rfl)))
 refine RunK.loop (β:=Nat) (γ:=Unit) (fun i => ⟨[(0,.c (.val (.sl 1 (xs.map eI)))),(1,.c (.val (.sl 1 (ys.map eI)))),(5,.c (.val (.int i)))],[]⟩) (fun i => i ≤ xs.length∧xs.take i = ys.take i) (fun i => xs.length - i)
  (fun _ => ⟨[],[]⟩) (fun _ => xs = ys) 0 ⟨Nat.zero_le _,rfl⟩ ?_ ?_ ?_
 ·(repeat' (first|with_reducible refine Qn|((with_reducible refine Qr ?_ ?_);focus (first|with_reducible rfl|(simp only [Zz,Nat.reduceBEq,Int.natCast_zero];done)|rfl))|((with_reducible refine Qj (o':=?_) ?_ ?_ ?_);rotate_left 1;focus rfl)|((with_reducible refine Qw ?_ ?_);(focus (first|with_reducible rfl|(simp only [Zv,Int.natCast_zero];done)));focus (first|exact id|exact (fun h => nomatch h)|exact (fun _ => rfl)))))
 ·rintro i ⟨hi,ht⟩
  have hw:=w64_succ (n:=i) (by omega)
  by_cases h:i < xs.length
  ·have i1:((i:Int) < (ys.length:Int)) = True:=eq_true (by omega)
   have i2:((0:Int) ≤ (i:Int)) = True:=eq_true (by omega)
   have g1:=mapI_get h
   have g2:=mapI_get (l:=ys) (i:=i) (by omega)
   by_cases he:xs.getD i 0 = ys.getD i 0
   ·have e0:(xs.getD i 0 != ys.getD i 0) = false:=by rw [he];simp only [bne_self_eq_false]
    repeat' (first|with_reducible (first|refine Q1 ?_|refine Q2 ?_|refine Q3 ?_|refine Q4 ?_|refine Q5 ?_|refine Q6 ?_|refine Q7 ?_|refine Q8 ?_|refine Q9 ?_|refine Qa ?_|refine Qb ?_|refine Qc ?_|refine Qd ?_|refine Qe ?_|refine Qf ?_)|((with_reducible refine Qo ?_ ?_);focus rfl)|((with_reducible first|refine QT 6 (l:=?_) ?_ ?_|refine QF 6 (l:=?_) ?_ ?_);rotate_left 1;focus (simp only [Zu,Nat.reduceSub,Nat.reduceBEq];with_reducible rfl))|((with_reducible first|refine QS (cfg_ok 26) Tab.none (s':=?_) ?_ ?_|refine QC (b:=?_) ?_ ?_);rotate_left 1;focus ((with_reducible refine QW ?_);simp only [Zg,seval,if_true,if_false,reduceCtorEq,Nat.reduceEqDiff,i1,i2,g1,g2,hx,hy,hl,hw,e0,Int.toNat_natCast];with_reducible rfl))|((with_reducible refine QD (cfg_ok 26) Tab.none mixed_ok (tr:=?_) (s':=?_) ?_ ?_ ?_);rotate_left 2;(focus ((with_reducible refine QW ?_);simp only [Zg,Zd,seval,if_true,if_false,reduceCtorEq,Nat.reduceEqDiff,i1,i2,g1,g2,hx,hy,hl,hw,e0,Int.toNat_natCast];with_reducible rfl));focus ((with_reducible refine QK ?_);simp only [Zk];kernel_rfl)))
    refine roundK.on (i + 1) ⟨⟨h,?_⟩,by omega⟩ ?_
    ·rw [getD_ltn h,getD_ltn (by omega)] at he
     rw [List.take_succ_eq_append_getElem h,List.take_succ_eq_append_getElem (by omega),ht,he]
    (repeat' (first|with_reducible refine Qn|((with_reducible refine Qr ?_ ?_);focus (first|with_reducible rfl|(simp only [Zz,Nat.reduceBEq];done)|rfl))|((with_reducible refine Qj (o':=?_) ?_ ?_ ?_);rotate_left 1;focus rfl)|((with_reducible refine Qw ?_ ?_);(focus (first|with_reducible rfl|(simp only [Zv];done)));focus (first|exact id|exact (fun h => nomatch h)|exact (fun _ => rfl)))))
   ·have e0:(xs.getD i 0 != ys.getD i 0) = true:=bne_iff_ne.2 he
    have hne:xs ≠ ys:=fun e => he (by rw [e])
    rw [decide_eq_false hne]
    repeat' (first|with_reducible (first|refine Q1 ?_|refine Q2 ?_|refine Q3 ?_|refine Q4 ?_|refine Q5 ?_|refine Q6 ?_|refine Q7 ?_|refine Q8 ?_|refine Q9 ?_|refine Qa ?_|refine Qb ?_|refine Qc ?_|refine Qd ?_|refine Qe ?_|refine Qf ?_)|((with_reducible refine Qo ?_ ?_);focus rfl)|((with_reducible first|refine QT 6 (l:=?_) ?_ ?_|refine QF 6 (l:=?_) ?_ ?_);rotate_left 1;focus (simp only [Zu,Nat.reduceSub,Nat.reduceBEq];with_reducible rfl))|((with_reducible first|refine QS (cfg_ok 26) Tab.none (s':=?_) ?_ ?_|refine QC (b:=?_) ?_ ?_);rotate_left 1;focus ((with_reducible refine QW ?_);simp only [Zg,seval,if_true,if_false,reduceCtorEq,Nat.reduceEqDiff,i1,i2,g1,g2,hx,hy,hl,hw,e0,Int.toNat_natCast];with_reducible rfl))|((with_reducible refine QD (cfg_ok 26) Tab.none mixed_ok (tr:=?_) (s':=?_) ?_ ?_ ?_);rotate_left 2;(focus ((with_reducible refine QW ?_);simp only [Zg,Zd,seval,if_true,if_false,reduceCtorEq,Nat.reduceEqDiff,i1,i2,g1,g2,hx,hy,hl,hw,e0,Int.toNat_natCast];with_reducible rfl));focus ((with_reducible refine QK ?_);simp only [Zk];kernel_rfl)))
    refine roundK.ret ?_
    repeat' (first|with_reducible (first|refine Q1 ?_|refine Q2 ?_|refine Q3 ?_|refine Q4 ?_|refine Q5 ?_|refine Q6 ?_|refine Q7 ?_|refine Q8 ?_|refine Q9 ?_|refine Qa ?_|refine Qb ?_|refine Qc ?_|refine Qd ?_|refine Qe ?_|refine Qf ?_)|((with_reducible refine Qo ?_ ?_);focus rfl)|((with_reducible first|refine QT 6 (l:=?_) ?_ ?_|refine QF 6 (l:=?_) ?_ ?_);rotate_left 1;focus (simp only [Zu,Nat.reduceSub,Nat.reduceBEq];with_reducible rfl))|((with_reducible first|refine QS (cfg_ok 26) Tab.none (s':=?_) ?_ ?_|refine QC (b:=?_) ?_ ?_);rotate_left 1;focus ((with_reducible refine QW ?_);simp only [Zg,seval,if_true,if_false,reduceCtorEq,Nat.reduceEqDiff];with_reducible rfl))|((with_reducible refine QD (cfg_ok 26) Tab.none mixed_ok (tr:=?_) (s':=?_) ?_ ?_ ?_);rotate_left 2;(focus ((with_reducible refine QW ?_);simp only [Zg,Zd,seval,if_true,if_false,reduceCtorEq,Nat.reduceEqDiff];with_reducible rfl));focus ((with_reducible refine QK ?_);simp only [Zk];kernel_rfl)))
    (refine Ends.mk (by simp) (rs:=?_) (ks:=?_) hres hrts ?_ ?_ ?_;rotate_left 2;(focus (simp only [Ze,Zg,seval,if_true,if_false,reduceCtorEq,Nat.reduceEqDiff];with_reducible rfl));(focus simp);focus (first|with_reducible rfl|(simp only [Zv];done)))
  ·have i1:((i:Int) < (ys.length:Int)) = False:=eq_false (by omega)
   repeat' (first|with_reducible (first|refine Q1 ?_|refine Q2 ?_|refine Q3 ?_|refine Q4 ?_|refine Q5 ?_|refine Q6 ?_|refine Q7 ?_|refine Q8 ?_|refine Q9 ?_|refine Qa ?_|refine Qb ?_|refine Qc ?_|refine Qd ?_|refine Qe ?_|refine Qf ?_)|((with_reducible refine Qo ?_ ?_);focus rfl)|((with_reducible first|refine QT 6 (l:=?_) ?_ ?_|refine QF 6 (l:=?_) ?_ ?_);rotate_left 1;focus (simp only [Zu,Nat.reduceSub,Nat.reduceBEq];with_reducible rfl))|((with_reducible first|refine QS (cfg_ok 26) Tab.none (s':=?_) ?_ ?_|refine QC (b:=?_) ?_ ?_);rotate_left 1;focus ((with_reducible refine QW ?_);simp only [Zg,seval,if_true,if_false,reduceCtorEq,Nat.reduceEqDiff,i1,hx,hl];with_reducible rfl))|((with_reducible refine QD (cfg_ok 26) Tab.none mixed_ok (tr:=?_) (s':=?_) ?_ ?_ ?_);rotate_left 2;(focus ((with_reducible refine QW ?_);simp only [Zg,Zd,seval,if_true,if_false,reduceCtorEq,Nat.reduceEqDiff,i1,hx,hl];with_reducible rfl));focus ((with_reducible refine QK ?_);simp only [Zk];kernel_rfl)))
   refine roundK.out () ?_ ?_
   ·rw [List.take_of_length_le (by omega),List.take_of_length_le (by omega)] at ht
    exact ht
   (repeat' (first|with_reducible refine Qn|((with_reducible refine Qr ?_ ?_);focus (first|with_reducible rfl|(simp only [Zz,Nat.reduceBEq];done)|rfl))|((with_reducible refine Qj (o':=?_) ?_ ?_ ?_);rotate_left 1;focus rfl)|((with_reducible refine Qw ?_ ?_);(focus (first|with_reducible rfl|(simp only [Zv];done)));focus (first|exact id|exact (fun h => nomatch h)|exact (fun _ => rfl)))))
 ·intro _ he
  rw [decide_eq_true he]
  repeat' (first|with_reducible (first|refine Q1 ?_|refine Q2 ?_|refine Q3 ?_|refine Q4 ?_|refine Q5 ?_|refine Q6 ?_|refine Q7 ?_|refine Q8 ?_|refine Q9 ?_|refine Qa ?_|refine Qb ?_|refine Qc ?_|refine Qd ?_|refine Qe ?_|refine Qf ?_)|((with_reducible refine Qo ?_ ?_);focus rfl)|((with_reducible first|refine QT 6 (l:=?_) ?_ ?_|refine QF 6 (l:=?_) ?_ ?_);rotate_left 1;focus (simp only [Zu,Nat.reduceSub,Nat.reduceBEq];with_reducible rfl))|((with_reducible first|refine QS (cfg_ok 26) Tab.none (s':=?_) ?_ ?_|refine QC (b:=?_) ?_ ?_);rotate_left 1;focus ((with_reducible refine QW ?_);simp only [Zg,seval,if_true,if_false,reduceCtorEq,Nat.reduceEqDiff];with_reducible rfl))|((with_reducible refine QD (cfg_ok 26) Tab.none mixed_ok (tr:=?_) (s':=?_) ?_ ?_ ?_);rotate_left 2;(focus ((with_reducible refine QW ?_);simp only [Zg,Zd,seval,if_true,if_false,reduceCtorEq,Nat.reduceEqDiff];with_reducible rfl));focus ((with_reducible refine QK ?_);simp only [Zk];kernel_rfl)))
  (refine Ends.mk (by simp) (rs:=?_) (ks:=?_) hres hrts ?_ ?_ ?_;rotate_left 2;(focus (simp only [Ze,Zg,seval,if_true,if_false,reduceCtorEq,Nat.reduceEqDiff];with_reducible rfl));(focus simp);focus (first|with_reducible rfl|(simp only [Zv];done)))
end Go.Proofs.Ytofpjonggpjneaa
namespace Go.Proofs.Ytofpjonggpjneaa
open Go.RowKit
set_option maxRecDepth 100000 in
set_option maxHeartbeats 2000000 in
theorem k_impl_CountCutsTo (v0 v1 v2:Value) (t a b:List Int) (w:World) (h0:Rd (RS RI) w [v0] t) (h1:Rd (RS RI) w [v1] a) (h2:Rd (RS RI) w [v2] b) :
  Calls Try.prog 32 #[v0,v1,v2] w (RetV w (.tuple #[.int .i64 (cctOf t a b).1,.int .i64 (cctOf t a b).2])):=by
 have hal:=c_impl_areLevels (.slice (some ⟨w.heap.size,0,none⟩) 3 3) [t,a,b] (w.alloc (.cells #[v0,v1,v2] 24))
  (Rd.lit (ds:=[v0,v1,v2]) (xs:=[t,a,b]) ⟨[v0],[v1,v2],rfl,h0,⟨[v1],[v2],rfl,h1,rdL.single h2⟩⟩ rfl (by show 3 ≤ maxLen;decide))
 simp only [List.all_cons,List.all_nil,Bool.and_true] at hal
 rw [← Bool.and_assoc] at hal
 have hb0:Below w.heap.size w (w.alloc (.cells #[v0,v1,v2] 24)):=(Below.refl _ _).alloc (Nat.le_refl _) _
 obtain ⟨oa0,c0,rfl,m1,m2⟩:=h0.val
 obtain ⟨oa1,c1,rfl,m3,m4⟩:=h1.val
 obtain ⟨oa2,c2,rfl,m5,m6⟩:=h2.val
 unfold maxLen at m2
 cases hall:lev8 t && lev8 a && lev8 b
 ·have hr:=Lib.hid (cctOf_bad hall)
  rw [hall] at hal
  go_enter Try.func32,Try.ntmps32
  go_wp2_with (go_at_call 106;refine hal.mono ?_;rintro e w' ⟨rfl,rfl⟩)
  go_ret2
  exact ⟨by rw [hr.out];rfl,hb0⟩
 ·have hr:=Lib.hid (cctOf_ok hall)
  rw [hall] at hal
  simp only [Bool.and_eq_true] at hall
  obtain ⟨⟨p1,p2⟩,p3⟩:=hall
  have hl8:=lev8_len p1
  have HCT:Hid (∀ W v,Rd (RS RI) W [v] t→Calls Try.prog 105 #[v] W (RetO (RS RI) W (canon t))):=Lib.hid (fun W v r => c_impl_canonical 13 v t W r (lev8_lev p1) (by omega) (by omega))
  have HCA:Hid (∀ W v,Rd (RS RI) W [v] a→Calls Try.prog 105 #[v] W (RetO (RS RI) W (canon a))):=Lib.hid (fun W v r => c_impl_canonical 13 v a W r (lev8_lev p2) (by have:=lev8_len p2;omega) (by have:=lev8_len p2;omega))
  have HCB:Hid (∀ W v,Rd (RS RI) W [v] b→Calls Try.prog 105 #[v] W (RetO (RS RI) W (canon b))):=Lib.hid (fun W v r => c_impl_canonical 13 v b W r (lev8_lev p3) (by have:=lev8_len p3;omega) (by have:=lev8_len p3;omega))
  have hcc:=canon_len (lev8_lev p1)
  have hcan:=cntTo_canon p1 (canon a,canon b)
  have hc8:=lev8_canon p1
  obtain ⟨ct,hct⟩:∃ ct,ct = canon t:=⟨_,rfl⟩
  rw [← hct] at HCT hcc hcan hc8
  have HCU:Hid (∀ (W:World) (v:Value) (m:Nat),Rd (RS RI) W [v] ct→0 < m→m < t.length→Calls Try.prog 109 #[v,.int .i64 m] W (RetOO (RS RI) (RS RI) W (canon (cutT ct m)) (canon (cutB ct m)))):=Lib.hid (fun W v m r q1 q2 => c_impl_cutAbove v ct m W r hc8 q1 (by omega))
  obtain ⟨ca,hca⟩:∃ ca,ca = canon a:=⟨_,rfl⟩
  obtain ⟨cb,hcb⟩:∃ cb,cb = canon b:=⟨_,rfl⟩
  rw [← hca,← hcb] at hcan hr
  rw [← hca] at HCA
  rw [← hcb] at HCB
  have H1:=Lib.hid h1
  have H2:=Lib.hid h2
  have HCAN:=Lib.hid hcan
  have hpos:=(lev8_lev p1).pos
  obtain ⟨tl,htl⟩:∃ tl,tl = t.length:=⟨_,rfl⟩
  rw [← htl] at m1 hl8 HCU hpos hal h0 hb0
  have H0:=Lib.hid h0
  rw [← htl]
  have HTL:=Lib.hid htl
  clear hct hca hcb h0 h1 h2 hcan htl p1 p2 p3 hcc hc8
  go_enter Try.func32,Try.ntmps32
  go_wp2_with (go_at_call 106;refine hal.mono ?_;rintro e w' ⟨rfl,rfl⟩)
  go_loopw [8,9] (fun c i wr => ∃ (k:Nat),k + 1 ≤ tl∧i = .int .i64 (k + 1:Nat)∧c = .int .i64 (cntTo ct (ca,cb) k:Nat)∧Below w.heap.size w wr) (fun _ i _ => tl - (intOf i).toNat)
  case atStart => exact ⟨0,hpos,rfl,rfl,by assumption⟩
  case round =>
   obtain ⟨k,hk,rfl,rfl,hbel⟩:=hrel
   have hsz1:=hbel.size
   have hle:=cntTo_le ct (ca,cb) k
   by_cases hlt:k + 1 < tl
   ·have hnx:cntTo ct (ca,cb) (k + 1) = cntTo ct (ca,cb) k + (if cutAt ct (k + 1) = (ca,cb) then 1 else 0):=rfl
    have hcu:=fun (W:World) (v:Value) (r:Rd (RS RI) W [v] ct) => HCU.out W v (k + 1) r (by omega) hlt
    obtain ⟨x,hx⟩:∃ x,x = canon (cutT ct (k + 1)):=⟨_,rfl⟩
    obtain ⟨y,hy⟩:∃ y,y = canon (cutB ct (k + 1)):=⟨_,rfl⟩
    have hxy:cutAt ct (k + 1) = (x,y):=by rw [hx,hy];rfl
    rw [hxy] at hnx
    rw [← hx,← hy] at hcu
    have HCU2:=Lib.hid hcu
    obtain ⟨n,hn⟩:∃ n,n = cntTo ct (ca,cb) k:=⟨_,rfl⟩
    rw [← hn] at hnx hle
    rw [← hn]
    obtain ⟨m,hm⟩:∃ m,m = k + 1:=⟨_,rfl⟩
    rw [← hm] at hlt HCU2 hnx
    rw [← hm]
    have HM:=Lib.hid hm
    clear hx hy hxy hcu hn hm
    by_cases e1:x = ca
    ·have d1:decide (x = ca) = true:=decide_eq_true e1
     have EQ1:Hid (∀ W v1 v2,Rd (RS RI) W [v1] x→Rd (RS RI) W [v2] ca→Calls Try.prog 104 #[v1,v2] W (RetQ W (.bool true))):=Lib.hid (fun W v1 v2 r1 r2 => by have:=c_slicesEqual v1 v2 x ca W r1 r2;rw [d1] at this;exact this)
     clear d1
     by_cases e2:y = cb
     ·have d2:decide (y = cb) = true:=decide_eq_true e2
      have EQ2:Hid (∀ W v1 v2,Rd (RS RI) W [v1] y→Rd (RS RI) W [v2] cb→Calls Try.prog 104 #[v1,v2] W (RetQ W (.bool true))):=Lib.hid (fun W v1 v2 r1 r2 => by have:=c_slicesEqual v1 v2 y cb W r1 r2;rw [d2] at this;exact this)
      have HN:Hid (cntTo ct (ca,cb) m = n + 1):=Lib.hid (by rw [hnx,e1,e2];simp)
      clear d2 hnx e1 e2
      go_wp2_with fail
      refine (HCT.out _ _ (H0.out.below hbel (Nat.le_refl _))).mono ?_
      rintro e w1 ⟨u1,rfl,o1,b1⟩
      go_wp2_with fail
      refine (HCU2.out _ _ o1.rd).mono ?_
      rintro e w2 ⟨ua,ub,mid,rfl,⟨q1,q2⟩,o2a,o2b,b2⟩
      have bb2:=hbel.trans ((b1.trans (b2.mono b1.size)).mono hsz1)
      go_wp2_with fail
      refine (HCA.out _ _ (H1.out.below bb2 (Nat.le_refl _))).mono ?_
      rintro e w3 ⟨u3,rfl,o3,b3⟩
      go_wp2_with fail
      refine (EQ1.out _ _ _ ((o2a.below b3 q2).rd) o3.rd).mono ?_
      rintro e w4 ⟨rfl,nd,rfl⟩
      have bb3:=(bb2.trans (b3.mono bb2.size)).trans (Below.drewN _ w3 nd)
      go_wp2_with fail
      refine (HCB.out _ _ (H2.out.below bb3 (Nat.le_refl _))).mono ?_
      rintro e w5 ⟨u5,rfl,o5,b5⟩
      go_wp2_with fail
      refine (EQ2.out _ _ _ (((o2b.below b3 (Nat.le_refl _)).of_heap (w':=w3.drewN nd) rfl |>.below b5 b3.size).rd) o5.rd).mono ?_
      rintro e w6 ⟨rfl,nd2,rfl⟩
      have bb5:=(bb3.trans (b5.mono bb3.size)).trans (Below.drewN _ w5 nd2)
      go_wp2_with fail
      go_roundw
      case rel => exact ⟨m,by omega,by go_num,by rw [HN.out];go_num,bb5⟩
      case measure => simp [intOf];omega
     ·have d2:decide (y = cb) = false:=decide_eq_false e2
      have EQ2:Hid (∀ W v1 v2,Rd (RS RI) W [v1] y→Rd (RS RI) W [v2] cb→Calls Try.prog 104 #[v1,v2] W (RetQ W (.bool false))):=Lib.hid (fun W v1 v2 r1 r2 => by have:=c_slicesEqual v1 v2 y cb W r1 r2;rw [d2] at this;exact this)
      have HN:Hid (cntTo ct (ca,cb) m = n):=Lib.hid (by rw [hnx,if_neg (fun h => e2 (by cases h;rfl))];rfl)
      clear d2 hnx e1 e2
      go_wp2_with fail
      refine (HCT.out _ _ (H0.out.below hbel (Nat.le_refl _))).mono ?_
      rintro e w1 ⟨u1,rfl,o1,b1⟩
      go_wp2_with fail
      refine (HCU2.out _ _ o1.rd).mono ?_
      rintro e w2 ⟨ua,ub,mid,rfl,⟨q1,q2⟩,o2a,o2b,b2⟩
      have bb2:=hbel.trans ((b1.trans (b2.mono b1.size)).mono hsz1)
      go_wp2_with fail
      refine (HCA.out _ _ (H1.out.below bb2 (Nat.le_refl _))).mono ?_
      rintro e w3 ⟨u3,rfl,o3,b3⟩
      go_wp2_with fail
      refine (EQ1.out _ _ _ ((o2a.below b3 q2).rd) o3.rd).mono ?_
      rintro e w4 ⟨rfl,nd,rfl⟩
      have bb3:=(bb2.trans (b3.mono bb2.size)).trans (Below.drewN _ w3 nd)
      go_wp2_with fail
      refine (HCB.out _ _ (H2.out.below bb3 (Nat.le_refl _))).mono ?_
      rintro e w5 ⟨u5,rfl,o5,b5⟩
      go_wp2_with fail
      refine (EQ2.out _ _ _ (((o2b.below b3 (Nat.le_refl _)).of_heap (w':=w3.drewN nd) rfl |>.below b5 b3.size).rd) o5.rd).mono ?_
      rintro e w6 ⟨rfl,nd2,rfl⟩
      have bb5:=(bb3.trans (b5.mono bb3.size)).trans (Below.drewN _ w5 nd2)
      go_wp2_with fail
      go_roundw
      case rel => exact ⟨m,by omega,by go_num,by rw [HN.out],bb5⟩
      case measure => simp [intOf];omega
    ·have d1:decide (x = ca) = false:=decide_eq_false e1
     have EQ1:Hid (∀ W v1 v2,Rd (RS RI) W [v1] x→Rd (RS RI) W [v2] ca→Calls Try.prog 104 #[v1,v2] W (RetQ W (.bool false))):=Lib.hid (fun W v1 v2 r1 r2 => by have:=c_slicesEqual v1 v2 x ca W r1 r2;rw [d1] at this;exact this)
     have HN:Hid (cntTo ct (ca,cb) m = n):=Lib.hid (by rw [hnx,if_neg (fun h => e1 (by cases h;rfl))];rfl)
     clear d1 hnx e1
     go_wp2_with fail
     refine (HCT.out _ _ (H0.out.below hbel (Nat.le_refl _))).mono ?_
     rintro e w1 ⟨u1,rfl,o1,b1⟩
     go_wp2_with fail
     refine (HCU2.out _ _ o1.rd).mono ?_
     rintro e w2 ⟨ua,ub,mid,rfl,⟨q1,q2⟩,o2a,o2b,b2⟩
     have bb2:=hbel.trans ((b1.trans (b2.mono b1.size)).mono hsz1)
     go_wp2_with fail
     refine (HCA.out _ _ (H1.out.below bb2 (Nat.le_refl _))).mono ?_
     rintro e w3 ⟨u3,rfl,o3,b3⟩
     go_wp2_with fail
     refine (EQ1.out _ _ _ ((o2a.below b3 q2).rd) o3.rd).mono ?_
     rintro e w4 ⟨rfl,nd,rfl⟩
     have bb3:=(bb2.trans (b3.mono bb2.size)).trans (Below.drewN _ w3 nd)
     go_wp2_with fail
     go_roundw
     case rel => exact ⟨m,by omega,by go_num,by rw [HN.out],bb3⟩
     case measure => simp [intOf];omega
   ·have hkk:k = tl - 1:=by omega
    have HF:Hid (cntTo ct (ca,cb) k = cntTo t (ca,cb) (tl - 1)):=Lib.hid (by have:=HCAN.out;rw [← HTL.out] at this;rw [hkk];exact this)
    have HR:Hid (cctOf t a b = (((cntTo t (ca,cb) (tl - 1):Nat):Int),(0:Int))):=Lib.hid (by rw [hr.out,HTL.out])
    clear hkk
    go_wp2_with fail
    go_ret2
    exact ⟨by rw [HR.out,← HF.out];rfl,hbel⟩
end Go.Proofs.Ytofpjonggpjneaa
namespace Go.Proofs.Ytofpjonggpjneaa
open Go.RowKit
theorem a_CountCutsTo (t a b:List Int) (hb:(cntTo t (canon a,canon b) (t.length - 1):Int) ≤ 1000000):AFn Try.prog 32 [eL t,eL a,eL b] (· = [.val (.int (cctOf t a b).1),.val (.int (cctOf t a b).2)]):=by
 have h:In64 (cctOf t a b).1∧In64 (cctOf t a b).2:=by
  unfold cctOf
  split
  ·exact ⟨by show In64 ((cntTo t (canon a,canon b) (t.length - 1):Nat):Int);unfold In64;omega,by unfold In64;omega⟩
  ·exact ⟨by unfold In64;omega,by unfold In64;omega⟩
 exact AFn.of_v2 (enters_of Try.func32 rfl rfl) (fun _ _ => rdV_int.2 ⟨rfl,h.1⟩) (fun _ _ => rdV_int.2 ⟨rfl,h.2⟩) (fun w A vs ⟨v1,_,e1,h1,v2,_,e2,h2,v3,_,e3,h3,e4⟩ => by
  subst e4;subst e3;subst e2;subst e1
  exact k_impl_CountCutsTo v1 v2 v3 t a b w (Rd.of (rd1 h1)) (Rd.of (rd1 h2)) (Rd.of (rd1 h3)))
def tmsF (L:List (List Int × Int)) (t:List Int):Nat→Int
 | 0 => 0
 | i + 1 => if (L.getD i ([],0)).1 = t then tmsF L t i + (L.getD i ([],0)).2 else tmsF L t i
set_option maxHeartbeats 4000000 in
theorem a_times9 (L:List (List Int × Int)) (t:List Int) (hl:L.length ≤ 1000000) (hz:∀ z ∈ L,z.1.length ≤ 1000000∧0 ≤ z.2∧z.2 ≤ 1000000):AFn Try.prog 33 [[.sl 2 (L.map eCt)],eL t] (· = [.val (.int (tmsF L t L.length))]):=by
 have hlm:(L.map eCt).length = L.length:=List.length_map _
 have hb:∀ i,i ≤ L.length→0 ≤ tmsF L t i∧tmsF L t i ≤ 1000000 * i:=by
  intro i
  induction i with
  | zero => intro _;simp [tmsF]
  | succ i ih =>
   intro h
   have h1:=ih (by omega)
   have e:L.getD i ([],0) = L[i]:=by rw [List.getD_eq_getElem?_getD,List.getElem?_eq_getElem (by omega)];rfl
   have h2:=hz L[i] (List.getElem_mem _)
   unfold tmsF
   rw [e]
   split <;> omega
 refine AFn.of_runs (cfg_ok 28) Try.func33 rfl rfl rfl (by simp only [List.length_cons,List.length_nil];decide) ?_
 have hres:Try.f33.results.toList = [.tmp 4]:=rfl
 have hrts:Try.f33.resultTypes.toList = [2]:=rfl
 simp only [argRegs,argAV1,eL,eI,eLL,eB,Nat.zero_add,Nat.reduceAdd]
 intro M
 refine RunK.of ?_
 repeat' (first|with_reducible (first|refine Q1 ?_|refine Q2 ?_|refine Q3 ?_|refine Q4 ?_|refine Q5 ?_|refine Q6 ?_|refine Q7 ?_|refine Q8 ?_|refine Q9 ?_|refine Qa ?_|refine Qb ?_|refine Qc ?_|refine Qd ?_|refine Qe ?_|refine Qf ?_)|((with_reducible refine Qo ?_ ?_);focus rfl)|((with_reducible first|refine QT 7 (l:=?_) ?_ ?_|refine QF 7 (l:=?_) ?_ ?_);rotate_left 1;focus (simp only [Zu,Nat.reduceSub,Nat.reduceBEq];with_reducible rfl))|((with_reducible first|refine QS (cfg_ok 28) Tab.none (s':=?_) ?_ ?_|refine QC (b:=?_) ?_ ?_);rotate_left 1;focus ((with_reducible refine QW ?_);simp only [Zg,seval,if_true,if_false,reduceCtorEq,Nat.reduceEqDiff];with_reducible rfl)))
 refine RunK.loop (β:=Nat) (γ:=Unit) (fun i => ⟨[(0,.c (.val (.sl 2 (L.map eCt)))),(1,.c (.val (.sl 1 (t.map eI)))),(5,.c (.val (.int (tmsF L t i)))),(6,.c (.val (.int i)))],[]⟩) (fun i => i ≤ L.length) (fun i => L.length - i)
  (fun _ => ⟨[(5,.c (.val (.int (tmsF L t L.length))))],[]⟩) (fun _ => True) 0 (Nat.zero_le _) ?_ ?_ ?_
 ·(repeat' (first|with_reducible refine Qn|((with_reducible refine Qr ?_ ?_);focus (first|with_reducible rfl|(simp only [Zz,Nat.reduceBEq,Int.natCast_zero,show tmsF L t 0 = 0 from rfl];done)|rfl))|((with_reducible refine Qj (o':=?_) ?_ ?_ ?_);rotate_left 1;focus rfl)|((with_reducible refine Qw ?_ ?_);(focus (first|with_reducible rfl|(simp only [Zv,Int.natCast_zero,show tmsF L t 0 = 0 from rfl];done)));focus (first|exact id|exact (fun h => nomatch h)|exact (fun _ => rfl)))))
 ·intro i hi
  have hi:i ≤ L.length:=hi
  have hw:=w64_succ (n:=i) (by omega)
  by_cases h:i < L.length
  ·have i1:((i:Int) < (L.length:Int)) = True:=eq_true (by omega)
   have i2:((0:Int) ≤ (i:Int)) = True:=eq_true (by omega)
   have e:L.getD i ([],0) = L[i]:=by rw [List.getD_eq_getElem?_getD,List.getElem?_eq_getElem h];rfl
   have h2:=hz L[i] (List.getElem_mem _)
   have hb1:=hb i (by omega)
   have es:tmsF L t (i + 1) = if (L.getD i ([],0)).1 = t then tmsF L t i + (L.getD i ([],0)).2 else tmsF L t i:=rfl
   have hg:(L.map eCt)[i]? = some (eCt L[i]):=by rw [List.getElem?_map,List.getElem?_eq_getElem h];rfl
   rw [e] at es
   obtain ⟨⟨u,n⟩,hu⟩:∃ z,z = L[i]:=⟨_,rfl⟩
   rw [← hu] at es h2 hg
   simp only at es h2
   simp only [eCt] at hg
   have hlk:=a_likeInts u t (by omega)
   simp only [eL] at hlk
   by_cases he:u = t
   ·rw [if_pos he] at es
    rw [decide_eq_true he] at hlk
    have ws:w64 (tmsF L t i + n) = tmsF L t (i + 1):=by rw [es];exact w64_eq (by omega)
    repeat' (first|with_reducible (first|refine Q1 ?_|refine Q2 ?_|refine Q3 ?_|refine Q4 ?_|refine Q5 ?_|refine Q6 ?_|refine Q7 ?_|refine Q8 ?_|refine Q9 ?_|refine Qa ?_|refine Qb ?_|refine Qc ?_|refine Qd ?_|refine Qe ?_|refine Qf ?_)|((with_reducible refine Qo ?_ ?_);focus rfl)|((with_reducible first|refine QT 7 (l:=?_) ?_ ?_|refine QF 7 (l:=?_) ?_ ?_);rotate_left 1;focus (simp only [Zu,Nat.reduceSub,Nat.reduceBEq];with_reducible rfl))|((with_reducible first|refine QS (cfg_ok 28) (Tab.none.at' 35 hlk) (s':=?_) ?_ ?_|refine QC (b:=?_) ?_ ?_);rotate_left 1;focus ((with_reducible refine QW ?_);simp only [Zg,seval,if_true,if_false,reduceCtorEq,Nat.reduceEqDiff,i1,i2,hlm,hg,ws,hw,Int.toNat_natCast];with_reducible rfl)))
    refine roundK.on (i + 1) ⟨h,by omega⟩ ?_
    (repeat' (first|with_reducible refine Qn|((with_reducible refine Qr ?_ ?_);focus (first|with_reducible rfl|(simp only [Zz,Nat.reduceBEq];done)|rfl))|((with_reducible refine Qj (o':=?_) ?_ ?_ ?_);rotate_left 1;focus rfl)|((with_reducible refine Qw ?_ ?_);(focus (first|with_reducible rfl|(simp only [Zv];done)));focus (first|exact id|exact (fun h => nomatch h)|exact (fun _ => rfl)))))
   ·rw [if_neg he] at es
    rw [decide_eq_false he] at hlk
    repeat' (first|with_reducible (first|refine Q1 ?_|refine Q2 ?_|refine Q3 ?_|refine Q4 ?_|refine Q5 ?_|refine Q6 ?_|refine Q7 ?_|refine Q8 ?_|refine Q9 ?_|refine Qa ?_|refine Qb ?_|refine Qc ?_|refine Qd ?_|refine Qe ?_|refine Qf ?_)|((with_reducible refine Qo ?_ ?_);focus rfl)|((with_reducible first|refine QT 7 (l:=?_) ?_ ?_|refine QF 7 (l:=?_) ?_ ?_);rotate_left 1;focus (simp only [Zu,Nat.reduceSub,Nat.reduceBEq];with_reducible rfl))|((with_reducible first|refine QS (cfg_ok 28) (Tab.none.at' 35 hlk) (s':=?_) ?_ ?_|refine QC (b:=?_) ?_ ?_);rotate_left 1;focus ((with_reducible refine QW ?_);simp only [Zg,seval,if_true,if_false,reduceCtorEq,Nat.reduceEqDiff,i1,i2,hlm,hg,hw,Int.toNat_natCast];with_reducible rfl)))
    refine roundK.on (i + 1) ⟨h,by omega⟩ ?_
    rw [es]
    (repeat' (first|with_reducible refine Qn|((with_reducible refine Qr ?_ ?_);focus (first|with_reducible rfl|(simp only [Zz,Nat.reduceBEq];done)|rfl))|((with_reducible refine Qj (o':=?_) ?_ ?_ ?_);rotate_left 1;focus rfl)|((with_reducible refine Qw ?_ ?_);(focus (first|with_reducible rfl|(simp only [Zv];done)));focus (first|exact id|exact (fun h => nomatch h)|exact (fun _ => rfl)))))
  ·have i1:((i:Int) < (L.length:Int)) = False:=eq_false (by omega)
   obtain rfl:i = L.length:=by omega
   repeat' (first|with_reducible (first|refine Q1 ?_|refine Q2 ?_|refine Q3 ?_|refine Q4 ?_|refine Q5 ?_|refine Q6 ?_|refine Q7 ?_|refine Q8 ?_|refine Q9 ?_|refine Qa ?_|refine Qb ?_|refine Qc ?_|refine Qd ?_|refine Qe ?_|refine Qf ?_)|((with_reducible refine Qo ?_ ?_);focus rfl)|((with_reducible first|refine QT 7 (l:=?_) ?_ ?_|refine QF 7 (l:=?_) ?_ ?_);rotate_left 1;focus (simp only [Zu,Nat.reduceSub,Nat.reduceBEq];with_reducible rfl))|((with_reducible first|refine QS (cfg_ok 28) Tab.none (s':=?_) ?_ ?_|refine QC (b:=?_) ?_ ?_);rotate_left 1;focus ((with_reducible refine QW ?_);simp only [Zg,seval,if_true,if_false,reduceCtorEq,Nat.reduceEqDiff,i1,hlm];with_reducible rfl)))
   refine roundK.out () trivial ?_
   (repeat' (first|with_reducible refine Qn|((with_reducible refine Qr ?_ ?_);focus (first|with_reducible rfl|(simp only [Zz,Nat.reduceBEq];done)|rfl))|((with_reducible refine Qj (o':=?_) ?_ ?_ ?_);rotate_left 1;focus rfl)|((with_reducible refine Qw ?_ ?_);(focus (first|with_reducible rfl|(simp only [Zv];done)));focus (first|exact id|exact (fun h => nomatch h)|exact (fun _ => rfl)))))
 ·intro _ _
  repeat' (first|with_reducible (first|refine Q1 ?_|refine Q2 ?_|refine Q3 ?_|refine Q4 ?_|refine Q5 ?_|refine Q6 ?_|refine Q7 ?_|refine Q8 ?_|refine Q9 ?_|refine Qa ?_|refine Qb ?_|refine Qc ?_|refine Qd ?_|refine Qe ?_|refine Qf ?_)|((with_reducible refine Qo ?_ ?_);focus rfl)|((with_reducible first|refine QT 7 (l:=?_) ?_ ?_|refine QF 7 (l:=?_) ?_ ?_);rotate_left 1;focus (simp only [Zu,Nat.reduceSub,Nat.reduceBEq];with_reducible rfl))|((with_reducible first|refine QS (cfg_ok 28) Tab.none (s':=?_) ?_ ?_|refine QC (b:=?_) ?_ ?_);rotate_left 1;focus ((with_reducible refine QW ?_);simp only [Zg,seval,if_true,if_false,reduceCtorEq,Nat.reduceEqDiff];with_reducible rfl)))
  (refine Ends.mk (by simp) (rs:=?_) (ks:=?_) hres hrts ?_ ?_ ?_;rotate_left 2;(focus (simp only [Ze,Zg,seval,if_true,if_false,reduceCtorEq,Nat.reduceEqDiff];with_reducible rfl));(focus simp);focus (first|with_reducible rfl|(simp only [Zv];done)))
end Go.Proofs.Ytofpjonggpjneaa
namespace Go.Proofs.Ytofpjonggpjneaa
open Go.RowKit
theorem cutOf_in (t:List Int) (n:Int):In64 (cutOf t n).2:=by unfold cutOf;split <;> (try split) <;> (unfold In64;simp)
theorem gaOf_in (u:List Int) (n:Int) (v:List Int):In64 (gaOf u n v).2:=by unfold gaOf;split <;> (try split) <;> (try split) <;> (unfold In64;simp)
theorem tab_LI {A:Nat→Prop} {w:World} {t:List Int} {n:Int} {vs:List Value} (h:relArgs A w [eL t,eI n] vs):∃ v,vs = [v,.int .i64 n]∧Rd (RS RI) w [v] t∧In64 n:=by
 obtain ⟨v1,_,e1,h1,v2,_,e2,h2,e3⟩:=h
 have e3:_ = []:=e3
 obtain ⟨k1,k2⟩:=rdV_int.1 h2
 subst e3;subst e2;subst e1
 exact ⟨v1,by rw [k1],Rd.of (rd1 h1),k2⟩
theorem tab_LIL {A:Nat→Prop} {w:World} {t s:List Int} {n:Int} {vs:List Value} (h:relArgs A w [eL t,eI n,eL s] vs):∃ v u,vs = [v,.int .i64 n,u]∧Rd (RS RI) w [v] t∧In64 n∧Rd (RS RI) w [u] s:=by
 obtain ⟨v1,_,e1,h1,v2,_,e2,h2,v3,_,e4,h3,e3⟩:=h
 have e3:_ = []:=e3
 obtain ⟨k1,k2⟩:=rdV_int.1 h2
 subst e3;subst e4;subst e2;subst e1
 exact ⟨v1,v3,by rw [k1],Rd.of (rd1 h1),k2,Rd.of (rd1 h3)⟩
theorem a_impl_CutAbove (t:List Int) (n:Int):AFn Try.prog 28 [eL t,eI n] (· = [.own 1 ((cutOf t n).1.1.map eI) true,.own 1 ((cutOf t n).1.2.map eI) true,.val (.int (cutOf t n).2)]) :=
 AFn.of_ooc encI encI (cutOf_in t n) (enters_of Try.func28 rfl rfl) (fun w A vs h => by
  obtain ⟨v,rfl,h1,h2⟩:=tab_LI h
  exact k_impl_CutAbove v n t w h1 h2)
theorem a_spec_CutAbove (t:List Int) (n:Int) (hsz:t.length ≤ 1048576):AFn Try.prog 29 [eL t,eI n] (· = [.own 1 ((cutOf t n).1.1.map eI) true,.own 1 ((cutOf t n).1.2.map eI) true,.val (.int (cutOf t n).2)]) :=
 AFn.of_ooc encI encI (cutOf_in t n) (enters_of Try.func29 rfl rfl) (fun w A vs h => by
  obtain ⟨v,rfl,h1,h2⟩:=tab_LI h
  exact k_spec_CutAbove v n t w h1 h2 hsz)
theorem a_impl_GraftAt (u:List Int) (n:Int) (v:List Int):AFn Try.prog 34 [eL u,eI n,eL v] (· = [.own 1 ((gaOf u n v).1.map eI) true,.val (.int (gaOf u n v).2)]) :=
 AFn.of_oc encI (gaOf_in u n v) (enters_of Try.func34 rfl rfl) (fun w A vs h => by
  obtain ⟨v1,v2,rfl,h1,h2,h3⟩:=tab_LIL h
  exact k_impl_GraftAt v1 n v2 u v w h1 h2 h3)
end Go.Proofs.Ytofpjonggpjneaa
namespace Go.Proofs.Ytofpjonggpjneaa
open Go.RowKit
noncomputable def TDw {code:List Int} (hc:Bytes code) (hl:code.length ≤ 1000000000):Tab Try.prog :=
 ((Tab.none.pin 108 (nxtE code) (nxt_l01Next hc hl)).pin 91 (drwE code (drw1 (drawAnyG code))) (p_l03DrawAny hc hl).ok).pin 92 (drwE code (drwL (pickG code))) (p_l01Pick hc hl).ok
end Go.Proofs.Ytofpjonggpjneaa
namespace Go.Proofs.Ytofpjonggpjneaa
open Go.RowKit
def drawCA (code:List Int):List Int × Int :=
 let p:=drawAnyF code (src0 code) 8
 let x:=nxtF code p.2 (p.1.length + 1)
 let y:=nxtF code x.2 16
 (p.1,x.1 - Int.tdiv y.1 15)
theorem drawCA_ok {code:List Int} (hc:Bytes code):AOk 17 (drawCA code).1∧-1 ≤ (drawCA code).2∧(drawCA code).2 ≤ 17:=by
 obtain ⟨h1,h2⟩:=drawAnyF_ok hc (s:=src0 code) (m:=8) (Nat.zero_le _)
 refine ⟨h1,?_⟩
 have hl:=h1.len
 have h8:(9 + (8:Int).toNat) = 17:=rfl
 have b1:=nxtF_bd hc (drawAnyF code (src0 code) 8).2 ((drawAnyF code (src0 code) 8).1.length + 1)
 have b2:=nxtF_bd hc (nxtF code (drawAnyF code (src0 code) 8).2 ((drawAnyF code (src0 code) 8).1.length + 1)).2 16
 unfold drawCA
 simp only
 generalize (nxtF code (nxtF code (drawAnyF code (src0 code) 8).2 ((drawAnyF code (src0 code) 8).1.length + 1)).2 16).1 = y at b2
 have h3:0 ≤ y.tdiv 15∧y.tdiv 15 ≤ 1:=by
  rw [Int.tdiv_eq_ediv_of_nonneg (by omega)]
  omega
 omega
set_option maxHeartbeats 4000000 in
theorem a_DrawCutAbove {code:List Int} (hc:Bytes code) (hl:code.length ≤ 1000000000):AFn Try.prog 27 [eCode code] (· = [.own 1 ((drawCA code).1.map eI) true,.val (.int (drawCA code).2)]):=by
 have hfrom:=p_l01From hc hl
 have hs:(src0 code).1 ≤ code.length:=Nat.zero_le _
 obtain ⟨h1,h2⟩:=drawAnyF_ok hc (s:=src0 code) (m:=8) hs
 have hd1:=drw1_eq (G:=drawAnyG code) hs (m:=8) (by omega)
 unfold drawCA
 have e1:drawAnyG code (src0 code) 8 = ([.own 1 ((drawAnyF code (src0 code) 8).1.map eI) true],(drawAnyF code (src0 code) 8).2):=rfl
 rw [e1] at hd1
 obtain ⟨⟨t,s1⟩,hp⟩:∃ p,p = drawAnyF code (src0 code) 8:=⟨_,rfl⟩
 rw [← hp] at hd1 h1 h2 ⊢
 simp only at hd1 h1 h2 ⊢
 have hdr2:=nxtE_eq code s1 (t.length + 1) h2
 have hbd2:=nxtF_bd hc s1 (t.length + 1)
 have hat2:=nxtF_at (n:=(t.length:Int) + 1) h2
 obtain ⟨⟨x,s2⟩,hq2⟩:∃ p,p = nxtF code s1 (t.length + 1):=⟨_,rfl⟩
 rw [← hq2] at hdr2 hbd2 hat2 ⊢
 simp only at hdr2 hbd2 hat2 ⊢
 have hdr3:=nxtE_eq code s2 16 hat2
 have hbd3:=nxtF_bd hc s2 16
 obtain ⟨⟨y,s3⟩,hq3⟩:∃ p,p = nxtF code s2 16:=⟨_,rfl⟩
 rw [← hq3] at hdr3 hbd3 ⊢
 simp only [eI] at hdr2 hdr3 hbd3 ⊢
 have hl17:t.length ≤ 17:=h1.len
 have hlm:(t.map eI).length = t.length:=List.length_map _
 have w1:w64 ((t.length:Int) + 1) = (t.length:Int) + 1:=w64_eq (by omega)
 have ht:0 ≤ y.tdiv 15∧y.tdiv 15 ≤ 1:=by
  rw [Int.tdiv_eq_ediv_of_nonneg (by omega)]
  omega
 have w2:w64 (y.tdiv 15) = y.tdiv 15:=w64_eq (by omega)
 have w3:w64 (x - y.tdiv 15) = x - y.tdiv 15:=w64_eq (by omega)
 simp only [eCode,dCode] at hfrom ⊢
 refine AFn.of_runs (cfg_ok 20) Try.func27 rfl rfl rfl (by simp only [List.length_cons,List.length_nil];decide) ?_
 have hres:Try.f27.results.toList = [.tmp 2,.tmp 3]:=rfl
 have hrts:Try.f27.resultTypes.toList = [24,2]:=rfl
 simp only [argRegs,argAV1,eL,eI,eLL,eB,Nat.zero_add,Nat.reduceAdd,eCode,dCode]
 intro M
 refine RunK.of ?_
 ((repeat' (first|with_reducible (first|refine Q1 ?_|refine Q2 ?_|refine Q3 ?_|refine Q4 ?_|refine Q5 ?_|refine Q6 ?_|refine Q7 ?_|refine Q8 ?_|refine Q9 ?_|refine Qa ?_|refine Qb ?_|refine Qc ?_|refine Qd ?_|refine Qe ?_|refine Qf ?_)|((with_reducible refine Qo ?_ ?_);focus rfl)|((with_reducible first|refine QT 6 (l:=?_) ?_ ?_|refine QF 6 (l:=?_) ?_ ?_);rotate_left 1;focus (simp only [Zu,Nat.reduceSub,Nat.reduceBEq];with_reducible rfl))|((with_reducible refine QC (b:=?_) ?_ ?_);rotate_left 1;focus ((with_reducible refine QW ?_);simp only [Zg,seval,if_true,if_false,reduceCtorEq,Nat.reduceEqDiff];with_reducible rfl))));((with_reducible refine QS (cfg_ok 20) Tab.none (s':=?_) ?_ ?_);rotate_left 1;focus ((with_reducible refine QW ?_);simp only [Zg,seval,if_true,if_false,reduceCtorEq,Nat.reduceEqDiff];with_reducible rfl));(repeat' (first|with_reducible (first|refine Q1 ?_|refine Q2 ?_|refine Q3 ?_|refine Q4 ?_|refine Q5 ?_|refine Q6 ?_|refine Q7 ?_|refine Q8 ?_|refine Q9 ?_|refine Qa ?_|refine Qb ?_|refine Qc ?_|refine Qd ?_|refine Qe ?_|refine Qf ?_)|((with_reducible refine Qo ?_ ?_);focus rfl)|((with_reducible first|refine QT 6 (l:=?_) ?_ ?_|refine QF 6 (l:=?_) ?_ ?_);rotate_left 1;focus (simp only [Zu,Nat.reduceSub,Nat.reduceBEq];with_reducible rfl))|((with_reducible refine QC (b:=?_) ?_ ?_);rotate_left 1;focus ((with_reducible refine QW ?_);simp only [Zg,seval,if_true,if_false,reduceCtorEq,Nat.reduceEqDiff];with_reducible rfl)))))
 ((repeat' (first|with_reducible (first|refine Q1 ?_|refine Q2 ?_|refine Q3 ?_|refine Q4 ?_|refine Q5 ?_|refine Q6 ?_|refine Q7 ?_|refine Q8 ?_|refine Q9 ?_|refine Qa ?_|refine Qb ?_|refine Qc ?_|refine Qd ?_|refine Qe ?_|refine Qf ?_)|((with_reducible refine Qo ?_ ?_);focus rfl)|((with_reducible first|refine QT 6 (l:=?_) ?_ ?_|refine QF 6 (l:=?_) ?_ ?_);rotate_left 1;focus (simp only [Zu,Nat.reduceSub,Nat.reduceBEq];with_reducible rfl))|((with_reducible refine QC (b:=?_) ?_ ?_);rotate_left 1;focus ((with_reducible refine QW ?_);simp only [Zg,seval,if_true,if_false,reduceCtorEq,Nat.reduceEqDiff];with_reducible rfl))));(with_reducible refine RunK.regCut (cfg_ok 20) Tab.none 1 (s1:=?_) ?_ ?_);rotate_left 1;(focus ((with_reducible refine QW ?_);simp only [Zg,seval,if_true,if_false,reduceCtorEq,Nat.reduceEqDiff];with_reducible rfl));simp only [List.toList_toArray,List.drop_succ_cons,List.drop_zero])
 refine ROps.callR (cfg_ok 20) rfl (d:=7) rfl (by decide) rfl rfl rfl rfl hfrom rfl ?_
 intro b
 (refine ROps.opsT (cfg_ok 20) (T:=Tab.none) (s':=?_) ?_ ?_;rotate_left 1;focus (simp only [Zg,seval,if_true,if_false,reduceCtorEq,Nat.reduceEqDiff];with_reducible rfl))
 ((repeat' (first|with_reducible (first|refine Q1 ?_|refine Q2 ?_|refine Q3 ?_|refine Q4 ?_|refine Q5 ?_|refine Q6 ?_|refine Q7 ?_|refine Q8 ?_|refine Q9 ?_|refine Qa ?_|refine Qb ?_|refine Qc ?_|refine Qd ?_|refine Qe ?_|refine Qf ?_)|((with_reducible refine Qo ?_ ?_);focus rfl)|((with_reducible first|refine QT 6 (l:=?_) ?_ ?_|refine QF 6 (l:=?_) ?_ ?_);rotate_left 1;focus (simp only [Zu,Nat.reduceSub,Nat.reduceBEq];with_reducible rfl))|((with_reducible refine QC (b:=?_) ?_ ?_);rotate_left 1;focus ((with_reducible refine QW ?_);simp only [Zg,seval,if_true,if_false,reduceCtorEq,Nat.reduceEqDiff,TDw,hd1,drwE,srcD_len];with_reducible rfl))));(with_reducible refine RunK.regCut (cfg_ok 20) (TDw hc hl) 0 (s1:=?_) ?_ ?_);rotate_left 1;(focus ((with_reducible refine QW ?_);simp only [Zg,seval,if_true,if_false,reduceCtorEq,Nat.reduceEqDiff,TDw,hd1,drwE,srcD_len];with_reducible rfl));simp only [List.toList_toArray,List.drop_succ_cons,List.drop_zero])
 (refine ROps.opsT (cfg_ok 20) (T:=TDw hc hl) (s':=?_) ?_ ?_;rotate_left 1;focus (simp only [Zg,seval,if_true,if_false,reduceCtorEq,Nat.reduceEqDiff,TDw,hd1,drwE,srcD_len];with_reducible rfl))
 repeat' (first|with_reducible (first|refine Q1 ?_|refine Q2 ?_|refine Q3 ?_|refine Q4 ?_|refine Q5 ?_|refine Q6 ?_|refine Q7 ?_|refine Q8 ?_|refine Q9 ?_|refine Qa ?_|refine Qb ?_|refine Qc ?_|refine Qd ?_|refine Qe ?_|refine Qf ?_)|((with_reducible refine Qo ?_ ?_);focus rfl)|((with_reducible first|refine QT 6 (l:=?_) ?_ ?_|refine QF 6 (l:=?_) ?_ ?_);rotate_left 1;focus (simp only [Zu,Nat.reduceSub,Nat.reduceBEq];with_reducible rfl))|((with_reducible first|refine QS (cfg_ok 20) (TDw hc hl) (s':=?_) ?_ ?_|refine QC (b:=?_) ?_ ?_);rotate_left 1;focus ((with_reducible refine QW ?_);simp only [Zg,seval,if_true,if_false,reduceCtorEq,Nat.reduceEqDiff,TDw,hdr2,hdr3,drwE,nxtE,srcD_len,hlm,w1,w2,w3];with_reducible rfl)))
 (refine Ends.mk (by simp) (rs:=?_) (ks:=?_) hres hrts ?_ ?_ ?_;rotate_left 2;(focus (simp only [Ze,Zg,seval,if_true,if_false,reduceCtorEq,Nat.reduceEqDiff];with_reducible rfl));(focus simp);focus (first|with_reducible rfl|(simp only [Zv];done)))
end Go.Proofs.Ytofpjonggpjneaa
namespace Go.Proofs.Ytofpjonggpjneaa
open Go.RowKit
def totF (L:List (List Int × Int)):Nat→Int
 | 0 => 0
 | i + 1 => totF L i + (L.getD i ([],0)).2
set_option maxRecDepth 100000
end Go.Proofs.Ytofpjonggpjneaa
namespace Go.Proofs.Ytofpjonggpjneaa
open Go.RowKit
set_option maxRecDepth 100000
structure GcZ (u v:List Int) (z:List Int × Int):Prop where
 lev:lev8 z.1 = true
 c1:1 ≤ z.2
 c8:z.2 ≤ 8
 s0:0 ≤ symF 9 z.1
 s1:symF 9 z.1 ≤ 5040
 cc:(cctOf z.1 u v).2 = 0
 c0:0 ≤ (cctOf z.1 u v).1
 ch:(cctOf z.1 u v).1 ≤ 8
 cb:(cntTo z.1 (canon u,canon v) (z.1.length - 1):Int) ≤ 1000000
 eq:z.2 * symF 9 z.1 = (cctOf z.1 u v).1 * symF 9 u * symF 9 v
structure GcF (u v:List Int):Prop where
 gs:(gsOf u v).2 = 0
 bp:(bpOf u v).2 = 0
 len:(gsOf u v).1.length ≤ 8
 tot:totF (gsOf u v).1 (gsOf u v).1.length = (u.length:Int)
 any:∃ z ∈ (gsOf u v).1,z.1 = (bpOf u v).1
 su:0 ≤ symF 9 u∧symF 9 u ≤ 5040
 sv:0 ≤ symF 9 v∧symF 9 v ≤ 5040
 all:∀ z ∈ (gsOf u v).1,GcZ u v z
end Go.Proofs.Ytofpjonggpjneaa
namespace Go.Proofs.Ytofpjonggpjneaa
open Go.RowKit
theorem AOk.small {n:Nat} {t:List Int} (h:AOk n t) (hn:n ≤ 1000):t.length ≤ 1000:=by have:=h.len;omega
theorem tmsF_nn {L:List (List Int × Int)} (h:∀ z ∈ L,0 ≤ z.2) (t:List Int):∀ i,i ≤ L.length→0 ≤ tmsF L t i
 | 0,_ => by simp [tmsF]
 | i + 1,hi => by
  have h1:=tmsF_nn h t i (by omega)
  have e:L.getD i ([],0) = L[i]:=by rw [List.getD_eq_getElem?_getD,List.getElem?_eq_getElem (by omega)];rfl
  have h2:=h L[i] (List.getElem_mem _)
  unfold tmsF
  rw [e]
  split <;> omega
theorem tmsF_pos {L:List (List Int × Int)} (h:∀ z ∈ L,1 ≤ z.2) {t:List Int} (hm:∃ z ∈ L,z.1 = t):1 ≤ tmsF L t L.length:=by
 obtain ⟨z,hz,e⟩:=hm
 obtain ⟨k,hk,rfl⟩:=List.mem_iff_getElem.1 hz
 have key:∀ j,k < j→j ≤ L.length→1 ≤ tmsF L t j:=by
  intro j
  induction j with
  | zero => intro h;omega
  | succ j ih =>
   intro h1 h2
   have e2:L.getD j ([],0) = L[j]:=by rw [List.getD_eq_getElem?_getD,List.getElem?_eq_getElem (by omega)];rfl
   have h3:=h L[j] (List.getElem_mem _)
   have h4:=tmsF_nn (fun z hz => by have:=h z hz;omega) t j (by omega)
   unfold tmsF
   rw [e2]
   by_cases hkj:k = j
   ·subst hkj
    rw [if_pos e];omega
   ·have:=ih (by omega) (by omega)
    split <;> omega
 exact key _ hk (Nat.le_refl _)
theorem tmsF_le {L:List (List Int × Int)} {b:Int} (hb:0 ≤ b) (h:∀ z ∈ L,z.2 ≤ b) (t:List Int):∀ i,i ≤ L.length→tmsF L t i ≤ b * i
 | 0,_ => by simp [tmsF]
 | i + 1,hi => by
  have h1:=tmsF_le hb h t i (by omega)
  have e:L.getD i ([],0) = L[i]:=by rw [List.getD_eq_getElem?_getD,List.getElem?_eq_getElem (by omega)];rfl
  have h2:=h L[i] (List.getElem_mem _)
  have e3:b * ((i + 1:Nat):Int) = b * i + b:=by push_cast;rw [Int.mul_add,Int.mul_one]
  unfold tmsF
  rw [e,e3]
  split <;> omega
end Go.Proofs.Ytofpjonggpjneaa
namespace Go.Proofs.Ytofpjonggpjneaa
open Go.RowKit
set_option maxRecDepth 20000 in
set_option maxHeartbeats 16000000 in
theorem a_FnCutEdges (code:List Int) (hc:Bytes code):AFn Try.prog 5 [eCode code] (· = [.val (.bool true)]):=by
 have hbg:=a_big code
 by_cases hbig:4096 < code.length
 ·rw [decide_eq_true hbig] at hbg
  simp only [eCode,dCode] at hbg
  refine AFn.of_runs (cfg_ok 120) Try.func5 rfl rfl rfl (by simp only [List.length_cons,List.length_nil];decide) ?_
  have hres:Try.f5.results.toList = [.tmp 2]:=rfl
  have hrts:Try.f5.resultTypes.toList = [4]:=rfl
  simp only [argRegs,argAV1,eL,eI,eLL,eB,Nat.zero_add,Nat.reduceAdd,eCode,dCode]
  intro M
  refine RunK.of ?_
  repeat' (first|with_reducible (first|refine Q1 ?_|refine Q2 ?_|refine Q3 ?_|refine Q4 ?_|refine Q5 ?_|refine Q6 ?_|refine Q7 ?_|refine Q8 ?_|refine Q9 ?_|refine Qa ?_|refine Qb ?_|refine Qc ?_|refine Qd ?_|refine Qe ?_|refine Qf ?_)|((with_reducible refine Qo ?_ ?_);focus rfl)|((with_reducible first|refine QT 20 (l:=?_) ?_ ?_|refine QF 20 (l:=?_) ?_ ?_);rotate_left 1;focus (simp only [Zu,Nat.reduceSub,Nat.reduceBEq];with_reducible rfl))|((with_reducible first|refine QS (cfg_ok 120) (Tab.none.at' 13 hbg) (s':=?_) ?_ ?_|refine QC (b:=?_) ?_ ?_);rotate_left 1;focus ((with_reducible refine QW ?_);simp only [Zg,seval,if_true,if_false,reduceCtorEq,Nat.reduceEqDiff];with_reducible rfl)))
  (refine Ends.mk (by simp) (rs:=?_) (ks:=?_) hres hrts ?_ ?_ ?_;rotate_left 2;(focus (simp only [Ze,Zg,seval,if_true,if_false,reduceCtorEq,Nat.reduceEqDiff];with_reducible rfl));(focus simp);focus (first|with_reducible rfl|(simp only [Zv];done)))
 rw [decide_eq_false hbig] at hbg
 have hl:code.length ≤ 1000000000:=by omega
 have hdr:=a_DrawCutAbove hc hl
 obtain ⟨ht0,hn0⟩:=drawCA_ok hc
 obtain ⟨⟨t,nd⟩,hp⟩:∃ p,p = drawCA code:=⟨_,rfl⟩
 rw [← hp] at hdr ht0 hn0
 simp only at hdr ht0 hn0
 have ht1:=ht0.small (by omega)
 have h1:=a_impl_CutAbove t nd
 have h2:=a_spec_CutAbove t nd (by omega)
 have b0:((0:Int) != 0) = false:=by decide
 have b1:((1:Int) != 0) = true:=by decide
 have b2:((2:Int) != 0) = true:=by decide
 have b11:((1:Int) != 1) = false:=by decide
 have b22:((2:Int) != 2) = false:=by decide
 have b00:((0:Int) == 0) = true:=by decide
 have htm:(t.map eI).length = t.length:=List.length_map _
 simp only [eCode,dCode,eL,eI] at hbg hdr h1 h2
 by_cases h8:lev8 t = true
 rotate_left
 ·rw [cutOf_bad (by simpa using h8)] at h1 h2
  refine AFn.of_runs (cfg_ok 120) Try.func5 rfl rfl rfl (by simp only [List.length_cons,List.length_nil];decide) ?_
  have hres:Try.f5.results.toList = [.tmp 2]:=rfl
  have hrts:Try.f5.resultTypes.toList = [4]:=rfl
  simp only [argRegs,argAV1,eL,eI,eLL,eB,Nat.zero_add,Nat.reduceAdd,eCode,dCode]
  intro M
  refine RunK.of ?_
  repeat' (first|with_reducible (first|refine Q1 ?_|refine Q2 ?_|refine Q3 ?_|refine Q4 ?_|refine Q5 ?_|refine Q6 ?_|refine Q7 ?_|refine Q8 ?_|refine Q9 ?_|refine Qa ?_|refine Qb ?_|refine Qc ?_|refine Qd ?_|refine Qe ?_|refine Qf ?_)|((with_reducible refine Qo ?_ ?_);focus rfl)|((with_reducible first|refine QT 20 (l:=?_) ?_ ?_|refine QF 20 (l:=?_) ?_ ?_);rotate_left 1;focus (simp only [Zu,Nat.reduceSub,Nat.reduceBEq];with_reducible rfl))|((with_reducible first|refine QS (cfg_ok 120) ((((Tab.none.at' 13 hbg).at' 27 hdr).at' 28 h1).at' 29 h2) (s':=?_) ?_ ?_|refine QC (b:=?_) ?_ ?_);rotate_left 1;focus ((with_reducible refine QW ?_);simp only [Zg,seval,if_true,if_false,reduceCtorEq,Nat.reduceEqDiff,b1,b11,b00,List.map_nil,List.length_nil,Int.natCast_zero];with_reducible rfl)))
  (refine Ends.mk (by simp) (rs:=?_) (ks:=?_) hres hrts ?_ ?_ ?_;rotate_left 2;(focus (simp only [Ze,Zg,seval,if_true,if_false,reduceCtorEq,Nat.reduceEqDiff];with_reducible rfl));(focus simp);focus (first|with_reducible rfl|(simp only [Zv];done)))
 by_cases hin:inR nd 1 ((t.length:Int) - 1) = true
 rotate_left
 ·rw [cutOf_range h8 (by simpa using hin)] at h1 h2
  refine AFn.of_runs (cfg_ok 120) Try.func5 rfl rfl rfl (by simp only [List.length_cons,List.length_nil];decide) ?_
  have hres:Try.f5.results.toList = [.tmp 2]:=rfl
  have hrts:Try.f5.resultTypes.toList = [4]:=rfl
  simp only [argRegs,argAV1,eL,eI,eLL,eB,Nat.zero_add,Nat.reduceAdd,eCode,dCode]
  intro M
  refine RunK.of ?_
  repeat' (first|with_reducible (first|refine Q1 ?_|refine Q2 ?_|refine Q3 ?_|refine Q4 ?_|refine Q5 ?_|refine Q6 ?_|refine Q7 ?_|refine Q8 ?_|refine Q9 ?_|refine Qa ?_|refine Qb ?_|refine Qc ?_|refine Qd ?_|refine Qe ?_|refine Qf ?_)|((with_reducible refine Qo ?_ ?_);focus rfl)|((with_reducible first|refine QT 20 (l:=?_) ?_ ?_|refine QF 20 (l:=?_) ?_ ?_);rotate_left 1;focus (simp only [Zu,Nat.reduceSub,Nat.reduceBEq];with_reducible rfl))|((with_reducible first|refine QS (cfg_ok 120) ((((Tab.none.at' 13 hbg).at' 27 hdr).at' 28 h1).at' 29 h2) (s':=?_) ?_ ?_|refine QC (b:=?_) ?_ ?_);rotate_left 1;focus ((with_reducible refine QW ?_);simp only [Zg,seval,if_true,if_false,reduceCtorEq,Nat.reduceEqDiff,b2,b22,b00,List.map_nil,List.length_nil,Int.natCast_zero];with_reducible rfl)))
  (refine Ends.mk (by simp) (rs:=?_) (ks:=?_) hres hrts ?_ ?_ ?_;rotate_left 2;(focus (simp only [Ze,Zg,seval,if_true,if_false,reduceCtorEq,Nat.reduceEqDiff];with_reducible rfl));(focus simp);focus (first|with_reducible rfl|(simp only [Zv];done)))
 have hin':=hin
 unfold inR at hin'
 simp only [Bool.and_eq_true,decide_eq_true_eq] at hin'
 obtain ⟨n,rfl⟩:∃ n:Nat,nd = n:=⟨nd.toNat,by omega⟩
 rw [cutOf_ok h8 hin] at h1 h2
 obtain ⟨i0,F⟩:=ce_all h8 (n:=n) (by omega) (by omega)
 obtain ⟨a,hA⟩:∃ a,a = canon (cutT (canon t) n):=⟨_,rfl⟩
 obtain ⟨b,hB⟩:∃ b,b = canon (cutB (canon t) n):=⟨_,rfl⟩
 rw [← hA,← hB] at h1 h2 F
 have hca:=a_CanonicalTree t
 rw [show canOf t = (canon t,0) by unfold canOf;rw [if_pos h8]] at hca
 have hct:=a_CountCutsTo t a b F.cct.2.2
 rw [F.cct.1] at hct
 have ht8:=lev8_len h8
 have la8:=lev8_len F.la
 have lb8:=lev8_len F.lb
 have hgs:=a_impl_GraftSum a b (by omega) (by omega)
 rw [F.gs] at hgs
 obtain ⟨u,hu⟩:∃ u,u = canon t:=⟨_,rfl⟩
 obtain ⟨L,hL⟩:∃ L,L = sumOf (grs a b):=⟨_,rfl⟩
 obtain ⟨m,hm⟩:∃ m,m = (cctOf t a b).1:=⟨_,rfl⟩
 have f1:=F.mem;have f2:=F.all;have f3:=F.cct.2.1;have f4:=F.at_;have f5:=F.lt0;have f6:=F.len;have f7:=F.ga
 rw [← hu] at hca f1 f4
 rw [← hL] at hgs f1 f2
 rw [← hm] at hct f3
 have htm9:=a_times9 L u (by omega) (fun z hz => by have:=f2.2 z hz;omega)
 have htp:=tmsF_pos (L:=L) (fun z hz => (f2.2 z hz).2.1) f1
 have htl:=tmsF_le (L:=L) (b:=8) (by omega) (fun z hz => (f2.2 z hz).2.2) u L.length (Nat.le_refl _)
 obtain ⟨q,hq⟩:∃ q,q = tmsF L u L.length:=⟨_,rfl⟩
 rw [← hq] at htm9 htp htl
 have j1:(q == 0) = false:=by simp only [beq_eq_false_iff_ne,ne_eq];omega
 have j2:(m < 1) = False:=eq_false (by omega)
 have hul:u.length ≤ 8:=by rw [hu,canon_len (lev8_lev h8)];exact lev8_len h8
 have ham:(a.map eI).length = a.length:=List.length_map _
 have hbm:(b.map eI).length = b.length:=List.length_map _
 have wl:w64 ((a.length:Int) + (b.length:Int)) = (t.length:Int):=by rw [w64_eq (by omega)];omega
 have bt:((t.length:Int) != (t.length:Int)) = false:=by simp
 simp only [eL] at hca hct hgs htm9
 refine AFn.of_runs (cfg_ok 120) Try.func5 rfl rfl rfl (by simp only [List.length_cons,List.length_nil];decide) ?_
 have hres:Try.f5.results.toList = [.tmp 2]:=rfl
 have hrts:Try.f5.resultTypes.toList = [4]:=rfl
 simp only [argRegs,argAV1,eL,eI,eLL,eB,Nat.zero_add,Nat.reduceAdd,eCode,dCode]
 intro M
 refine RunK.of ?_
 repeat' (first|with_reducible (first|refine Q1 ?_|refine Q2 ?_|refine Q3 ?_|refine Q4 ?_|refine Q5 ?_|refine Q6 ?_|refine Q7 ?_|refine Q8 ?_|refine Q9 ?_|refine Qa ?_|refine Qb ?_|refine Qc ?_|refine Qd ?_|refine Qe ?_|refine Qf ?_)|((with_reducible refine Qo ?_ ?_);focus rfl)|((with_reducible first|refine QT 20 (l:=?_) ?_ ?_|refine QF 20 (l:=?_) ?_ ?_);rotate_left 1;focus (simp only [Zu,Nat.reduceSub,Nat.reduceBEq];with_reducible rfl))|((with_reducible first|refine QS (cfg_ok 120) ((((((((Tab.none.at' 13 hbg).at' 27 hdr).at' 28 h1).at' 29 h2).at' 30 hca).at' 31 hgs).at' 32 hct).at' 33 htm9) (s':=?_) ?_ ?_|refine QC (b:=?_) ?_ ?_);rotate_left 1;focus ((with_reducible refine QW ?_);simp only [Zg,seval,if_true,if_false,reduceCtorEq,Nat.reduceEqDiff,b0,ham,hbm,htm,wl,bt,j1,j2];with_reducible rfl)))
 refine RunK.frz 5 ?_
 refine RunK.frz 6 ?_
 refine RunK.frz 11 ?_
 refine RunK.loop (β:=Nat) (γ:=Unit) (fun i => ⟨[(5,.c (.val (.sl 1 (a.map eI)))),(6,.c (.val (.sl 1 (b.map eI)))),(11,.c (.val (.sl 1 (u.map eI)))),(17,.c (.val (.int i)))],[]⟩) (fun i => i ≤ i0) (fun i => i0 - i)
  (fun _ => ⟨[],[]⟩) (fun _ => False) 0 (Nat.zero_le _) ?_ ?_ ?_
 ·(repeat' (first|with_reducible refine Qn|((with_reducible refine Qr ?_ ?_);focus (first|with_reducible rfl|(simp only [Zz,Nat.reduceBEq,St.frz,frzR,frzH,look,AV.frz,AC.frz,Obj.frz,drop,Int.natCast_zero];done)|rfl))|((with_reducible refine Qj (o':=?_) ?_ ?_ ?_);rotate_left 1;focus rfl)|((with_reducible refine Qw ?_ ?_);(focus (first|with_reducible rfl|(simp only [Zv,St.frz,frzR,frzH,look,AV.frz,AC.frz,Obj.frz,drop,Int.natCast_zero];done)));focus (first|exact id|exact (fun h => nomatch h)|exact (fun _ => rfl)))))
 ·intro i hi
  have hi:i ≤ i0:=hi
  have hw:=w64_succ (n:=i) (by omega)
  have i1:((i:Int) < (a.length:Int)) = True:=eq_true (by omega)
  have hga:=a_impl_GraftAt a i b
  rw [f7 i (by omega)] at hga
  obtain ⟨x,hx⟩:∃ x,x = canon (graftL a i b):=⟨_,rfl⟩
  rw [← hx] at hga
  have hlg:lev8 (graftL a i b) = true:=by
   have:=(graft_ok F.la (n:=i) (by omega) (lev8_lev F.lb) (by omega)).2.1
   rwa [F.ca] at this
  have hlk:=a_likeInts x u (by
   rw [hx,canon_len (lev8_lev hlg),graftL_len (by omega)]
   omega)
  simp only [eL,eI] at hga hlk
  by_cases e:x = u
  ·rw [decide_eq_true e] at hlk
   repeat' (first|with_reducible (first|refine Q1 ?_|refine Q2 ?_|refine Q3 ?_|refine Q4 ?_|refine Q5 ?_|refine Q6 ?_|refine Q7 ?_|refine Q8 ?_|refine Q9 ?_|refine Qa ?_|refine Qb ?_|refine Qc ?_|refine Qd ?_|refine Qe ?_|refine Qf ?_)|((with_reducible refine Qo ?_ ?_);focus rfl)|((with_reducible first|refine QT 20 (l:=?_) ?_ ?_|refine QF 20 (l:=?_) ?_ ?_);rotate_left 1;focus (simp only [Zu,Nat.reduceSub,Nat.reduceBEq];with_reducible rfl))|((with_reducible first|refine QS (cfg_ok 120) ((Tab.none.at' 34 hga).at' 35 hlk) (s':=?_) ?_ ?_|refine QC (b:=?_) ?_ ?_);rotate_left 1;focus ((with_reducible refine QW ?_);simp only [Zg,seval,if_true,if_false,reduceCtorEq,Nat.reduceEqDiff,i1,ham,b0];with_reducible rfl)))
   refine roundK.ret ?_
   repeat' (first|with_reducible (first|refine Q1 ?_|refine Q2 ?_|refine Q3 ?_|refine Q4 ?_|refine Q5 ?_|refine Q6 ?_|refine Q7 ?_|refine Q8 ?_|refine Q9 ?_|refine Qa ?_|refine Qb ?_|refine Qc ?_|refine Qd ?_|refine Qe ?_|refine Qf ?_)|((with_reducible refine Qo ?_ ?_);focus rfl)|((with_reducible first|refine QT 20 (l:=?_) ?_ ?_|refine QF 20 (l:=?_) ?_ ?_);rotate_left 1;focus (simp only [Zu,Nat.reduceSub,Nat.reduceBEq];with_reducible rfl))|((with_reducible first|refine QS (cfg_ok 120) Tab.none (s':=?_) ?_ ?_|refine QC (b:=?_) ?_ ?_);rotate_left 1;focus ((with_reducible refine QW ?_);simp only [Zg,seval,if_true,if_false,reduceCtorEq,Nat.reduceEqDiff];with_reducible rfl)))
   (refine Ends.mk (by simp) (rs:=?_) (ks:=?_) hres hrts ?_ ?_ ?_;rotate_left 2;(focus (simp only [Ze,Zg,seval,if_true,if_false,reduceCtorEq,Nat.reduceEqDiff];with_reducible rfl));(focus simp);focus (first|with_reducible rfl|(simp only [Zv];done)))
  ·rw [decide_eq_false e] at hlk
   have hne:i ≠ i0:=fun e2 => e (by rw [hx,e2,f4])
   repeat' (first|with_reducible (first|refine Q1 ?_|refine Q2 ?_|refine Q3 ?_|refine Q4 ?_|refine Q5 ?_|refine Q6 ?_|refine Q7 ?_|refine Q8 ?_|refine Q9 ?_|refine Qa ?_|refine Qb ?_|refine Qc ?_|refine Qd ?_|refine Qe ?_|refine Qf ?_)|((with_reducible refine Qo ?_ ?_);focus rfl)|((with_reducible first|refine QT 20 (l:=?_) ?_ ?_|refine QF 20 (l:=?_) ?_ ?_);rotate_left 1;focus (simp only [Zu,Nat.reduceSub,Nat.reduceBEq];with_reducible rfl))|((with_reducible first|refine QS (cfg_ok 120) ((Tab.none.at' 34 hga).at' 35 hlk) (s':=?_) ?_ ?_|refine QC (b:=?_) ?_ ?_);rotate_left 1;focus ((with_reducible refine QW ?_);simp only [Zg,seval,if_true,if_false,reduceCtorEq,Nat.reduceEqDiff,i1,ham,b0,hw];with_reducible rfl)))
   refine roundK.on (i + 1) ⟨by omega,by omega⟩ ?_
   (repeat' (first|with_reducible refine Qn|((with_reducible refine Qr ?_ ?_);focus (first|with_reducible rfl|(simp only [Zz,Nat.reduceBEq];done)|rfl))|((with_reducible refine Qj (o':=?_) ?_ ?_ ?_);rotate_left 1;focus rfl)|((with_reducible refine Qw ?_ ?_);(focus (first|with_reducible rfl|(simp only [Zv];done)));focus (first|exact id|exact (fun h => nomatch h)|exact (fun _ => rfl)))))
 ·intro _ h
  exact h.elim
theorem walk_FnCutEdges (v0:Value) (x0:List Int) (w:World) (h0:Rd RBytes w [v0] x0):Calls Try.prog 5 #[v0] w (RetV w (.bool true)):=law_code (fun code hc => a_FnCutEdges code hc) v0 x0 w h0
end Go.Proofs.Ytofpjonggpjneaa
