/- Lemmas (11). -/
import Derived.Test.YtofpjonggpjneaaZC3
import Derived.Test.YtofpjonggpjneaaZC7
import Derived.Test.YtofpjonggpjneaaZC9
import Derived.Test.YtofpjonggpjneaaZC10
set_option linter.unusedSimpArgs false
set_option linter.unusedVariables false
namespace Go.Proofs.Ytofpjonggpjneaa
open Go.RowKit
theorem a_CountCutsTo (t a b:List Int) (hb:(cntTo t (canon a,canon b) (t.length - 1):Int) ≤ 1000000):AFn Try.prog 32 [eL t,eL a,eL b] (· = [.val (.int (cctOf t a b).1),.val (.int (cctOf t a b).2)]):=by
 have h:In64 (cctOf t a b).1∧In64 (cctOf t a b).2:=by
  unfold cctOf
  split
  ·exact ⟨by show In64 ((cntTo t (canon a,canon b) (t.length - 1):Nat):Int);unfold In64;omega,by unfold In64;omega⟩
  ·exact ⟨by unfold In64;omega,by unfold In64;omega⟩
 exact AFn.of_v2 (enters_of Try.func32 rfl rfl) (fun _ _ => rdV_int.2 ⟨rfl,h.1⟩) (fun _ _ => rdV_int.2 ⟨rfl,h.2⟩) (fun w A vs ⟨v1,_,e1,h1,v2,_,e2,h2,v3,_,e3,h3,e4⟩ => by
  subst e4;subst e3;subst e2;subst e1
  exact k_impl_CountCutsTo v1 v2 v3 t a b w (Rd.of (rd1 h1)) (Rd.of (rd1 h2)) (Rd.of (rd1 h3)))
def symOf (t:List Int):Int × Int:=if lev8 t = true then (symF 9 t,0) else (0,1)
theorem a_symmetry (t:List Int) (h8:lev8 t = true):AFn Try.prog 101 [eL t] (· = [.val (.int (symF 9 t))]) :=
 AFn.of_v (enters_of Try.func101 rfl rfl) (fun _ _ => rdV_int.2 ⟨rfl,symF_in 9 t⟩) (fun w A vs h => by
  obtain ⟨v,rfl,hr⟩:=tab_one h
  have:=lev8_len h8
  exact c_impl_symmetry 9 v t w hr (lev8_lev h8) (by omega) (by omega))
theorem a_SymmetryOf (t:List Int):AFn Try.prog 59 [eL t] (· = [.val (.int (symOf t).1),.val (.int (symOf t).2)]):=by
 have hl:=a_impl_IsLevels t
 unfold symOf
 by_cases h:lev8 t = true
 ·have hc:=a_symmetry t h
  rw [h] at hl
  rw [if_pos h]
  simp only [eL] at hl hc
  refine AFn.of_runs (cfg_ok 9) Try.func59 rfl rfl rfl (by simp only [List.length_cons,List.length_nil];decide) ?_
  have hres:Try.f59.results.toList = [.tmp 2,.tmp 3]:=rfl
  have hrts:Try.f59.resultTypes.toList = [2,2]:=rfl
  simp only [argRegs,argAV1,eL,eI,eLL,eB,Nat.zero_add,Nat.reduceAdd]
  intro M
  refine RunK.of ?_
  repeat' (first|with_reducible (first|refine Q1 ?_|refine Q2 ?_|refine Q3 ?_|refine Q4 ?_|refine Q5 ?_|refine Q6 ?_|refine Q7 ?_|refine Q8 ?_|refine Q9 ?_|refine Qa ?_|refine Qb ?_|refine Qc ?_|refine Qd ?_|refine Qe ?_|refine Qf ?_)|((with_reducible refine Qo ?_ ?_);focus rfl)|((with_reducible first|refine QT 4 (l:=?_) ?_ ?_|refine QF 4 (l:=?_) ?_ ?_);rotate_left 1;focus (simp only [Zu,Nat.reduceSub,Nat.reduceBEq];with_reducible rfl))|((with_reducible first|refine QS (cfg_ok 9) ((Tab.none.at' 49 hl).at' 101 hc) (s':=?_) ?_ ?_|refine QC (b:=?_) ?_ ?_);rotate_left 1;focus ((with_reducible refine QW ?_);simp only [Zg,seval,if_true,if_false,reduceCtorEq,Nat.reduceEqDiff];with_reducible rfl)))
  (refine Ends.mk (by simp) (rs:=?_) (ks:=?_) hres hrts ?_ ?_ ?_;rotate_left 2;(focus (simp only [Ze,Zg,seval,if_true,if_false,reduceCtorEq,Nat.reduceEqDiff];with_reducible rfl));(focus simp);focus (first|with_reducible rfl|(simp only [Zv];done)))
 ·rw [if_neg h]
  rw [show lev8 t = false by simpa using h] at hl
  simp only [eL] at hl
  refine AFn.of_runs (cfg_ok 9) Try.func59 rfl rfl rfl (by simp only [List.length_cons,List.length_nil];decide) ?_
  have hres:Try.f59.results.toList = [.tmp 2,.tmp 3]:=rfl
  have hrts:Try.f59.resultTypes.toList = [2,2]:=rfl
  simp only [argRegs,argAV1,eL,eI,eLL,eB,Nat.zero_add,Nat.reduceAdd]
  intro M
  refine RunK.of ?_
  repeat' (first|with_reducible (first|refine Q1 ?_|refine Q2 ?_|refine Q3 ?_|refine Q4 ?_|refine Q5 ?_|refine Q6 ?_|refine Q7 ?_|refine Q8 ?_|refine Q9 ?_|refine Qa ?_|refine Qb ?_|refine Qc ?_|refine Qd ?_|refine Qe ?_|refine Qf ?_)|((with_reducible refine Qo ?_ ?_);focus rfl)|((with_reducible first|refine QT 4 (l:=?_) ?_ ?_|refine QF 4 (l:=?_) ?_ ?_);rotate_left 1;focus (simp only [Zu,Nat.reduceSub,Nat.reduceBEq];with_reducible rfl))|((with_reducible first|refine QS (cfg_ok 9) (Tab.none.at' 49 hl) (s':=?_) ?_ ?_|refine QC (b:=?_) ?_ ?_);rotate_left 1;focus ((with_reducible refine QW ?_);simp only [Zg,seval,if_true,if_false,reduceCtorEq,Nat.reduceEqDiff];with_reducible rfl)))
  (refine Ends.mk (by simp) (rs:=?_) (ks:=?_) hres hrts ?_ ?_ ?_;rotate_left 2;(focus (simp only [Ze,Zg,seval,if_true,if_false,reduceCtorEq,Nat.reduceEqDiff];with_reducible rfl));(focus simp);focus (first|with_reducible rfl|(simp only [Zv];done)))
theorem a_symmetry9 (t:List Int):AFn Try.prog 46 [eL t] (· = [.val (.int (symOf t).1)]):=by
 have hs:=a_SymmetryOf t
 have b0:((0:Int) != 0) = false:=by decide
 have b1:((1:Int) != 0) = true:=by decide
 unfold symOf at hs ⊢
 by_cases h:lev8 t = true
 ·rw [if_pos h] at hs ⊢
  simp only [eL] at hs
  refine AFn.of_runs (cfg_ok 13) Try.func46 rfl rfl rfl (by simp only [List.length_cons,List.length_nil];decide) ?_
  have hres:Try.f46.results.toList = [.tmp 2]:=rfl
  have hrts:Try.f46.resultTypes.toList = [2]:=rfl
  simp only [argRegs,argAV1,eL,eI,eLL,eB,Nat.zero_add,Nat.reduceAdd]
  intro M
  refine RunK.of ?_
  repeat' (first|with_reducible (first|refine Q1 ?_|refine Q2 ?_|refine Q3 ?_|refine Q4 ?_|refine Q5 ?_|refine Q6 ?_|refine Q7 ?_|refine Q8 ?_|refine Q9 ?_|refine Qa ?_|refine Qb ?_|refine Qc ?_|refine Qd ?_|refine Qe ?_|refine Qf ?_)|((with_reducible refine Qo ?_ ?_);focus rfl)|((with_reducible first|refine QT 5 (l:=?_) ?_ ?_|refine QF 5 (l:=?_) ?_ ?_);rotate_left 1;focus (simp only [Zu,Nat.reduceSub,Nat.reduceBEq];with_reducible rfl))|((with_reducible first|refine QS (cfg_ok 13) (Tab.none.at' 59 hs) (s':=?_) ?_ ?_|refine QC (b:=?_) ?_ ?_);rotate_left 1;focus ((with_reducible refine QW ?_);simp only [Zg,seval,if_true,if_false,reduceCtorEq,Nat.reduceEqDiff,b0];with_reducible rfl)))
  (refine Ends.mk (by simp) (rs:=?_) (ks:=?_) hres hrts ?_ ?_ ?_;rotate_left 2;(focus (simp only [Ze,Zg,seval,if_true,if_false,reduceCtorEq,Nat.reduceEqDiff];with_reducible rfl));(focus simp);focus (first|with_reducible rfl|(simp only [Zv];done)))
 ·rw [if_neg h] at hs ⊢
  simp only [eL] at hs
  refine AFn.of_runs (cfg_ok 13) Try.func46 rfl rfl rfl (by simp only [List.length_cons,List.length_nil];decide) ?_
  have hres:Try.f46.results.toList = [.tmp 2]:=rfl
  have hrts:Try.f46.resultTypes.toList = [2]:=rfl
  simp only [argRegs,argAV1,eL,eI,eLL,eB,Nat.zero_add,Nat.reduceAdd]
  intro M
  refine RunK.of ?_
  repeat' (first|with_reducible (first|refine Q1 ?_|refine Q2 ?_|refine Q3 ?_|refine Q4 ?_|refine Q5 ?_|refine Q6 ?_|refine Q7 ?_|refine Q8 ?_|refine Q9 ?_|refine Qa ?_|refine Qb ?_|refine Qc ?_|refine Qd ?_|refine Qe ?_|refine Qf ?_)|((with_reducible refine Qo ?_ ?_);focus rfl)|((with_reducible first|refine QT 5 (l:=?_) ?_ ?_|refine QF 5 (l:=?_) ?_ ?_);rotate_left 1;focus (simp only [Zu,Nat.reduceSub,Nat.reduceBEq];with_reducible rfl))|((with_reducible first|refine QS (cfg_ok 13) (Tab.none.at' 59 hs) (s':=?_) ?_ ?_|refine QC (b:=?_) ?_ ?_);rotate_left 1;focus ((with_reducible refine QW ?_);simp only [Zg,seval,if_true,if_false,reduceCtorEq,Nat.reduceEqDiff,b1];with_reducible rfl)))
  (refine Ends.mk (by simp) (rs:=?_) (ks:=?_) hres hrts ?_ ?_ ?_;rotate_left 2;(focus (simp only [Ze,Zg,seval,if_true,if_false,reduceCtorEq,Nat.reduceEqDiff];with_reducible rfl));(focus simp);focus (first|with_reducible rfl|(simp only [Zv];done)))
def tmsF (L:List (List Int × Int)) (t:List Int):Nat→Int
 | 0 => 0
 | i + 1 => if (L.getD i ([],0)).1 = t then tmsF L t i + (L.getD i ([],0)).2 else tmsF L t i
set_option maxHeartbeats 4000000 in
theorem a_times9 (L:List (List Int × Int)) (t:List Int) (hl:L.length ≤ 1000000) (hz:∀ z ∈ L,z.1.length ≤ 1000000∧0 ≤ z.2∧z.2 ≤ 1000000):AFn Try.prog 33 [[.sl 2 (L.map eCt)],eL t] (· = [.val (.int (tmsF L t L.length))]):=by
 have hlm:(L.map eCt).length = L.length:=List.length_map _
 have hb:∀ i,i ≤ L.length→0 ≤ tmsF L t i∧tmsF L t i ≤ 1000000 * i:=by
  intro i
  induction i with
  | zero => intro _;simp [tmsF]
  | succ i ih =>
   intro h
   have h1:=ih (by omega)
   have e:L.getD i ([],0) = L[i]:=by rw [List.getD_eq_getElem?_getD,List.getElem?_eq_getElem (by omega)];rfl
   have h2:=hz L[i] (List.getElem_mem _)
   unfold tmsF
   rw [e]
   split <;> omega
 refine AFn.of_runs (cfg_ok 28) Try.func33 rfl rfl rfl (by simp only [List.length_cons,List.length_nil];decide) ?_
 have hres:Try.f33.results.toList = [.tmp 4]:=rfl
 have hrts:Try.f33.resultTypes.toList = [2]:=rfl
 simp only [argRegs,argAV1,eL,eI,eLL,eB,Nat.zero_add,Nat.reduceAdd]
 intro M
 refine RunK.of ?_
 repeat' (first|with_reducible (first|refine Q1 ?_|refine Q2 ?_|refine Q3 ?_|refine Q4 ?_|refine Q5 ?_|refine Q6 ?_|refine Q7 ?_|refine Q8 ?_|refine Q9 ?_|refine Qa ?_|refine Qb ?_|refine Qc ?_|refine Qd ?_|refine Qe ?_|refine Qf ?_)|((with_reducible refine Qo ?_ ?_);focus rfl)|((with_reducible first|refine QT 7 (l:=?_) ?_ ?_|refine QF 7 (l:=?_) ?_ ?_);rotate_left 1;focus (simp only [Zu,Nat.reduceSub,Nat.reduceBEq];with_reducible rfl))|((with_reducible first|refine QS (cfg_ok 28) Tab.none (s':=?_) ?_ ?_|refine QC (b:=?_) ?_ ?_);rotate_left 1;focus ((with_reducible refine QW ?_);simp only [Zg,seval,if_true,if_false,reduceCtorEq,Nat.reduceEqDiff];with_reducible rfl)))
 refine RunK.loop (β:=Nat) (γ:=Unit) (fun i => ⟨[(0,.c (.val (.sl 2 (L.map eCt)))),(1,.c (.val (.sl 1 (t.map eI)))),(5,.c (.val (.int (tmsF L t i)))),(6,.c (.val (.int i)))],[]⟩) (fun i => i ≤ L.length) (fun i => L.length - i)
  (fun _ => ⟨[(5,.c (.val (.int (tmsF L t L.length))))],[]⟩) (fun _ => True) 0 (Nat.zero_le _) ?_ ?_ ?_
 ·(repeat' (first|with_reducible refine Qn|((with_reducible refine Qr ?_ ?_);focus (first|with_reducible rfl|(simp only [Zz,Nat.reduceBEq,Int.natCast_zero,show tmsF L t 0 = 0 from rfl];done)|rfl))|((with_reducible refine Qj (o':=?_) ?_ ?_ ?_);rotate_left 1;focus rfl)|((with_reducible refine Qw ?_ ?_);(focus (first|with_reducible rfl|(simp only [Zv,Int.natCast_zero,show tmsF L t 0 = 0 from rfl];done)));focus (first|exact id|exact (fun h => nomatch h)|exact (fun _ => rfl)))))
 ·intro i hi
  have hi:i ≤ L.length:=hi
  have hw:=w64_succ (n:=i) (by omega)
  by_cases h:i < L.length
  ·have i1:((i:Int) < (L.length:Int)) = True:=eq_true (by omega)
   have i2:((0:Int) ≤ (i:Int)) = True:=eq_true (by omega)
   have e:L.getD i ([],0) = L[i]:=by rw [List.getD_eq_getElem?_getD,List.getElem?_eq_getElem h];rfl
   have h2:=hz L[i] (List.getElem_mem _)
   have hb1:=hb i (by omega)
   have es:tmsF L t (i + 1) = if (L.getD i ([],0)).1 = t then tmsF L t i + (L.getD i ([],0)).2 else tmsF L t i:=rfl
   have hg:(L.map eCt)[i]? = some (eCt L[i]):=by rw [List.getElem?_map,List.getElem?_eq_getElem h];rfl
   rw [e] at es
   obtain ⟨⟨u,n⟩,hu⟩:∃ z,z = L[i]:=⟨_,rfl⟩
   rw [← hu] at es h2 hg
   simp only at es h2
   simp only [eCt] at hg
   have hlk:=a_likeInts u t (by omega)
   simp only [eL] at hlk
   by_cases he:u = t
   ·rw [if_pos he] at es
    rw [decide_eq_true he] at hlk
    have ws:w64 (tmsF L t i + n) = tmsF L t (i + 1):=by rw [es];exact w64_eq (by omega)
    repeat' (first|with_reducible (first|refine Q1 ?_|refine Q2 ?_|refine Q3 ?_|refine Q4 ?_|refine Q5 ?_|refine Q6 ?_|refine Q7 ?_|refine Q8 ?_|refine Q9 ?_|refine Qa ?_|refine Qb ?_|refine Qc ?_|refine Qd ?_|refine Qe ?_|refine Qf ?_)|((with_reducible refine Qo ?_ ?_);focus rfl)|((with_reducible first|refine QT 7 (l:=?_) ?_ ?_|refine QF 7 (l:=?_) ?_ ?_);rotate_left 1;focus (simp only [Zu,Nat.reduceSub,Nat.reduceBEq];with_reducible rfl))|((with_reducible first|refine QS (cfg_ok 28) (Tab.none.at' 35 hlk) (s':=?_) ?_ ?_|refine QC (b:=?_) ?_ ?_);rotate_left 1;focus ((with_reducible refine QW ?_);simp only [Zg,seval,if_true,if_false,reduceCtorEq,Nat.reduceEqDiff,i1,i2,hlm,hg,ws,hw,Int.toNat_natCast];with_reducible rfl)))
    refine roundK.on (i + 1) ⟨h,by omega⟩ ?_
    (repeat' (first|with_reducible refine Qn|((with_reducible refine Qr ?_ ?_);focus (first|with_reducible rfl|(simp only [Zz,Nat.reduceBEq];done)|rfl))|((with_reducible refine Qj (o':=?_) ?_ ?_ ?_);rotate_left 1;focus rfl)|((with_reducible refine Qw ?_ ?_);(focus (first|with_reducible rfl|(simp only [Zv];done)));focus (first|exact id|exact (fun h => nomatch h)|exact (fun _ => rfl)))))
   ·rw [if_neg he] at es
    rw [decide_eq_false he] at hlk
    repeat' (first|with_reducible (first|refine Q1 ?_|refine Q2 ?_|refine Q3 ?_|refine Q4 ?_|refine Q5 ?_|refine Q6 ?_|refine Q7 ?_|refine Q8 ?_|refine Q9 ?_|refine Qa ?_|refine Qb ?_|refine Qc ?_|refine Qd ?_|refine Qe ?_|refine Qf ?_)|((with_reducible refine Qo ?_ ?_);focus rfl)|((with_reducible first|refine QT 7 (l:=?_) ?_ ?_|refine QF 7 (l:=?_) ?_ ?_);rotate_left 1;focus (simp only [Zu,Nat.reduceSub,Nat.reduceBEq];with_reducible rfl))|((with_reducible first|refine QS (cfg_ok 28) (Tab.none.at' 35 hlk) (s':=?_) ?_ ?_|refine QC (b:=?_) ?_ ?_);rotate_left 1;focus ((with_reducible refine QW ?_);simp only [Zg,seval,if_true,if_false,reduceCtorEq,Nat.reduceEqDiff,i1,i2,hlm,hg,hw,Int.toNat_natCast];with_reducible rfl)))
    refine roundK.on (i + 1) ⟨h,by omega⟩ ?_
    rw [es]
    (repeat' (first|with_reducible refine Qn|((with_reducible refine Qr ?_ ?_);focus (first|with_reducible rfl|(simp only [Zz,Nat.reduceBEq];done)|rfl))|((with_reducible refine Qj (o':=?_) ?_ ?_ ?_);rotate_left 1;focus rfl)|((with_reducible refine Qw ?_ ?_);(focus (first|with_reducible rfl|(simp only [Zv];done)));focus (first|exact id|exact (fun h => nomatch h)|exact (fun _ => rfl)))))
  ·have i1:((i:Int) < (L.length:Int)) = False:=eq_false (by omega)
   obtain rfl:i = L.length:=by omega
   repeat' (first|with_reducible (first|refine Q1 ?_|refine Q2 ?_|refine Q3 ?_|refine Q4 ?_|refine Q5 ?_|refine Q6 ?_|refine Q7 ?_|refine Q8 ?_|refine Q9 ?_|refine Qa ?_|refine Qb ?_|refine Qc ?_|refine Qd ?_|refine Qe ?_|refine Qf ?_)|((with_reducible refine Qo ?_ ?_);focus rfl)|((with_reducible first|refine QT 7 (l:=?_) ?_ ?_|refine QF 7 (l:=?_) ?_ ?_);rotate_left 1;focus (simp only [Zu,Nat.reduceSub,Nat.reduceBEq];with_reducible rfl))|((with_reducible first|refine QS (cfg_ok 28) Tab.none (s':=?_) ?_ ?_|refine QC (b:=?_) ?_ ?_);rotate_left 1;focus ((with_reducible refine QW ?_);simp only [Zg,seval,if_true,if_false,reduceCtorEq,Nat.reduceEqDiff,i1,hlm];with_reducible rfl)))
   refine roundK.out () trivial ?_
   (repeat' (first|with_reducible refine Qn|((with_reducible refine Qr ?_ ?_);focus (first|with_reducible rfl|(simp only [Zz,Nat.reduceBEq];done)|rfl))|((with_reducible refine Qj (o':=?_) ?_ ?_ ?_);rotate_left 1;focus rfl)|((with_reducible refine Qw ?_ ?_);(focus (first|with_reducible rfl|(simp only [Zv];done)));focus (first|exact id|exact (fun h => nomatch h)|exact (fun _ => rfl)))))
 ·intro _ _
  repeat' (first|with_reducible (first|refine Q1 ?_|refine Q2 ?_|refine Q3 ?_|refine Q4 ?_|refine Q5 ?_|refine Q6 ?_|refine Q7 ?_|refine Q8 ?_|refine Q9 ?_|refine Qa ?_|refine Qb ?_|refine Qc ?_|refine Qd ?_|refine Qe ?_|refine Qf ?_)|((with_reducible refine Qo ?_ ?_);focus rfl)|((with_reducible first|refine QT 7 (l:=?_) ?_ ?_|refine QF 7 (l:=?_) ?_ ?_);rotate_left 1;focus (simp only [Zu,Nat.reduceSub,Nat.reduceBEq];with_reducible rfl))|((with_reducible first|refine QS (cfg_ok 28) Tab.none (s':=?_) ?_ ?_|refine QC (b:=?_) ?_ ?_);rotate_left 1;focus ((with_reducible refine QW ?_);simp only [Zg,seval,if_true,if_false,reduceCtorEq,Nat.reduceEqDiff];with_reducible rfl)))
  (refine Ends.mk (by simp) (rs:=?_) (ks:=?_) hres hrts ?_ ?_ ?_;rotate_left 2;(focus (simp only [Ze,Zg,seval,if_true,if_false,reduceCtorEq,Nat.reduceEqDiff];with_reducible rfl));(focus simp);focus (first|with_reducible rfl|(simp only [Zv];done)))
end Go.Proofs.Ytofpjonggpjneaa
namespace Go.Proofs.Ytofpjonggpjneaa
open Go.RowKit
theorem bpOf_in (u v:List Int):In64 (bpOf u v).2:=by unfold bpOf ckOf;split <;> (try split) <;> (try split) <;> (unfold In64;simp)
theorem tab_two {A:Nat→Prop} {w:World} {s t:List Int} {vs:List Value} (h:relArgs A w [eL s,eL t] vs):∃ v u,vs = [v,u]∧Rd (RS RI) w [v] s∧Rd (RS RI) w [u] t:=by
 obtain ⟨v1,_,e1,h1,v2,_,e2,h2,e3⟩:=h
 have e3:_ = []:=e3
 subst e3;subst e2;subst e1
 exact ⟨v1,v2,rfl,Rd.of (rd1 h1),Rd.of (rd1 h2)⟩
theorem a_impl_ButcherProduct (u v:List Int):AFn Try.prog 43 [eL u,eL v] (· = [.own 1 ((bpOf u v).1.map eI) true,.val (.int (bpOf u v).2)]) :=
 AFn.of_oc encI (bpOf_in u v) (enters_of Try.func43 rfl rfl) (fun w A vs h => by
  obtain ⟨v1,v2,rfl,h1,h2⟩:=tab_two h
  exact k_impl_ButcherProduct v1 v2 u v w h1 h2)
end Go.Proofs.Ytofpjonggpjneaa
namespace Go.Proofs.Ytofpjonggpjneaa
open Go.RowKit
noncomputable def TDw {code:List Int} (hc:Bytes code) (hl:code.length ≤ 1000000000):Tab Try.prog :=
 ((Tab.none.pin 108 (nxtE code) (nxt_l01Next hc hl)).pin 91 (drwE code (drw1 (drawAnyG code))) (p_l03DrawAny hc hl).ok).pin 92 (drwE code (drwL (pickG code))) (p_l01Pick hc hl).ok
end Go.Proofs.Ytofpjonggpjneaa
namespace Go.Proofs.Ytofpjonggpjneaa
open Go.RowKit
def drawPr (code:List Int):List Int × List Int:=((drawAnyF code (src0 code) 5).1,(drawAnyF code (drawAnyF code (src0 code) 5).2 4).1)
theorem drawPr_ok {code:List Int} (hc:Bytes code):AOk 14 (drawPr code).1∧AOk 13 (drawPr code).2:=by
 obtain ⟨h1,h2⟩:=drawAnyF_ok hc (s:=src0 code) (m:=5) (Nat.zero_le _)
 exact ⟨h1,(drawAnyF_ok hc (m:=4) h2).1⟩
set_option maxHeartbeats 4000000 in
theorem a_l04DrawPair {code:List Int} (hc:Bytes code) (hl:code.length ≤ 1000000000):AFn Try.prog 121 [eCode code] (· = [.own 1 ((drawPr code).1.map eI) true,.own 1 ((drawPr code).2.map eI) true]):=by
 have hfrom:=p_l01From hc hl
 have hs:(src0 code).1 ≤ code.length:=Nat.zero_le _
 obtain ⟨_,h2⟩:=drawAnyF_ok hc (s:=src0 code) (m:=5) hs
 have hd1:=drw1_eq (G:=drawAnyG code) hs (m:=5) (by omega)
 have hd2:=drw1_eq (G:=drawAnyG code) h2 (m:=4) (by omega)
 unfold drawPr
 have e1:drawAnyG code (src0 code) 5 = ([.own 1 ((drawAnyF code (src0 code) 5).1.map eI) true],(drawAnyF code (src0 code) 5).2):=rfl
 rw [e1] at hd1
 obtain ⟨⟨t,s1⟩,hp⟩:∃ p,p = drawAnyF code (src0 code) 5:=⟨_,rfl⟩
 rw [← hp] at hd1 hd2 h2 ⊢
 simp only at hd1 hd2 h2 ⊢
 have e2:drawAnyG code s1 4 = ([.own 1 ((drawAnyF code s1 4).1.map eI) true],(drawAnyF code s1 4).2):=rfl
 rw [e2] at hd2
 obtain ⟨⟨u,s2⟩,hq⟩:∃ p,p = drawAnyF code s1 4:=⟨_,rfl⟩
 rw [← hq] at hd2 ⊢
 simp only [eCode,dCode] at hfrom ⊢
 refine AFn.of_runs (cfg_ok 11) Try.func121 rfl rfl rfl (by simp only [List.length_cons,List.length_nil];decide) ?_
 have hres:Try.f121.results.toList = [.tmp 2,.tmp 3]:=rfl
 have hrts:Try.f121.resultTypes.toList = [24,24]:=rfl
 simp only [argRegs,argAV1,eL,eI,eLL,eB,Nat.zero_add,Nat.reduceAdd,eCode,dCode]
 intro M
 refine RunK.of ?_
 ((repeat' (first|with_reducible (first|refine Q1 ?_|refine Q2 ?_|refine Q3 ?_|refine Q4 ?_|refine Q5 ?_|refine Q6 ?_|refine Q7 ?_|refine Q8 ?_|refine Q9 ?_|refine Qa ?_|refine Qb ?_|refine Qc ?_|refine Qd ?_|refine Qe ?_|refine Qf ?_)|((with_reducible refine Qo ?_ ?_);focus rfl)|((with_reducible first|refine QT 5 (l:=?_) ?_ ?_|refine QF 5 (l:=?_) ?_ ?_);rotate_left 1;focus (simp only [Zu,Nat.reduceSub,Nat.reduceBEq];with_reducible rfl))|((with_reducible refine QC (b:=?_) ?_ ?_);rotate_left 1;focus ((with_reducible refine QW ?_);simp only [Zg,seval,if_true,if_false,reduceCtorEq,Nat.reduceEqDiff];with_reducible rfl))));((with_reducible refine QS (cfg_ok 11) Tab.none (s':=?_) ?_ ?_);rotate_left 1;focus ((with_reducible refine QW ?_);simp only [Zg,seval,if_true,if_false,reduceCtorEq,Nat.reduceEqDiff];with_reducible rfl));(repeat' (first|with_reducible (first|refine Q1 ?_|refine Q2 ?_|refine Q3 ?_|refine Q4 ?_|refine Q5 ?_|refine Q6 ?_|refine Q7 ?_|refine Q8 ?_|refine Q9 ?_|refine Qa ?_|refine Qb ?_|refine Qc ?_|refine Qd ?_|refine Qe ?_|refine Qf ?_)|((with_reducible refine Qo ?_ ?_);focus rfl)|((with_reducible first|refine QT 5 (l:=?_) ?_ ?_|refine QF 5 (l:=?_) ?_ ?_);rotate_left 1;focus (simp only [Zu,Nat.reduceSub,Nat.reduceBEq];with_reducible rfl))|((with_reducible refine QC (b:=?_) ?_ ?_);rotate_left 1;focus ((with_reducible refine QW ?_);simp only [Zg,seval,if_true,if_false,reduceCtorEq,Nat.reduceEqDiff];with_reducible rfl)))))
 ((repeat' (first|with_reducible (first|refine Q1 ?_|refine Q2 ?_|refine Q3 ?_|refine Q4 ?_|refine Q5 ?_|refine Q6 ?_|refine Q7 ?_|refine Q8 ?_|refine Q9 ?_|refine Qa ?_|refine Qb ?_|refine Qc ?_|refine Qd ?_|refine Qe ?_|refine Qf ?_)|((with_reducible refine Qo ?_ ?_);focus rfl)|((with_reducible first|refine QT 5 (l:=?_) ?_ ?_|refine QF 5 (l:=?_) ?_ ?_);rotate_left 1;focus (simp only [Zu,Nat.reduceSub,Nat.reduceBEq];with_reducible rfl))|((with_reducible refine QC (b:=?_) ?_ ?_);rotate_left 1;focus ((with_reducible refine QW ?_);simp only [Zg,seval,if_true,if_false,reduceCtorEq,Nat.reduceEqDiff];with_reducible rfl))));(with_reducible refine RunK.regCut (cfg_ok 11) Tab.none 1 (s1:=?_) ?_ ?_);rotate_left 1;(focus ((with_reducible refine QW ?_);simp only [Zg,seval,if_true,if_false,reduceCtorEq,Nat.reduceEqDiff];with_reducible rfl));simp only [List.toList_toArray,List.drop_succ_cons,List.drop_zero])
 refine ROps.callR (cfg_ok 11) rfl (d:=6) rfl (by decide) rfl rfl rfl rfl hfrom rfl ?_
 intro b
 (refine ROps.opsT (cfg_ok 11) (T:=Tab.none) (s':=?_) ?_ ?_;rotate_left 1;focus (simp only [Zg,seval,if_true,if_false,reduceCtorEq,Nat.reduceEqDiff];with_reducible rfl))
 ((repeat' (first|with_reducible (first|refine Q1 ?_|refine Q2 ?_|refine Q3 ?_|refine Q4 ?_|refine Q5 ?_|refine Q6 ?_|refine Q7 ?_|refine Q8 ?_|refine Q9 ?_|refine Qa ?_|refine Qb ?_|refine Qc ?_|refine Qd ?_|refine Qe ?_|refine Qf ?_)|((with_reducible refine Qo ?_ ?_);focus rfl)|((with_reducible first|refine QT 5 (l:=?_) ?_ ?_|refine QF 5 (l:=?_) ?_ ?_);rotate_left 1;focus (simp only [Zu,Nat.reduceSub,Nat.reduceBEq];with_reducible rfl))|((with_reducible refine QC (b:=?_) ?_ ?_);rotate_left 1;focus ((with_reducible refine QW ?_);simp only [Zg,seval,if_true,if_false,reduceCtorEq,Nat.reduceEqDiff,TDw,hd1,drwE,srcD_len];with_reducible rfl))));(with_reducible refine RunK.regCut (cfg_ok 11) (TDw hc hl) 0 (s1:=?_) ?_ ?_);rotate_left 1;(focus ((with_reducible refine QW ?_);simp only [Zg,seval,if_true,if_false,reduceCtorEq,Nat.reduceEqDiff,TDw,hd1,drwE,srcD_len];with_reducible rfl));simp only [List.toList_toArray,List.drop_succ_cons,List.drop_zero])
 (refine ROps.opsT (cfg_ok 11) (T:=TDw hc hl) (s':=?_) ?_ ?_;rotate_left 1;focus (simp only [Zg,seval,if_true,if_false,reduceCtorEq,Nat.reduceEqDiff,TDw,hd1,hd2,drwE,nxtE,srcD_len];with_reducible rfl))
 repeat' (first|with_reducible (first|refine Q1 ?_|refine Q2 ?_|refine Q3 ?_|refine Q4 ?_|refine Q5 ?_|refine Q6 ?_|refine Q7 ?_|refine Q8 ?_|refine Q9 ?_|refine Qa ?_|refine Qb ?_|refine Qc ?_|refine Qd ?_|refine Qe ?_|refine Qf ?_)|((with_reducible refine Qo ?_ ?_);focus rfl)|((with_reducible first|refine QT 5 (l:=?_) ?_ ?_|refine QF 5 (l:=?_) ?_ ?_);rotate_left 1;focus (simp only [Zu,Nat.reduceSub,Nat.reduceBEq];with_reducible rfl))|((with_reducible first|refine QS (cfg_ok 11) Tab.none (s':=?_) ?_ ?_|refine QC (b:=?_) ?_ ?_);rotate_left 1;focus ((with_reducible refine QW ?_);simp only [Zg,seval,if_true,if_false,reduceCtorEq,Nat.reduceEqDiff];with_reducible rfl)))
 (refine Ends.mk (by simp) (rs:=?_) (ks:=?_) hres hrts ?_ ?_ ?_;rotate_left 2;(focus (simp only [Ze,Zg,seval,if_true,if_false,reduceCtorEq,Nat.reduceEqDiff];with_reducible rfl));(focus simp);focus (first|with_reducible rfl|(simp only [Zv];done)))
theorem a_DrawGraftSum {code:List Int} (hc:Bytes code) (hl:code.length ≤ 1000000000):AFn Try.prog 44 [eCode code] (· = [.own 1 ((drawPr code).1.map eI) true,.own 1 ((drawPr code).2.map eI) true]):=by
 have h:=a_l04DrawPair hc hl
 simp only [eCode,dCode] at h ⊢
 refine AFn.of_runs (cfg_ok 8) Try.func44 rfl rfl rfl (by simp only [List.length_cons,List.length_nil];decide) ?_
 have hres:Try.f44.results.toList = [.tmp 2,.tmp 3]:=rfl
 have hrts:Try.f44.resultTypes.toList = [24,24]:=rfl
 simp only [argRegs,argAV1,eL,eI,eLL,eB,Nat.zero_add,Nat.reduceAdd,eCode,dCode]
 intro M
 refine RunK.of ?_
 repeat' (first|with_reducible (first|refine Q1 ?_|refine Q2 ?_|refine Q3 ?_|refine Q4 ?_|refine Q5 ?_|refine Q6 ?_|refine Q7 ?_|refine Q8 ?_|refine Q9 ?_|refine Qa ?_|refine Qb ?_|refine Qc ?_|refine Qd ?_|refine Qe ?_|refine Qf ?_)|((with_reducible refine Qo ?_ ?_);focus rfl)|((with_reducible first|refine QT 4 (l:=?_) ?_ ?_|refine QF 4 (l:=?_) ?_ ?_);rotate_left 1;focus (simp only [Zu,Nat.reduceSub,Nat.reduceBEq];with_reducible rfl))|((with_reducible first|refine QS (cfg_ok 8) (Tab.none.at' 121 h) (s':=?_) ?_ ?_|refine QC (b:=?_) ?_ ?_);rotate_left 1;focus ((with_reducible refine QW ?_);simp only [Zg,seval,if_true,if_false,reduceCtorEq,Nat.reduceEqDiff];with_reducible rfl)))
 (refine Ends.mk (by simp) (rs:=?_) (ks:=?_) hres hrts ?_ ?_ ?_;rotate_left 2;(focus (simp only [Ze,Zg,seval,if_true,if_false,reduceCtorEq,Nat.reduceEqDiff];with_reducible rfl));(focus simp);focus (first|with_reducible rfl|(simp only [Zv];done)))
end Go.Proofs.Ytofpjonggpjneaa
namespace Go.Proofs.Ytofpjonggpjneaa
open Go.RowKit
theorem AOk.small {n:Nat} {t:List Int} (h:AOk n t) (hn:n ≤ 1000):t.length ≤ 1000:=by have:=h.len;omega
theorem tmsF_nn {L:List (List Int × Int)} (h:∀ z ∈ L,0 ≤ z.2) (t:List Int):∀ i,i ≤ L.length→0 ≤ tmsF L t i
 | 0,_ => by simp [tmsF]
 | i + 1,hi => by
  have h1:=tmsF_nn h t i (by omega)
  have e:L.getD i ([],0) = L[i]:=by rw [List.getD_eq_getElem?_getD,List.getElem?_eq_getElem (by omega)];rfl
  have h2:=h L[i] (List.getElem_mem _)
  unfold tmsF
  rw [e]
  split <;> omega
theorem tmsF_pos {L:List (List Int × Int)} (h:∀ z ∈ L,1 ≤ z.2) {t:List Int} (hm:∃ z ∈ L,z.1 = t):1 ≤ tmsF L t L.length:=by
 obtain ⟨z,hz,e⟩:=hm
 obtain ⟨k,hk,rfl⟩:=List.mem_iff_getElem.1 hz
 have key:∀ j,k < j→j ≤ L.length→1 ≤ tmsF L t j:=by
  intro j
  induction j with
  | zero => intro h;omega
  | succ j ih =>
   intro h1 h2
   have e2:L.getD j ([],0) = L[j]:=by rw [List.getD_eq_getElem?_getD,List.getElem?_eq_getElem (by omega)];rfl
   have h3:=h L[j] (List.getElem_mem _)
   have h4:=tmsF_nn (fun z hz => by have:=h z hz;omega) t j (by omega)
   unfold tmsF
   rw [e2]
   by_cases hkj:k = j
   ·subst hkj
    rw [if_pos e];omega
   ·have:=ih (by omega) (by omega)
    split <;> omega
 exact key _ hk (Nat.le_refl _)
theorem totF_bd {L:List (List Int × Int)} (h:∀ z ∈ L,0 ≤ z.2∧z.2 ≤ 1000):∀ i,i ≤ L.length→0 ≤ totF L i∧totF L i ≤ 1000 * i
 | 0,_ => by simp [totF]
 | i + 1,hi => by
  have h1:=totF_bd h i (by omega)
  have e:L.getD i ([],0) = L[i]:=by rw [List.getD_eq_getElem?_getD,List.getElem?_eq_getElem (by omega)];rfl
  have h2:=h L[i] (List.getElem_mem _)
  unfold totF
  rw [e]
  omega
noncomputable def TSy:Tab Try.prog:=Tab.none.add 46 (tab1 codL fun t => some [.val (.int (symOf t).1)]) (tab1_ok fun t rs h => by cases h;exact a_symmetry9 t)
set_option maxRecDepth 20000 in
set_option maxHeartbeats 16000000 in
theorem a_FnGraftCounts (code:List Int) (hc:Bytes code):AFn Try.prog 7 [eCode code] (· = [.val (.bool true)]):=by
 have hbg:=a_big code
 by_cases hbig:4096 < code.length
 ·rw [decide_eq_true hbig] at hbg
  simp only [eCode,dCode] at hbg
  refine AFn.of_runs (cfg_ok 122) Try.func7 rfl rfl rfl (by simp only [List.length_cons,List.length_nil];decide) ?_
  have hres:Try.f7.results.toList = [.tmp 2]:=rfl
  have hrts:Try.f7.resultTypes.toList = [4]:=rfl
  simp only [argRegs,argAV1,eL,eI,eLL,eB,Nat.zero_add,Nat.reduceAdd,eCode,dCode]
  intro M
  refine RunK.of ?_
  repeat' (first|with_reducible (first|refine Q1 ?_|refine Q2 ?_|refine Q3 ?_|refine Q4 ?_|refine Q5 ?_|refine Q6 ?_|refine Q7 ?_|refine Q8 ?_|refine Q9 ?_|refine Qa ?_|refine Qb ?_|refine Qc ?_|refine Qd ?_|refine Qe ?_|refine Qf ?_)|((with_reducible refine Qo ?_ ?_);focus rfl)|((with_reducible first|refine QT 17 (l:=?_) ?_ ?_|refine QF 17 (l:=?_) ?_ ?_);rotate_left 1;focus (simp only [Zu,Nat.reduceSub,Nat.reduceBEq];with_reducible rfl))|((with_reducible first|refine QS (cfg_ok 122) (Tab.none.at' 13 hbg) (s':=?_) ?_ ?_|refine QC (b:=?_) ?_ ?_);rotate_left 1;focus ((with_reducible refine QW ?_);simp only [Zg,seval,if_true,if_false,reduceCtorEq,Nat.reduceEqDiff];with_reducible rfl))|((with_reducible refine QD (cfg_ok 122) (Tab.none.at' 13 hbg) mixed_ok (tr:=?_) (s':=?_) ?_ ?_ ?_);rotate_left 2;(focus ((with_reducible refine QW ?_);simp only [Zg,Zd,seval,if_true,if_false,reduceCtorEq,Nat.reduceEqDiff];with_reducible rfl));focus ((with_reducible refine QK ?_);simp only [Zk];kernel_rfl)))
  (refine Ends.mk (by simp) (rs:=?_) (ks:=?_) hres hrts ?_ ?_ ?_;rotate_left 2;(focus (simp only [Ze,Zg,seval,if_true,if_false,reduceCtorEq,Nat.reduceEqDiff];with_reducible rfl));(focus simp);focus (first|with_reducible rfl|(simp only [Zv];done)))
 rw [decide_eq_false hbig] at hbg
 have hl:code.length ≤ 1000000000:=by omega
 have hdr:=a_DrawGraftSum hc hl
 obtain ⟨hu0,hv0⟩:=drawPr_ok hc
 obtain ⟨⟨u,v⟩,hp⟩:∃ p,p = drawPr code:=⟨_,rfl⟩
 rw [← hp] at hdr hu0 hv0
 simp only at hdr hu0 hv0
 have hu1:=hu0.small (by omega)
 have hv1:=hv0.small (by omega)
 have h1:=a_impl_GraftSum u v (by omega) (by omega)
 have h2:=a_spec_GraftSum u v (by omega) (by omega)
 have b0:((0:Int) != 0) = false:=by decide
 have b1:((1:Int) != 0) = true:=by decide
 have b3:((3:Int) != 0) = true:=by decide
 have b11:((1:Int) != 1) = false:=by decide
 have b33:((3:Int) != 3) = false:=by decide
 have b00:((0:Int) == 0) = true:=by decide
 have hum:(u.map eI).length = u.length:=List.length_map _
 simp only [eCode,dCode,eL] at hbg hdr h1 h2
 by_cases hb:(lev8 u && lev8 v) = true
 rotate_left
 ·have e:gsOf u v = ([],1):=by unfold gsOf;rw [if_neg hb]
  have hfl:(!(lev8 u && lev8 v && decide (u.length + v.length ≤ 8))) = true:=by
   rw [Bool.not_eq_true] at hb
   rw [hb];rfl
  rw [e] at h1 h2
  rw [hfl] at h2
  refine AFn.of_runs (cfg_ok 122) Try.func7 rfl rfl rfl (by simp only [List.length_cons,List.length_nil];decide) ?_
  have hres:Try.f7.results.toList = [.tmp 2]:=rfl
  have hrts:Try.f7.resultTypes.toList = [4]:=rfl
  simp only [argRegs,argAV1,eL,eI,eLL,eB,Nat.zero_add,Nat.reduceAdd,eCode,dCode]
  intro M
  refine RunK.of ?_
  repeat' (first|with_reducible (first|refine Q1 ?_|refine Q2 ?_|refine Q3 ?_|refine Q4 ?_|refine Q5 ?_|refine Q6 ?_|refine Q7 ?_|refine Q8 ?_|refine Q9 ?_|refine Qa ?_|refine Qb ?_|refine Qc ?_|refine Qd ?_|refine Qe ?_|refine Qf ?_)|((with_reducible refine Qo ?_ ?_);focus rfl)|((with_reducible first|refine QT 17 (l:=?_) ?_ ?_|refine QF 17 (l:=?_) ?_ ?_);rotate_left 1;focus (simp only [Zu,Nat.reduceSub,Nat.reduceBEq];with_reducible rfl))|((with_reducible first|refine QS (cfg_ok 122) ((((Tab.none.at' 13 hbg).at' 44 hdr).at' 31 h1).at' 45 h2) (s':=?_) ?_ ?_|refine QC (b:=?_) ?_ ?_);rotate_left 1;focus ((with_reducible refine QW ?_);simp only [Zg,seval,if_true,if_false,reduceCtorEq,Nat.reduceEqDiff,b1,b11,b00,List.map_nil,List.length_nil,Int.natCast_zero];with_reducible rfl))|((with_reducible refine QD (cfg_ok 122) ((((Tab.none.at' 13 hbg).at' 44 hdr).at' 31 h1).at' 45 h2) mixed_ok (tr:=?_) (s':=?_) ?_ ?_ ?_);rotate_left 2;(focus ((with_reducible refine QW ?_);simp only [Zg,Zd,seval,if_true,if_false,reduceCtorEq,Nat.reduceEqDiff,b1,b11,b00,List.map_nil,List.length_nil,Int.natCast_zero];with_reducible rfl));focus ((with_reducible refine QK ?_);simp only [Zk];kernel_rfl)))
  (refine Ends.mk (by simp) (rs:=?_) (ks:=?_) hres hrts ?_ ?_ ?_;rotate_left 2;(focus (simp only [Ze,Zg,seval,if_true,if_false,reduceCtorEq,Nat.reduceEqDiff];with_reducible rfl));(focus simp);focus (first|with_reducible rfl|(simp only [Zv];done)))
 by_cases h8:u.length + v.length ≤ 8
 rotate_left
 ·have e:gsOf u v = ([],3):=by unfold gsOf;rw [if_pos hb,if_neg h8]
  have hfl:(!(lev8 u && lev8 v && decide (u.length + v.length ≤ 8))) = true:=by
   rw [decide_eq_false h8,Bool.and_false];rfl
  rw [e] at h1 h2
  rw [hfl] at h2
  refine AFn.of_runs (cfg_ok 122) Try.func7 rfl rfl rfl (by simp only [List.length_cons,List.length_nil];decide) ?_
  have hres:Try.f7.results.toList = [.tmp 2]:=rfl
  have hrts:Try.f7.resultTypes.toList = [4]:=rfl
  simp only [argRegs,argAV1,eL,eI,eLL,eB,Nat.zero_add,Nat.reduceAdd,eCode,dCode]
  intro M
  refine RunK.of ?_
  repeat' (first|with_reducible (first|refine Q1 ?_|refine Q2 ?_|refine Q3 ?_|refine Q4 ?_|refine Q5 ?_|refine Q6 ?_|refine Q7 ?_|refine Q8 ?_|refine Q9 ?_|refine Qa ?_|refine Qb ?_|refine Qc ?_|refine Qd ?_|refine Qe ?_|refine Qf ?_)|((with_reducible refine Qo ?_ ?_);focus rfl)|((with_reducible first|refine QT 17 (l:=?_) ?_ ?_|refine QF 17 (l:=?_) ?_ ?_);rotate_left 1;focus (simp only [Zu,Nat.reduceSub,Nat.reduceBEq];with_reducible rfl))|((with_reducible first|refine QS (cfg_ok 122) ((((Tab.none.at' 13 hbg).at' 44 hdr).at' 31 h1).at' 45 h2) (s':=?_) ?_ ?_|refine QC (b:=?_) ?_ ?_);rotate_left 1;focus ((with_reducible refine QW ?_);simp only [Zg,seval,if_true,if_false,reduceCtorEq,Nat.reduceEqDiff,b3,b33,b00,List.map_nil,List.length_nil,Int.natCast_zero];with_reducible rfl))|((with_reducible refine QD (cfg_ok 122) ((((Tab.none.at' 13 hbg).at' 44 hdr).at' 31 h1).at' 45 h2) mixed_ok (tr:=?_) (s':=?_) ?_ ?_ ?_);rotate_left 2;(focus ((with_reducible refine QW ?_);simp only [Zg,Zd,seval,if_true,if_false,reduceCtorEq,Nat.reduceEqDiff,b3,b33,b00,List.map_nil,List.length_nil,Int.natCast_zero];with_reducible rfl));focus ((with_reducible refine QK ?_);simp only [Zk];kernel_rfl)))
  (refine Ends.mk (by simp) (rs:=?_) (ks:=?_) hres hrts ?_ ?_ ?_;rotate_left 2;(focus (simp only [Ze,Zg,seval,if_true,if_false,reduceCtorEq,Nat.reduceEqDiff];with_reducible rfl));(focus simp);focus (first|with_reducible rfl|(simp only [Zv];done)))
 have hfl:(!(lev8 u && lev8 v && decide (u.length + v.length ≤ 8))) = false:=by
  rw [decide_eq_true h8,Bool.and_true,hb];rfl
 rw [hfl] at h2
 rw [Bool.and_eq_true] at hb
 have F:=gc_all hb.1 hb.2 h8
 have e1:(symOf u).1 = symF 9 u:=by unfold symOf;rw [if_pos hb.1]
 have e2:(symOf v).1 = symF 9 v:=by unfold symOf;rw [if_pos hb.2]
 obtain ⟨L,hL⟩:∃ L,L = (gsOf u v).1:=⟨_,rfl⟩
 obtain ⟨x,hx⟩:∃ x,x = symF 9 u:=⟨_,rfl⟩
 obtain ⟨y,hy⟩:∃ y,y = symF 9 v:=⟨_,rfl⟩
 have f1:=F.len;have f2:=F.tot;have f3:=F.any;have f4:=F.su;have f5:=F.sv;have f6:=F.all
 rw [F.gs,← hL] at h1 h2
 rw [← hL] at f1 f2 f3 f6
 rw [← hx] at e1 f4
 rw [← hy] at e2 f5
 have hlm:(L.map eCt).length = L.length:=List.length_map _
 have hbd:=totF_bd (L:=L) (fun z hz => by have:=f6 z hz;have:=this.c1;have:=(f6 z hz).c8;omega)
 have hbp:=a_impl_ButcherProduct u v
 rw [F.bp] at hbp
 obtain ⟨r,hr⟩:∃ r,r = (bpOf u v).1:=⟨_,rfl⟩
 rw [← hr] at hbp f3
 have hzb:∀ z ∈ L,z.1.length ≤ 1000000∧0 ≤ z.2∧z.2 ≤ 1000000:=fun z hz => by
  have k:=f6 z hz
  have k1:=lev8_len k.lev
  have k2:=k.c1
  have k3:=k.c8
  omega
 have htm:=a_times9 L r (by omega) hzb
 have htp:=tmsF_pos (L:=L) (fun z hz => (f6 z hz).c1) f3
 obtain ⟨q,hq⟩:∃ q,q = tmsF L r L.length:=⟨_,rfl⟩
 rw [← hq] at htm htp
 have q0:(q > 0) = True:=eq_true (by omega)
 have bu:((u.length:Int) == (u.length:Int)) = true:=by simp
 simp only [eL] at hbp htm
 refine AFn.of_runs (cfg_ok 122) Try.func7 rfl rfl rfl (by simp only [List.length_cons,List.length_nil];decide) ?_
 have hres:Try.f7.results.toList = [.tmp 2]:=rfl
 have hrts:Try.f7.resultTypes.toList = [4]:=rfl
 simp only [argRegs,argAV1,eL,eI,eLL,eB,Nat.zero_add,Nat.reduceAdd,eCode,dCode]
 intro M
 refine RunK.of ?_
 repeat' (first|with_reducible (first|refine Q1 ?_|refine Q2 ?_|refine Q3 ?_|refine Q4 ?_|refine Q5 ?_|refine Q6 ?_|refine Q7 ?_|refine Q8 ?_|refine Q9 ?_|refine Qa ?_|refine Qb ?_|refine Qc ?_|refine Qd ?_|refine Qe ?_|refine Qf ?_)|((with_reducible refine Qo ?_ ?_);focus rfl)|((with_reducible first|refine QT 17 (l:=?_) ?_ ?_|refine QF 17 (l:=?_) ?_ ?_);rotate_left 1;focus (simp only [Zu,Nat.reduceSub,Nat.reduceBEq];with_reducible rfl))|((with_reducible first|refine QS (cfg_ok 122) ((((TSy.at' 13 hbg).at' 44 hdr).at' 31 h1).at' 45 h2) (s':=?_) ?_ ?_|refine QC (b:=?_) ?_ ?_);rotate_left 1;focus ((with_reducible refine QW ?_);simp only [Zg,seval,if_true,if_false,reduceCtorEq,Nat.reduceEqDiff,TSy,b0,hlm,e1,e2];with_reducible rfl))|((with_reducible refine QD (cfg_ok 122) ((((TSy.at' 13 hbg).at' 44 hdr).at' 31 h1).at' 45 h2) mixed_ok (tr:=?_) (s':=?_) ?_ ?_ ?_);rotate_left 2;(focus ((with_reducible refine QW ?_);simp only [Zg,Zd,seval,if_true,if_false,reduceCtorEq,Nat.reduceEqDiff,TSy,b0,hlm,e1,e2];with_reducible rfl));focus ((with_reducible refine QK ?_);simp only [Zk];kernel_rfl)))
 refine RunK.frz 5 ?_
 refine RunK.fits (s0:=⟨[(3,.c (.val (.sl 1 (u.map eI)))),(4,.c (.val (.sl 1 (v.map eI)))),(5,.c (.val (.sl 2 (L.map eCt)))),(9,.c (.val (.int x))),(10,.c (.val (.int y))),(11,.c (.val (.int 0))),(12,.c (.val (.int 0)))],[]⟩) ?_ ?_
 ·(repeat' (first|with_reducible refine Qn|((with_reducible refine Qr ?_ ?_);focus (first|with_reducible rfl|(simp only [Zz,Nat.reduceBEq,St.frz,frzR,frzH,look,AV.frz,AC.frz,Obj.frz,drop];done)|rfl))|((with_reducible refine Qj (o':=?_) ?_ ?_ ?_);rotate_left 1;focus rfl)|((with_reducible refine Qw ?_ ?_);(focus (first|with_reducible rfl|(simp only [Zv,St.frz,frzR,frzH,look,AV.frz,AC.frz,Obj.frz,drop];done)));focus (first|exact id|exact (fun h => nomatch h)|exact (fun _ => rfl)))))
  all_goals first|exact ⟨rfl,rfl⟩|exact ⟨rfl,rfl,id⟩
 refine RunK.loop (β:=Nat) (γ:=Unit) (fun i => ⟨[(3,.c (.val (.sl 1 (u.map eI)))),(4,.c (.val (.sl 1 (v.map eI)))),(5,.c (.val (.sl 2 (L.map eCt)))),(9,.c (.val (.int x))),(10,.c (.val (.int y))),(11,.c (.val (.int (totF L i)))),(12,.c (.val (.int i)))],[]⟩) (fun i => i ≤ L.length) (fun i => L.length - i)
  (fun _ => ⟨[(3,.c (.val (.sl 1 (u.map eI)))),(4,.c (.val (.sl 1 (v.map eI)))),(5,.c (.val (.sl 2 (L.map eCt)))),(11,.c (.val (.int (totF L L.length))))],[]⟩) (fun _ => True) 0 (Nat.zero_le _) ?_ ?_ ?_
 ·(repeat' (first|with_reducible refine Qn|((with_reducible refine Qr ?_ ?_);focus (first|with_reducible rfl|(simp only [Zz,Nat.reduceBEq,Int.natCast_zero,show totF L 0 = 0 from rfl];done)|rfl))|((with_reducible refine Qj (o':=?_) ?_ ?_ ?_);rotate_left 1;focus rfl)|((with_reducible refine Qw ?_ ?_);(focus (first|with_reducible rfl|(simp only [Zv,Int.natCast_zero,show totF L 0 = 0 from rfl];done)));focus (first|exact id|exact (fun h => nomatch h)|exact (fun _ => rfl)))))
 ·intro i hi
  have hi:i ≤ L.length:=hi
  have hw:=w64_succ (n:=i) (by omega)
  by_cases h:i < L.length
  ·have i1:((i:Int) < (L.length:Int)) = True:=eq_true (by omega)
   have i2:((0:Int) ≤ (i:Int)) = True:=eq_true (by omega)
   have e:L.getD i ([],0) = L[i]:=by rw [List.getD_eq_getElem?_getD,List.getElem?_eq_getElem h];rfl
   have hg:(L.map eCt)[i]? = some (eCt L[i]):=by rw [List.getElem?_map,List.getElem?_eq_getElem h];rfl
   have F:=f6 L[i] (List.getElem_mem _)
   have ht1:totF L (i + 1) = totF L i + L[i].2:=by show totF L i + (L.getD i ([],0)).2 = _;rw [e]
   have hb0:=hbd i (by omega)
   obtain ⟨⟨z,k⟩,hzk⟩:∃ q,q = L[i]:=⟨_,rfl⟩
   rw [← hzk] at hg F ht1
   simp only at F ht1
   have hcc:=a_CountCutsTo z u v F.cb
   have g1:=F.c1;have g2:=F.c8;have g3:=F.s0;have g4:=F.s1;have g5:=F.c0;have g6:=F.ch;have g7:=F.eq
   simp only at g1 g2 g3 g4 g5 g6 g7
   rw [show (cctOf z u v).2 = 0 from F.cc] at hcc
   have e3:(symOf z).1 = symF 9 z:=by unfold symOf;rw [if_pos F.lev]
   rw [← hx,← hy] at g7
   obtain ⟨m,hm⟩:∃ m,m = (cctOf z u v).1:=⟨_,rfl⟩
   obtain ⟨s,hs⟩:∃ s,s = symF 9 z:=⟨_,rfl⟩
   rw [← hm] at hcc g5 g6 g7
   rw [← hs] at e3 g3 g4 g7
   have k1:(k < 1) = False:=eq_false (by omega)
   have w1:w64 (totF L i + k) = totF L (i + 1):=by rw [ht1];exact w64_eq (by omega)
   have hks:0 ≤ k * s∧k * s ≤ 40320:=by
    have h1:=Int.mul_nonneg (show 0 ≤ k by omega) g3
    have h2:=Int.mul_le_mul (a:=k) (b:=s) (c:=8) (d:=5040) g2 g4 g3 (by omega)
    omega
   have hmx:0 ≤ m * x∧m * x ≤ 40320:=by
    have h1:=Int.mul_nonneg g5 f4.1
    have h2:=Int.mul_le_mul (a:=m) (b:=x) (c:=8) (d:=5040) g6 f4.2 f4.1 (by omega)
    omega
   have w2:w64 (k * s) = k * s:=w64_eq (by omega)
   have w3:w64 (m * x) = m * x:=w64_eq (by omega)
   have w4:w64 (m * x * y) = k * s:=by rw [← g7];exact w2
   have bks:(k * s != k * s) = false:=by simp
   simp only [eL] at hcc
   simp only [eCt] at hg
   repeat' (first|with_reducible (first|refine Q1 ?_|refine Q2 ?_|refine Q3 ?_|refine Q4 ?_|refine Q5 ?_|refine Q6 ?_|refine Q7 ?_|refine Q8 ?_|refine Q9 ?_|refine Qa ?_|refine Qb ?_|refine Qc ?_|refine Qd ?_|refine Qe ?_|refine Qf ?_)|((with_reducible refine Qo ?_ ?_);focus rfl)|((with_reducible first|refine QT 17 (l:=?_) ?_ ?_|refine QF 17 (l:=?_) ?_ ?_);rotate_left 1;focus (simp only [Zu,Nat.reduceSub,Nat.reduceBEq];with_reducible rfl))|((with_reducible first|refine QS (cfg_ok 122) (TSy.at' 32 hcc) (s':=?_) ?_ ?_|refine QC (b:=?_) ?_ ?_);rotate_left 1;focus ((with_reducible refine QW ?_);simp only [Zg,seval,if_true,if_false,reduceCtorEq,Nat.reduceEqDiff,TSy,i1,i2,hlm,hg,w1,w2,w3,w4,e3,k1,b0,bks,hw,Int.toNat_natCast];with_reducible rfl))|((with_reducible refine QD (cfg_ok 122) (TSy.at' 32 hcc) mixed_ok (tr:=?_) (s':=?_) ?_ ?_ ?_);rotate_left 2;(focus ((with_reducible refine QW ?_);simp only [Zg,Zd,seval,if_true,if_false,reduceCtorEq,Nat.reduceEqDiff,TSy,i1,i2,hlm,hg,w1,w2,w3,w4,e3,k1,b0,bks,hw,Int.toNat_natCast];with_reducible rfl));focus ((with_reducible refine QK ?_);simp only [Zk];kernel_rfl)))
   refine roundK.on (i + 1) ⟨h,by omega⟩ ?_
   (repeat' (first|with_reducible refine Qn|((with_reducible refine Qr ?_ ?_);focus (first|with_reducible rfl|(simp only [Zz,Nat.reduceBEq];done)|rfl))|((with_reducible refine Qj (o':=?_) ?_ ?_ ?_);rotate_left 1;focus rfl)|((with_reducible refine Qw ?_ ?_);(focus (first|with_reducible rfl|(simp only [Zv];done)));focus (first|exact id|exact (fun h => nomatch h)|exact (fun _ => rfl)))))
  ·have i1:((i:Int) < (L.length:Int)) = False:=eq_false (by omega)
   obtain rfl:i = L.length:=by omega
   repeat' (first|with_reducible (first|refine Q1 ?_|refine Q2 ?_|refine Q3 ?_|refine Q4 ?_|refine Q5 ?_|refine Q6 ?_|refine Q7 ?_|refine Q8 ?_|refine Q9 ?_|refine Qa ?_|refine Qb ?_|refine Qc ?_|refine Qd ?_|refine Qe ?_|refine Qf ?_)|((with_reducible refine Qo ?_ ?_);focus rfl)|((with_reducible first|refine QT 17 (l:=?_) ?_ ?_|refine QF 17 (l:=?_) ?_ ?_);rotate_left 1;focus (simp only [Zu,Nat.reduceSub,Nat.reduceBEq];with_reducible rfl))|((with_reducible first|refine QS (cfg_ok 122) Tab.none (s':=?_) ?_ ?_|refine QC (b:=?_) ?_ ?_);rotate_left 1;focus ((with_reducible refine QW ?_);simp only [Zg,seval,if_true,if_false,reduceCtorEq,Nat.reduceEqDiff,i1,hlm];with_reducible rfl))|((with_reducible refine QD (cfg_ok 122) Tab.none mixed_ok (tr:=?_) (s':=?_) ?_ ?_ ?_);rotate_left 2;(focus ((with_reducible refine QW ?_);simp only [Zg,Zd,seval,if_true,if_false,reduceCtorEq,Nat.reduceEqDiff,i1,hlm];with_reducible rfl));focus ((with_reducible refine QK ?_);simp only [Zk];kernel_rfl)))
   refine roundK.out () trivial ?_
   (repeat' (first|with_reducible refine Qn|((with_reducible refine Qr ?_ ?_);focus (first|with_reducible rfl|(simp only [Zz,Nat.reduceBEq];done)|rfl))|((with_reducible refine Qj (o':=?_) ?_ ?_ ?_);rotate_left 1;focus rfl)|((with_reducible refine Qw ?_ ?_);(focus (first|with_reducible rfl|(simp only [Zv];done)));focus (first|exact id|exact (fun h => nomatch h)|exact (fun _ => rfl)))))
 ·intro _ _
  rw [f2]
  repeat' (first|with_reducible (first|refine Q1 ?_|refine Q2 ?_|refine Q3 ?_|refine Q4 ?_|refine Q5 ?_|refine Q6 ?_|refine Q7 ?_|refine Q8 ?_|refine Q9 ?_|refine Qa ?_|refine Qb ?_|refine Qc ?_|refine Qd ?_|refine Qe ?_|refine Qf ?_)|((with_reducible refine Qo ?_ ?_);focus rfl)|((with_reducible first|refine QT 17 (l:=?_) ?_ ?_|refine QF 17 (l:=?_) ?_ ?_);rotate_left 1;focus (simp only [Zu,Nat.reduceSub,Nat.reduceBEq];with_reducible rfl))|((with_reducible first|refine QS (cfg_ok 122) ((Tab.none.at' 43 hbp).at' 33 htm) (s':=?_) ?_ ?_|refine QC (b:=?_) ?_ ?_);rotate_left 1;focus ((with_reducible refine QW ?_);simp only [Zg,seval,if_true,if_false,reduceCtorEq,Nat.reduceEqDiff,b00,hum,bu,q0];with_reducible rfl))|((with_reducible refine QD (cfg_ok 122) ((Tab.none.at' 43 hbp).at' 33 htm) mixed_ok (tr:=?_) (s':=?_) ?_ ?_ ?_);rotate_left 2;(focus ((with_reducible refine QW ?_);simp only [Zg,Zd,seval,if_true,if_false,reduceCtorEq,Nat.reduceEqDiff,b00,hum,bu,q0];with_reducible rfl));focus ((with_reducible refine QK ?_);simp only [Zk];kernel_rfl)))
  (refine Ends.mk (by simp) (rs:=?_) (ks:=?_) hres hrts ?_ ?_ ?_;rotate_left 2;(focus (simp only [Ze,Zg,seval,if_true,if_false,reduceCtorEq,Nat.reduceEqDiff];with_reducible rfl));(focus simp);focus (first|with_reducible rfl|(simp only [Zv];done)))
theorem walk_FnGraftCounts (v0:Value) (x0:List Int) (w:World) (h0:Rd RBytes w [v0] x0):Calls Try.prog 7 #[v0] w (RetV w (.bool true)):=law_code (fun code hc => a_FnGraftCounts code hc) v0 x0 w h0
end Go.Proofs.Ytofpjonggpjneaa
