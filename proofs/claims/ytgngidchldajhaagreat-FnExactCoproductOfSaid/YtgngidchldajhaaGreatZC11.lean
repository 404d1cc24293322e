/- Lemmas (11). -/
import Derived.ChangeSame
import Derived.Test.YtgngidchldajhaaGreatZC0
import Derived.Test.YtgngidchldajhaaGreatZC6
import Derived.Test.YtgngidchldajhaaGreatZC7
import Derived.Test.YtgngidchldajhaaGreatZC8
import Derived.Test.YtgngidchldajhaaGreatZC9
import Derived.Test.YtgngidchldajhaaGreatZC10
set_option linter.unusedSimpArgs false
set_option linter.unusedVariables false
namespace Go.Proofs.YtgngidchldajhaaGreat
open Go.RowKit
def ePt (x:Int × List (List Int)):List D:=[.int x.1,.sl 1 (x.2.map eL)]
def codPt:Cod (Int × List (List Int)):=codP 1 codI codLL (fun _ => rfl)
def leftI (left:Int) (n:Nat):Int:=if left - n < 0 then -1 else left - n
theorem leftI_no {left:Int} {n:Nat} (h:left - n < 0):leftI left n = -1:=by unfold leftI;rw [if_pos h]
theorem leftI_ok {left:Int} {n:Nat} (h:¬ left - n < 0):leftI left n = left - n:=by unfold leftI;rw [if_neg h]
theorem a_szInt64S (xs:List Int) (left:Int) (h0:0 ≤ left) (h1:left ≤ 1048576):AFn Tryz.prog 224 [eL xs,eI left] (· = [.val (.int (leftI left xs.length))]) :=
 AFn.of_s (v:=.int .i64 _) (enters_of Tryz.func224 rfl rfl) (fun _ _ => rdV_int.2 ⟨rfl,by unfold leftI In64;split <;> omega⟩) (fun w A vs ⟨v1,_,e1,h1',v2,_,e2,h2,e3⟩ => by
  subst e3;subst e2;subst e1
  rw [arg_int h2]
  refine c_laws_szInt64S v1 xs left _ w (Rd.of (rd1 h1')) h0 h1 ?_
  unfold leftI
  split
  ·exact .inl ⟨‹_›,rfl⟩
  ·exact .inr ⟨by omega,rfl⟩)
noncomputable def TSz:Tab Tryz.prog:=Tab.none.add 224 (tab2 codL codI fun xs n => if 0 ≤ n∧n ≤ 1048576 then some [.val (.int (leftI n xs.length))] else none) (tab2_ok fun xs n rs h => by split at h;cases h;exact a_szInt64S xs n (‹0 ≤ n∧_›).1 (‹0 ≤ n∧_›).2;cases h)
set_option maxHeartbeats 2000000 in
theorem a_szInt64SS (f:List (List Int)) (left:Int) (h0:0 ≤ left) (h1:left ≤ 1048576) (hl:f.length ≤ 9223372036854775807):AFn Tryz.prog 170 [eLL f,eI left] (· = [.val (.int (leftI left (f.length + sumLen f)))]):=by
 refine AFn.of_runs (cfg_ok 27) Tryz.func170 rfl rfl rfl (by simp only [List.length_cons,List.length_nil];decide) ?_
 have hres:Tryz.f170.results.toList = [.tmp 4]:=rfl
 have hrts:Tryz.f170.resultTypes.toList = [3]:=rfl
 simp only [argRegs,argAV1,eL,eI,eLL,eB,Nat.zero_add,Nat.reduceAdd]
 intro M
 refine RunK.of ?_
 have hw:=w64_eq (n:=left - (f.length:Int)) (by omega)
 by_cases hn:left - (f.length:Int) < 0
 ·have i1:(left - (f.length:Int) < 0) = True:=eq_true hn
  rw [leftI_no (by omega)]
  repeat' (first|with_reducible (first|refine Q1 ?_|refine Q2 ?_|refine Q3 ?_|refine Q4 ?_|refine Q5 ?_|refine Q6 ?_|refine Q7 ?_|refine Q8 ?_|refine Q9 ?_|refine Qa ?_|refine Qb ?_|refine Qc ?_|refine Qd ?_|refine Qe ?_|refine Qf ?_)|((with_reducible refine Qo ?_ ?_);focus rfl)|((with_reducible first|refine QT 6 (l:=?_) ?_ ?_|refine QF 6 (l:=?_) ?_ ?_);rotate_left 1;focus (simp only [Zu,Nat.reduceSub,Nat.reduceBEq];with_reducible rfl))|((with_reducible first|refine QS (cfg_ok 27) TSz (s':=?_) ?_ ?_|refine QC (b:=?_) ?_ ?_);rotate_left 1;focus ((with_reducible refine QW ?_);simp only [Zg,seval,if_true,if_false,reduceCtorEq,Nat.reduceEqDiff,TSz,hw,i1,List.length_map];with_reducible rfl)))
  (refine Ends.mk (by simp) (rs:=?_) (ks:=?_) hres hrts ?_ ?_ ?_;rotate_left 2;(focus (simp only [Ze,Zg,seval,if_true,if_false,reduceCtorEq,Nat.reduceEqDiff];with_reducible rfl));(focus simp);focus (first|with_reducible rfl|(simp only [Zv];done)))
 ·have i1:(left - (f.length:Int) < 0) = False:=eq_false hn
  repeat' (first|with_reducible (first|refine Q1 ?_|refine Q2 ?_|refine Q3 ?_|refine Q4 ?_|refine Q5 ?_|refine Q6 ?_|refine Q7 ?_|refine Q8 ?_|refine Q9 ?_|refine Qa ?_|refine Qb ?_|refine Qc ?_|refine Qd ?_|refine Qe ?_|refine Qf ?_)|((with_reducible refine Qo ?_ ?_);focus rfl)|((with_reducible first|refine QT 6 (l:=?_) ?_ ?_|refine QF 6 (l:=?_) ?_ ?_);rotate_left 1;focus (simp only [Zu,Nat.reduceSub,Nat.reduceBEq];with_reducible rfl))|((with_reducible first|refine QS (cfg_ok 27) TSz (s':=?_) ?_ ?_|refine QC (b:=?_) ?_ ?_);rotate_left 1;focus ((with_reducible refine QW ?_);simp only [Zg,seval,if_true,if_false,reduceCtorEq,Nat.reduceEqDiff,TSz,hw,i1,List.length_map];with_reducible rfl)))
  refine RunK.loop (β:=Nat) (γ:=Unit) (fun i => ⟨[(0,.c (.val (.sl 1 (f.map eL)))),(1,.c (.val (.int (left - f.length - (sumLen (f.take i):Nat))))),(5,.c (.val (.int i)))],[]⟩) (fun i => i ≤ f.length∧0 ≤ left - f.length - (sumLen (f.take i):Nat)) (fun i => f.length - i)
   (fun _ => ⟨[(1,.c (.val (.int (left - f.length - (sumLen f:Nat)))))],[]⟩) (fun _ => 0 ≤ left - f.length - (sumLen f:Nat)) 0 ⟨Nat.zero_le _,by simp [sumLen];omega⟩ ?_ ?_ ?_
  ·have e:left - (f.length:Int) - (sumLen (f.take 0):Nat) = left - (f.length:Int):=by simp [sumLen]
   rw [e]
   (repeat' (first|with_reducible refine Qn|((with_reducible refine Qr ?_ ?_);focus (first|with_reducible rfl|(simp only [Zz,Nat.reduceBEq];done)|rfl))|((with_reducible refine Qj (o':=?_) ?_ ?_ ?_);rotate_left 1;focus rfl)|((with_reducible refine Qw ?_ ?_);(focus (first|with_reducible rfl|(simp only [Zv];done)));focus (first|exact id|exact (fun h => nomatch h)|exact (fun _ => rfl)))))
  ·rintro i ⟨hi,hpos⟩
   have hw2:=w64_succ (n:=i) (by omega)
   by_cases h:i < f.length
   ·have i2:((i:Int) < (f.length:Int)) = True:=eq_true (by omega)
    have i3:((0:Int) ≤ (i:Int)) = True:=eq_true (by omega)
    have hst:=sumLen_take_succ f i h
    have hle:=sumLen_take f (i + 1)
    obtain ⟨q,hq⟩:∃ q:Int,q = left - f.length - (sumLen (f.take i):Nat):=⟨_,rfl⟩
    obtain ⟨t,ht⟩:∃ t,t = f[i]:=⟨_,rfl⟩
    have hg:(f.map eL)[i]? = some [.sl 1 (t.map eI)]:=by rw [map_get h,ht];rfl
    rw [← ht] at hst
    rw [← hq] at hpos
    have j1:(0 ≤ q∧q ≤ 1048576) = True:=eq_true ⟨hpos,by omega⟩
    by_cases hng:q - (t.length:Int) < 0
    ·have e:=leftI_no (left:=q) (n:=t.length) hng
     rw [leftI_no (by omega),← hq]
     repeat' (first|with_reducible (first|refine Q1 ?_|refine Q2 ?_|refine Q3 ?_|refine Q4 ?_|refine Q5 ?_|refine Q6 ?_|refine Q7 ?_|refine Q8 ?_|refine Q9 ?_|refine Qa ?_|refine Qb ?_|refine Qc ?_|refine Qd ?_|refine Qe ?_|refine Qf ?_)|((with_reducible refine Qo ?_ ?_);focus rfl)|((with_reducible first|refine QT 6 (l:=?_) ?_ ?_|refine QF 6 (l:=?_) ?_ ?_);rotate_left 1;focus (simp only [Zu,Nat.reduceSub,Nat.reduceBEq];with_reducible rfl))|((with_reducible first|refine QS (cfg_ok 27) TSz (s':=?_) ?_ ?_|refine QC (b:=?_) ?_ ?_);rotate_left 1;focus ((with_reducible refine QW ?_);simp only [Zg,seval,if_true,if_false,reduceCtorEq,Nat.reduceEqDiff,TSz,i2,i3,hg,j1,e,Int.toNat_natCast,List.length_map];with_reducible rfl)))
     refine roundK.ret ?_
     repeat' (first|with_reducible (first|refine Q1 ?_|refine Q2 ?_|refine Q3 ?_|refine Q4 ?_|refine Q5 ?_|refine Q6 ?_|refine Q7 ?_|refine Q8 ?_|refine Q9 ?_|refine Qa ?_|refine Qb ?_|refine Qc ?_|refine Qd ?_|refine Qe ?_|refine Qf ?_)|((with_reducible refine Qo ?_ ?_);focus rfl)|((with_reducible first|refine QT 6 (l:=?_) ?_ ?_|refine QF 6 (l:=?_) ?_ ?_);rotate_left 1;focus (simp only [Zu,Nat.reduceSub,Nat.reduceBEq];with_reducible rfl))|((with_reducible first|refine QS (cfg_ok 27) TSz (s':=?_) ?_ ?_|refine QC (b:=?_) ?_ ?_);rotate_left 1;focus ((with_reducible refine QW ?_);simp only [Zg,seval,if_true,if_false,reduceCtorEq,Nat.reduceEqDiff,TSz];with_reducible rfl)))
     (refine Ends.mk (by simp) (rs:=?_) (ks:=?_) hres hrts ?_ ?_ ?_;rotate_left 2;(focus (simp only [Ze,Zg,seval,if_true,if_false,reduceCtorEq,Nat.reduceEqDiff];with_reducible rfl));(focus simp);focus (first|with_reducible rfl|(simp only [Zv];done)))
    ·have e:=leftI_ok (left:=q) (n:=t.length) hng
     have j2:(q - (t.length:Int) < 0) = False:=eq_false hng
     rw [← hq]
     repeat' (first|with_reducible (first|refine Q1 ?_|refine Q2 ?_|refine Q3 ?_|refine Q4 ?_|refine Q5 ?_|refine Q6 ?_|refine Q7 ?_|refine Q8 ?_|refine Q9 ?_|refine Qa ?_|refine Qb ?_|refine Qc ?_|refine Qd ?_|refine Qe ?_|refine Qf ?_)|((with_reducible refine Qo ?_ ?_);focus rfl)|((with_reducible first|refine QT 6 (l:=?_) ?_ ?_|refine QF 6 (l:=?_) ?_ ?_);rotate_left 1;focus (simp only [Zu,Nat.reduceSub,Nat.reduceBEq];with_reducible rfl))|((with_reducible first|refine QS (cfg_ok 27) TSz (s':=?_) ?_ ?_|refine QC (b:=?_) ?_ ?_);rotate_left 1;focus ((with_reducible refine QW ?_);simp only [Zg,seval,if_true,if_false,reduceCtorEq,Nat.reduceEqDiff,TSz,i2,i3,hg,j1,j2,e,hw2,Int.toNat_natCast,List.length_map];with_reducible rfl)))
     have e2:left - (f.length:Int) - (sumLen (f.take (i + 1)):Nat) = q - (t.length:Int):=by omega
     refine roundK.on (i + 1) ⟨⟨h,by omega⟩,by omega⟩ ?_
     rw [e2]
     (repeat' (first|with_reducible refine Qn|((with_reducible refine Qr ?_ ?_);focus (first|with_reducible rfl|(simp only [Zz,Nat.reduceBEq];done)|rfl))|((with_reducible refine Qj (o':=?_) ?_ ?_ ?_);rotate_left 1;focus rfl)|((with_reducible refine Qw ?_ ?_);(focus (first|with_reducible rfl|(simp only [Zv];done)));focus (first|exact id|exact (fun h => nomatch h)|exact (fun _ => rfl)))))
   ·have i2:((i:Int) < (f.length:Int)) = False:=eq_false (by omega)
    have hall:f.take i = f:=List.take_of_length_le (by omega)
    rw [hall] at hpos ⊢
    repeat' (first|with_reducible (first|refine Q1 ?_|refine Q2 ?_|refine Q3 ?_|refine Q4 ?_|refine Q5 ?_|refine Q6 ?_|refine Q7 ?_|refine Q8 ?_|refine Q9 ?_|refine Qa ?_|refine Qb ?_|refine Qc ?_|refine Qd ?_|refine Qe ?_|refine Qf ?_)|((with_reducible refine Qo ?_ ?_);focus rfl)|((with_reducible first|refine QT 6 (l:=?_) ?_ ?_|refine QF 6 (l:=?_) ?_ ?_);rotate_left 1;focus (simp only [Zu,Nat.reduceSub,Nat.reduceBEq];with_reducible rfl))|((with_reducible first|refine QS (cfg_ok 27) TSz (s':=?_) ?_ ?_|refine QC (b:=?_) ?_ ?_);rotate_left 1;focus ((with_reducible refine QW ?_);simp only [Zg,seval,if_true,if_false,reduceCtorEq,Nat.reduceEqDiff,TSz,i2,List.length_map];with_reducible rfl)))
    refine roundK.out () hpos ?_
    (repeat' (first|with_reducible refine Qn|((with_reducible refine Qr ?_ ?_);focus (first|with_reducible rfl|(simp only [Zz,Nat.reduceBEq];done)|rfl))|((with_reducible refine Qj (o':=?_) ?_ ?_ ?_);rotate_left 1;focus rfl)|((with_reducible refine Qw ?_ ?_);(focus (first|with_reducible rfl|(simp only [Zv];done)));focus (first|exact id|exact (fun h => nomatch h)|exact (fun _ => rfl)))))
  ·rintro _ hpos
   have e:leftI left (f.length + sumLen f) = left - f.length - (sumLen f:Nat):=by rw [leftI_ok (by omega)];omega
   rw [e]
   repeat' (first|with_reducible (first|refine Q1 ?_|refine Q2 ?_|refine Q3 ?_|refine Q4 ?_|refine Q5 ?_|refine Q6 ?_|refine Q7 ?_|refine Q8 ?_|refine Q9 ?_|refine Qa ?_|refine Qb ?_|refine Qc ?_|refine Qd ?_|refine Qe ?_|refine Qf ?_)|((with_reducible refine Qo ?_ ?_);focus rfl)|((with_reducible first|refine QT 6 (l:=?_) ?_ ?_|refine QF 6 (l:=?_) ?_ ?_);rotate_left 1;focus (simp only [Zu,Nat.reduceSub,Nat.reduceBEq];with_reducible rfl))|((with_reducible first|refine QS (cfg_ok 27) TSz (s':=?_) ?_ ?_|refine QC (b:=?_) ?_ ?_);rotate_left 1;focus ((with_reducible refine QW ?_);simp only [Zg,seval,if_true,if_false,reduceCtorEq,Nat.reduceEqDiff,TSz];with_reducible rfl)))
   (refine Ends.mk (by simp) (rs:=?_) (ks:=?_) hres hrts ?_ ?_ ?_;rotate_left 2;(focus (simp only [Ze,Zg,seval,if_true,if_false,reduceCtorEq,Nat.reduceEqDiff];with_reducible rfl));(focus simp);focus (first|with_reducible rfl|(simp only [Zv];done)))
theorem a_szPart (n:Int) (f:List (List Int)) (left:Int) (h0:0 ≤ left) (h1:left ≤ 1048576) (hl:f.length ≤ 9223372036854775807):AFn Tryz.prog 97 [ePt (n,f),eI left] (· = [.val (.int (leftI left (f.length + sumLen f)))]):=by
 have ha:=a_szInt64SS f left h0 h1 hl
 simp only [eLL,eI] at ha
 refine AFn.of_runs (cfg_ok 12) Tryz.func97 rfl rfl rfl (by simp only [List.length_cons,List.length_nil];decide) ?_
 have hres:Tryz.f97.results.toList = [.tmp 4]:=rfl
 have hrts:Tryz.f97.resultTypes.toList = [3]:=rfl
 simp only [argRegs,argAV1,eL,eI,eLL,eB,Nat.zero_add,Nat.reduceAdd,ePt]
 intro M
 refine RunK.of ?_
 by_cases hn:left - ((f.length + sumLen f:Nat):Int) < 0
 ·rw [leftI_no hn] at ha ⊢
  repeat' (first|with_reducible (first|refine Q1 ?_|refine Q2 ?_|refine Q3 ?_|refine Q4 ?_|refine Q5 ?_|refine Q6 ?_|refine Q7 ?_|refine Q8 ?_|refine Q9 ?_|refine Qa ?_|refine Qb ?_|refine Qc ?_|refine Qd ?_|refine Qe ?_|refine Qf ?_)|((with_reducible refine Qo ?_ ?_);focus rfl)|((with_reducible first|refine QT 5 (l:=?_) ?_ ?_|refine QF 5 (l:=?_) ?_ ?_);rotate_left 1;focus (simp only [Zu,Nat.reduceSub,Nat.reduceBEq];with_reducible rfl))|((with_reducible first|refine QS (cfg_ok 12) ((Tab.none.at' 170 ha)) (s':=?_) ?_ ?_|refine QC (b:=?_) ?_ ?_);rotate_left 1;focus ((with_reducible refine QW ?_);simp only [Zg,seval,if_true,if_false,reduceCtorEq,Nat.reduceEqDiff];with_reducible rfl)))
  (refine Ends.mk (by simp) (rs:=?_) (ks:=?_) hres hrts ?_ ?_ ?_;rotate_left 2;(focus (simp only [Ze,Zg,seval,if_true,if_false,reduceCtorEq,Nat.reduceEqDiff];with_reducible rfl));(focus simp);focus (first|with_reducible rfl|(simp only [Zv];done)))
 ·rw [leftI_ok hn] at ha ⊢
  have i1:(left - ((f.length + sumLen f:Nat):Int) < 0) = False:=eq_false hn
  repeat' (first|with_reducible (first|refine Q1 ?_|refine Q2 ?_|refine Q3 ?_|refine Q4 ?_|refine Q5 ?_|refine Q6 ?_|refine Q7 ?_|refine Q8 ?_|refine Q9 ?_|refine Qa ?_|refine Qb ?_|refine Qc ?_|refine Qd ?_|refine Qe ?_|refine Qf ?_)|((with_reducible refine Qo ?_ ?_);focus rfl)|((with_reducible first|refine QT 5 (l:=?_) ?_ ?_|refine QF 5 (l:=?_) ?_ ?_);rotate_left 1;focus (simp only [Zu,Nat.reduceSub,Nat.reduceBEq];with_reducible rfl))|((with_reducible first|refine QS (cfg_ok 12) ((Tab.none.at' 170 ha)) (s':=?_) ?_ ?_|refine QC (b:=?_) ?_ ?_);rotate_left 1;focus ((with_reducible refine QW ?_);simp only [Zg,seval,if_true,if_false,reduceCtorEq,Nat.reduceEqDiff,i1];with_reducible rfl)))
  (refine Ends.mk (by simp) (rs:=?_) (ks:=?_) hres hrts ?_ ?_ ?_;rotate_left 2;(focus (simp only [Ze,Zg,seval,if_true,if_false,reduceCtorEq,Nat.reduceEqDiff];with_reducible rfl));(focus simp);focus (first|with_reducible rfl|(simp only [Zv];done)))
theorem szN_take:∀ (e:List (Int × List (List Int))) (i:Nat) (h:i < e.length),szN (e.take (i + 1)) = szN (e.take i) + (e[i].2.length + sumLen e[i].2)
 | p :: e,0,h => by simp [szN]
 | p :: e,i + 1,h => by
  have:=szN_take e i (by simpa using h)
  simp only [List.take_succ_cons,List.getElem_cons_succ,szN]
  omega
theorem szN_le:∀ (e:List (Int × List (List Int))) (i:Nat),szN (e.take i) ≤ szN e
 | [],i => by simp
 | p :: e,0 => by simp [szN]
 | p :: e,i + 1 => by
  have:=szN_le e i
  simp only [List.take_succ_cons,szN]
  omega
noncomputable def TSzP:Tab Tryz.prog:=Tab.none.add 97 (tab2 codPt codI fun p n => if (0 ≤ n∧n ≤ 1048576)∧p.2.length ≤ 9223372036854775807 then some [.val (.int (leftI n (p.2.length + sumLen p.2)))] else none) (tab2_ok fun p n rs h => by split at h;cases h;exact a_szPart p.1 p.2 n (‹(0 ≤ n∧_)∧_›).1.1 (‹(0 ≤ n∧_)∧_›).1.2 (‹(0 ≤ n∧_)∧_›).2;cases h)
set_option maxHeartbeats 2000000 in
theorem a_szPartS (e:List (Int × List (List Int))) (left:Int) (h0:0 ≤ left) (h1:left ≤ 1048576) (hl:e.length ≤ 9223372036854775807) (hpl:∀ p ∈ e,p.2.length ≤ 9223372036854775807):AFn Tryz.prog 32 [[.sl 2 (e.map ePt)],eI left] (· = [.val (.int (leftI left (e.length + szN e)))]):=by
 refine AFn.of_runs (cfg_ok 27) Tryz.func32 rfl rfl rfl (by simp only [List.length_cons,List.length_nil];decide) ?_
 have hres:Tryz.f32.results.toList = [.tmp 4]:=rfl
 have hrts:Tryz.f32.resultTypes.toList = [3]:=rfl
 simp only [argRegs,argAV1,eL,eI,eLL,eB,Nat.zero_add,Nat.reduceAdd]
 intro M
 refine RunK.of ?_
 have hw:=w64_eq (n:=left - (e.length:Int)) (by omega)
 by_cases hn:left - (e.length:Int) < 0
 ·have i1:(left - (e.length:Int) < 0) = True:=eq_true hn
  rw [leftI_no (by omega)]
  repeat' (first|with_reducible (first|refine Q1 ?_|refine Q2 ?_|refine Q3 ?_|refine Q4 ?_|refine Q5 ?_|refine Q6 ?_|refine Q7 ?_|refine Q8 ?_|refine Q9 ?_|refine Qa ?_|refine Qb ?_|refine Qc ?_|refine Qd ?_|refine Qe ?_|refine Qf ?_)|((with_reducible refine Qo ?_ ?_);focus rfl)|((with_reducible first|refine QT 6 (l:=?_) ?_ ?_|refine QF 6 (l:=?_) ?_ ?_);rotate_left 1;focus (simp only [Zu,Nat.reduceSub,Nat.reduceBEq];with_reducible rfl))|((with_reducible first|refine QS (cfg_ok 27) TSzP (s':=?_) ?_ ?_|refine QC (b:=?_) ?_ ?_);rotate_left 1;focus ((with_reducible refine QW ?_);simp only [Zg,seval,if_true,if_false,reduceCtorEq,Nat.reduceEqDiff,TSzP,hw,i1,List.length_map];with_reducible rfl)))
  (refine Ends.mk (by simp) (rs:=?_) (ks:=?_) hres hrts ?_ ?_ ?_;rotate_left 2;(focus (simp only [Ze,Zg,seval,if_true,if_false,reduceCtorEq,Nat.reduceEqDiff];with_reducible rfl));(focus simp);focus (first|with_reducible rfl|(simp only [Zv];done)))
 ·have i1:(left - (e.length:Int) < 0) = False:=eq_false hn
  repeat' (first|with_reducible (first|refine Q1 ?_|refine Q2 ?_|refine Q3 ?_|refine Q4 ?_|refine Q5 ?_|refine Q6 ?_|refine Q7 ?_|refine Q8 ?_|refine Q9 ?_|refine Qa ?_|refine Qb ?_|refine Qc ?_|refine Qd ?_|refine Qe ?_|refine Qf ?_)|((with_reducible refine Qo ?_ ?_);focus rfl)|((with_reducible first|refine QT 6 (l:=?_) ?_ ?_|refine QF 6 (l:=?_) ?_ ?_);rotate_left 1;focus (simp only [Zu,Nat.reduceSub,Nat.reduceBEq];with_reducible rfl))|((with_reducible first|refine QS (cfg_ok 27) TSzP (s':=?_) ?_ ?_|refine QC (b:=?_) ?_ ?_);rotate_left 1;focus ((with_reducible refine QW ?_);simp only [Zg,seval,if_true,if_false,reduceCtorEq,Nat.reduceEqDiff,TSzP,hw,i1,List.length_map];with_reducible rfl)))
  refine RunK.loop (β:=Nat) (γ:=Unit) (fun i => ⟨[(0,.c (.val (.sl 2 (e.map ePt)))),(1,.c (.val (.int (left - e.length - (szN (e.take i):Nat))))),(5,.c (.val (.int i)))],[]⟩) (fun i => i ≤ e.length∧0 ≤ left - (e.length:Int) - (szN (e.take i):Nat)) (fun i => e.length - i)
   (fun _ => ⟨[(1,.c (.val (.int (left - e.length - (szN e:Nat)))))],[]⟩) (fun _ => 0 ≤ left - (e.length:Int) - (szN e:Nat)) 0 ⟨Nat.zero_le _,by simp [szN];omega⟩ ?_ ?_ ?_
  ·have e2:left - (e.length:Int) - (szN (e.take 0):Nat) = left - (e.length:Int):=by simp [szN]
   rw [e2]
   (repeat' (first|with_reducible refine Qn|((with_reducible refine Qr ?_ ?_);focus (first|with_reducible rfl|(simp only [Zz,Nat.reduceBEq];done)|rfl))|((with_reducible refine Qj (o':=?_) ?_ ?_ ?_);rotate_left 1;focus rfl)|((with_reducible refine Qw ?_ ?_);(focus (first|with_reducible rfl|(simp only [Zv];done)));focus (first|exact id|exact (fun h => nomatch h)|exact (fun _ => rfl)))))
  ·rintro i ⟨hi,hpos⟩
   have hw2:=w64_succ (n:=i) (by omega)
   by_cases h:i < e.length
   ·have i2:((i:Int) < (e.length:Int)) = True:=eq_true (by omega)
    have i3:((0:Int) ≤ (i:Int)) = True:=eq_true (by omega)
    have hst:=szN_take e i h
    have hle:=szN_le e (i + 1)
    obtain ⟨q,hq⟩:∃ q:Int,q = left - e.length - (szN (e.take i):Nat):=⟨_,rfl⟩
    obtain ⟨c,f,ht⟩:∃ c f,(c,f) = e[i]:=⟨_,_,rfl⟩
    have hpi:=hpl e[i] (List.getElem_mem h)
    have hg:(e.map ePt)[i]? = some [.int c,.sl 1 (f.map eL)]:=by rw [map_get h,← ht];rfl
    rw [← ht] at hst hpi
    simp only at hst hpi
    rw [← hq] at hpos
    have hsz:=a_szPart c f q hpos (by omega) hpi
    simp only [ePt,eI] at hsz
    by_cases hng:q - ((f.length + sumLen f:Nat):Int) < 0
    ·rw [leftI_no hng] at hsz
     rw [leftI_no (by omega),← hq]
     repeat' (first|with_reducible (first|refine Q1 ?_|refine Q2 ?_|refine Q3 ?_|refine Q4 ?_|refine Q5 ?_|refine Q6 ?_|refine Q7 ?_|refine Q8 ?_|refine Q9 ?_|refine Qa ?_|refine Qb ?_|refine Qc ?_|refine Qd ?_|refine Qe ?_|refine Qf ?_)|((with_reducible refine Qo ?_ ?_);focus rfl)|((with_reducible first|refine QT 6 (l:=?_) ?_ ?_|refine QF 6 (l:=?_) ?_ ?_);rotate_left 1;focus (simp only [Zu,Nat.reduceSub,Nat.reduceBEq];with_reducible rfl))|((with_reducible first|refine QS (cfg_ok 27) ((Tab.none.at' 97 hsz)) (s':=?_) ?_ ?_|refine QC (b:=?_) ?_ ?_);rotate_left 1;focus ((with_reducible refine QW ?_);simp only [Zg,seval,if_true,if_false,reduceCtorEq,Nat.reduceEqDiff,i2,i3,hg,Int.toNat_natCast,List.length_map];with_reducible rfl)))
     refine roundK.ret ?_
     repeat' (first|with_reducible (first|refine Q1 ?_|refine Q2 ?_|refine Q3 ?_|refine Q4 ?_|refine Q5 ?_|refine Q6 ?_|refine Q7 ?_|refine Q8 ?_|refine Q9 ?_|refine Qa ?_|refine Qb ?_|refine Qc ?_|refine Qd ?_|refine Qe ?_|refine Qf ?_)|((with_reducible refine Qo ?_ ?_);focus rfl)|((with_reducible first|refine QT 6 (l:=?_) ?_ ?_|refine QF 6 (l:=?_) ?_ ?_);rotate_left 1;focus (simp only [Zu,Nat.reduceSub,Nat.reduceBEq];with_reducible rfl))|((with_reducible first|refine QS (cfg_ok 27) Tab.none (s':=?_) ?_ ?_|refine QC (b:=?_) ?_ ?_);rotate_left 1;focus ((with_reducible refine QW ?_);simp only [Zg,seval,if_true,if_false,reduceCtorEq,Nat.reduceEqDiff];with_reducible rfl)))
     (refine Ends.mk (by simp) (rs:=?_) (ks:=?_) hres hrts ?_ ?_ ?_;rotate_left 2;(focus (simp only [Ze,Zg,seval,if_true,if_false,reduceCtorEq,Nat.reduceEqDiff];with_reducible rfl));(focus simp);focus (first|with_reducible rfl|(simp only [Zv];done)))
    ·rw [leftI_ok hng] at hsz
     have j2:(q - ((f.length + sumLen f:Nat):Int) < 0) = False:=eq_false hng
     rw [← hq]
     repeat' (first|with_reducible (first|refine Q1 ?_|refine Q2 ?_|refine Q3 ?_|refine Q4 ?_|refine Q5 ?_|refine Q6 ?_|refine Q7 ?_|refine Q8 ?_|refine Q9 ?_|refine Qa ?_|refine Qb ?_|refine Qc ?_|refine Qd ?_|refine Qe ?_|refine Qf ?_)|((with_reducible refine Qo ?_ ?_);focus rfl)|((with_reducible first|refine QT 6 (l:=?_) ?_ ?_|refine QF 6 (l:=?_) ?_ ?_);rotate_left 1;focus (simp only [Zu,Nat.reduceSub,Nat.reduceBEq];with_reducible rfl))|((with_reducible first|refine QS (cfg_ok 27) ((Tab.none.at' 97 hsz)) (s':=?_) ?_ ?_|refine QC (b:=?_) ?_ ?_);rotate_left 1;focus ((with_reducible refine QW ?_);simp only [Zg,seval,if_true,if_false,reduceCtorEq,Nat.reduceEqDiff,i2,i3,hg,j2,hw2,Int.toNat_natCast,List.length_map];with_reducible rfl)))
     have e2:left - (e.length:Int) - (szN (e.take (i + 1)):Nat) = q - ((f.length + sumLen f:Nat):Int):=by omega
     refine roundK.on (i + 1) ⟨⟨h,by omega⟩,by omega⟩ ?_
     rw [e2]
     (repeat' (first|with_reducible refine Qn|((with_reducible refine Qr ?_ ?_);focus (first|with_reducible rfl|(simp only [Zz,Nat.reduceBEq];done)|rfl))|((with_reducible refine Qj (o':=?_) ?_ ?_ ?_);rotate_left 1;focus rfl)|((with_reducible refine Qw ?_ ?_);(focus (first|with_reducible rfl|(simp only [Zv];done)));focus (first|exact id|exact (fun h => nomatch h)|exact (fun _ => rfl)))))
   ·have i2:((i:Int) < (e.length:Int)) = False:=eq_false (by omega)
    have hall:e.take i = e:=List.take_of_length_le (by omega)
    rw [hall] at hpos ⊢
    repeat' (first|with_reducible (first|refine Q1 ?_|refine Q2 ?_|refine Q3 ?_|refine Q4 ?_|refine Q5 ?_|refine Q6 ?_|refine Q7 ?_|refine Q8 ?_|refine Q9 ?_|refine Qa ?_|refine Qb ?_|refine Qc ?_|refine Qd ?_|refine Qe ?_|refine Qf ?_)|((with_reducible refine Qo ?_ ?_);focus rfl)|((with_reducible first|refine QT 6 (l:=?_) ?_ ?_|refine QF 6 (l:=?_) ?_ ?_);rotate_left 1;focus (simp only [Zu,Nat.reduceSub,Nat.reduceBEq];with_reducible rfl))|((with_reducible first|refine QS (cfg_ok 27) Tab.none (s':=?_) ?_ ?_|refine QC (b:=?_) ?_ ?_);rotate_left 1;focus ((with_reducible refine QW ?_);simp only [Zg,seval,if_true,if_false,reduceCtorEq,Nat.reduceEqDiff,i2,List.length_map];with_reducible rfl)))
    refine roundK.out () hpos ?_
    (repeat' (first|with_reducible refine Qn|((with_reducible refine Qr ?_ ?_);focus (first|with_reducible rfl|(simp only [Zz,Nat.reduceBEq];done)|rfl))|((with_reducible refine Qj (o':=?_) ?_ ?_ ?_);rotate_left 1;focus rfl)|((with_reducible refine Qw ?_ ?_);(focus (first|with_reducible rfl|(simp only [Zv];done)));focus (first|exact id|exact (fun h => nomatch h)|exact (fun _ => rfl)))))
  ·rintro _ hpos
   have e2:leftI left (e.length + szN e) = left - e.length - (szN e:Nat):=by rw [leftI_ok (by omega)];omega
   rw [e2]
   repeat' (first|with_reducible (first|refine Q1 ?_|refine Q2 ?_|refine Q3 ?_|refine Q4 ?_|refine Q5 ?_|refine Q6 ?_|refine Q7 ?_|refine Q8 ?_|refine Q9 ?_|refine Qa ?_|refine Qb ?_|refine Qc ?_|refine Qd ?_|refine Qe ?_|refine Qf ?_)|((with_reducible refine Qo ?_ ?_);focus rfl)|((with_reducible first|refine QT 6 (l:=?_) ?_ ?_|refine QF 6 (l:=?_) ?_ ?_);rotate_left 1;focus (simp only [Zu,Nat.reduceSub,Nat.reduceBEq];with_reducible rfl))|((with_reducible first|refine QS (cfg_ok 27) Tab.none (s':=?_) ?_ ?_|refine QC (b:=?_) ?_ ?_);rotate_left 1;focus ((with_reducible refine QW ?_);simp only [Zg,seval,if_true,if_false,reduceCtorEq,Nat.reduceEqDiff];with_reducible rfl)))
   (refine Ends.mk (by simp) (rs:=?_) (ks:=?_) hres hrts ?_ ?_ ?_;rotate_left 2;(focus (simp only [Ze,Zg,seval,if_true,if_false,reduceCtorEq,Nat.reduceEqDiff];with_reducible rfl));(focus simp);focus (first|with_reducible rfl|(simp only [Zv];done)))
theorem arg_P {w:World} {u:Value} {xs:List (Int × List (List Int))} (h:Rd (RS RPart) w [u] xs):relArg (· < w.heap.size) w [.sl 2 (xs.map ePt)] u:=((encS (encP encI (encS (encS encI)))).rdV (x:=xs) rfl).1 h
theorem sz_P (v:Value) (xs:List (Int × List (List Int))) (left:Int) (w:World) (h:Rd (RS RPart) w [v] xs) (h0:0 ≤ left) (h1:left ≤ 1048576) :
  Calls Tryz.prog 32 #[v,.int .i64 left] w fun e w' => ∃ r,e = .returned (.int .i64 r)∧((r < 0∧True) ∨ (0 ≤ r∧r ≤ 1048576∧szP xs))∧Below w.heap.size w w':=by
 obtain ⟨oa,cap,hv,m1,m2⟩:=h.val
 unfold maxLen at m2
 have hpl:∀ p ∈ xs,p.2.length ≤ 9223372036854775807:=fun p hp => by
  obtain ⟨i,hi,rfl⟩:=List.getElem_of_mem hp
  obtain ⟨b,off,cap,s,_,_,_,_,_,hr⟩:=h.partAt (S:=RS (RS RI)) rfl i hi
  obtain ⟨o1,c1,_,l1,l2⟩:=hr.val
  unfold maxLen at l2
  omega
 have ha:=AFn.one (v:=.int .i64 _) (fun A w u hu => (rdV_int.1 hu).1) (a_szPartS xs left h0 h1 (by omega) hpl) (args2 (arg_P h) (arg_I (by unfold In64;omega)))
 refine ha.mono ?_
 rintro e w' ⟨rfl,hb⟩
 refine ⟨_,rfl,?_,hb⟩
 by_cases hn:left - (xs.length + szN xs:Nat) < 0
 ·rw [leftI_no hn];exact .inl ⟨by decide,trivial⟩
 ·rw [leftI_ok hn];exact .inr ⟨by omega,by omega,by unfold szP;omega⟩
set_option maxRecDepth 20000 in
theorem opPart:Opens Tryz.prog RPart 122:=by
 intro H enc w base spare held fuel cs x h
 obtain ⟨y0,y1,n,_,hl,h0,h1⟩:=Go.ChangeShapes.trod_struct2 Tryz.underlying122 h
 have c0:Tryz.prog.cellsOf 2 = 1:=by kernel_rfl
 have c1:Tryz.prog.cellsOf 31 = 1:=by kernel_rfl
 have hl2:cs.length = 2:=by rw [hl];kernel_rfl
 match cs,hl2 with
 | [a,b],_ =>
  simp only [c0,c1,List.drop_zero,List.drop_succ_cons,List.take_succ_cons,List.take_zero] at h0 h1
  obtain ⟨y,hy⟩:=opI64 _ _ _ _ _ _ _ _ _ h0
  obtain ⟨z,hz⟩:=opI64SS _ _ _ _ _ _ _ _ _ h1
  exact ⟨(y,z),[a],[b],rfl,hy,hz⟩
theorem opPartS:Opens Tryz.prog (RS RPart) 59:=Opens.slice Tryz.underlying59 (by kernel_rfl) opPart
end Go.Proofs.YtgngidchldajhaaGreat
namespace Go.Proofs.YtgngidchldajhaaGreat
open Go.RowKit
structure PutI (e:Elt) (k:Int) (f:List (List Int)) (x:Nat × Bool × Elt):Prop where
 le:x.1 ≤ e.length
 no:x.2.1 = false→x.2.2 = e.take x.1∧∀ q ∈ e.take x.1,0 < cmpF f q.2
 yes:x.2.1 = true→x.2.2 ++ e.drop x.1 = putS cmpF e k f
 len:x.2.2.length ≤ x.1 + 1
end Go.Proofs.YtgngidchldajhaaGreat
namespace Go.Proofs.YtgngidchldajhaaGreat
open Go.RowKit
def OkE (e:Elt):Prop:=∀ q ∈ e,(1 ≤ q.1∧q.1 < 10007)∧SmF q.2
theorem OkE.nil:OkE []:=fun q hq => nomatch hq
end Go.Proofs.YtgngidchldajhaaGreat
namespace Go.Proofs.YtgngidchldajhaaGreat
open Go.RowKit
theorem szP.at {e:List (Int × List (List Int))} (h:szP e) {i:Nat} (hi:i < e.length):sumLen e[i].2 ≤ 1048576∧e[i].2.length ≤ 1048576:=by
 have:=szN_mem (List.getElem_mem hi)
 unfold szP at h
 omega
theorem okP_no1 {e:Elt} {i:Nat} {c:Int} {f:List (List Int)} (h:e.getD i (0,[]) = (c,f)) (hc:isNum c = false ∨ c = 0):okP e i = false:=by
 unfold okP
 rw [h]
 unfold isNum inR at hc
 by_cases h1:1 ≤ c
 ·have h2:¬ c < 10007:=by simp at hc;omega
  rw [decide_eq_false h2,Bool.and_false,Bool.false_and,Bool.false_and]
 ·rw [decide_eq_false h1,Bool.false_and,Bool.false_and,Bool.false_and]
theorem okP_no2 {e:Elt} {i:Nat} {c:Int} {f:List (List Int)} (h:e.getD i (0,[]) = (c,f)) (hc:forB f = false):okP e i = false:=by
 unfold okP;rw [h,hc,Bool.and_false,Bool.false_and]
theorem okP_no3 {e:Elt} {i:Nat} {c:Int} {f g:List (List Int)} {k:Int} (h:e.getD i (0,[]) = (c,f)) (h2:e.getD (i - 1) (0,[]) = (k,g)) (h0:i ≠ 0) (hc:¬ cmpF g f < 0):okP e i = false:=by
 unfold okP;rw [h,h2,decide_eq_false h0,decide_eq_false hc,Bool.or_self,Bool.and_false]
theorem okP_yes {e:Elt} {i:Nat} {c:Int} {f g:List (List Int)} {k:Int} (h:e.getD i (0,[]) = (c,f)) (h2:e.getD (i - 1) (0,[]) = (k,g)) (hn:isNum c = true) (h1:c ≠ 0) (hf:forB f = true) (h0:i = 0 ∨ cmpF g f < 0):okP e i = true:=by
 unfold isNum inR at hn
 simp at hn
 unfold okP
 rw [h,h2,decide_eq_true (show 1 ≤ c by omega),decide_eq_true (show c < 10007 by omega),hf]
 rcases h0 with h0|h0
 ·rw [decide_eq_true h0];rfl
 ·rw [decide_eq_true h0,Bool.or_true];rfl
end Go.Proofs.YtgngidchldajhaaGreat
namespace Go.Proofs.YtgngidchldajhaaGreat
open Go.RowKit
theorem a_impl_IsNumber (n:Int):AFn Tryz.prog 123 [eI n] (· = [.val (.bool (isNum n))]):=afn_I_s (v:=.bool _) (enters_of Tryz.func123 rfl rfl) (fun _ _ => rdV_bool.2 rfl) (fun w => c_impl_IsNumber n w)
noncomputable def TEl:Tab Tryz.prog :=
 ((Tab.none.add 123 (tab1 codI fun n => some [.val (.bool (isNum n))]) (tab1_ok fun n rs h => by cases h;exact a_impl_IsNumber n)).add
   85 (tab1 codLL fun f => if sumLen f ≤ 1048576∧f.length ≤ 1048576 then some [.val (.bool (forB f))] else none) (tab1_ok fun f rs h => by split at h;cases h;rename_i hs;exact a_impl_IsForest f (by omega) (by omega);cases h)).add
   86 (tab2 codLL codLL fun f g => if sumLen f ≤ 1048576∧sumLen g ≤ 1048576 then some [.val (.int (cmpF f g))] else none) (tab2_ok fun f g rs h => by split at h;cases h;rename_i hs;exact a_compareForests f g (by omega) (by omega);cases h)
set_option maxRecDepth 20000 in
set_option maxHeartbeats 8000000 in
theorem a_impl_IsElement (e:Elt) (hsz:szP e):AFn Tryz.prog 47 [[.sl 2 (e.map ePt)]] (· = [.val (.bool (elB e))]):=by
 refine AFn.of_runs (cfg_ok 47) Tryz.func47 rfl rfl rfl (by simp only [List.length_cons,List.length_nil];decide) ?_
 have hres:Tryz.f47.results.toList = [.tmp 2]:=rfl
 have hrts:Tryz.f47.resultTypes.toList = [4]:=rfl
 simp only [argRegs,argAV1,eL,eI,eLL,eB,Nat.zero_add,Nat.reduceAdd]
 intro M
 refine RunK.of ?_
 have hln:e.length ≤ 1048576:=by unfold szP at hsz;omega
 by_cases h3:e.length ≤ 300
 ·have i8:((e.length:Int) > 300) = False:=eq_false (by omega)
  repeat' (first|with_reducible (first|refine Q1 ?_|refine Q2 ?_|refine Q3 ?_|refine Q4 ?_|refine Q5 ?_|refine Q6 ?_|refine Q7 ?_|refine Q8 ?_|refine Q9 ?_|refine Qa ?_|refine Qb ?_|refine Qc ?_|refine Qd ?_|refine Qe ?_|refine Qf ?_)|((with_reducible refine Qo ?_ ?_);focus rfl)|((with_reducible first|refine QT 11 (l:=?_) ?_ ?_|refine QF 11 (l:=?_) ?_ ?_);rotate_left 1;focus (simp only [Zu,Nat.reduceSub,Nat.reduceBEq];with_reducible rfl))|((with_reducible first|refine QS (cfg_ok 47) TEl (s':=?_) ?_ ?_|refine QC (b:=?_) ?_ ?_);rotate_left 1;focus ((with_reducible refine QW ?_);simp only [Zg,seval,if_true,if_false,reduceCtorEq,Nat.reduceEqDiff,TEl,i8,List.length_map];with_reducible rfl))|((with_reducible refine QD (cfg_ok 47) TEl mixed_ok (tr:=?_) (s':=?_) ?_ ?_ ?_);rotate_left 2;(focus ((with_reducible refine QW ?_);simp only [Zg,Zd,seval,if_true,if_false,reduceCtorEq,Nat.reduceEqDiff,TEl,i8,List.length_map];with_reducible rfl));focus ((with_reducible refine QK ?_);simp only [Zk];kernel_rfl)))
  refine RunK.loop (β:=Nat) (γ:=Unit) (fun i => ⟨[(0,.c (.val (.sl 2 (e.map ePt)))),(8,.c (.val (.sl 2 (e.map ePt)))),(9,.c (.val (.int e.length))),(10,.c (.val (.int i)))],[]⟩) (fun i => i ≤ e.length∧(List.range i).all (okP e) = true) (fun i => e.length - i)
   (fun _ => ⟨[],[]⟩) (fun _ => (List.range e.length).all (okP e) = true) 0 ⟨Nat.zero_le _,rfl⟩ ?_ ?_ ?_
  ·(repeat' (first|with_reducible refine Qn|((with_reducible refine Qr ?_ ?_);focus (first|with_reducible rfl|(simp only [Zz,Nat.reduceBEq,List.length_map];done)|rfl))|((with_reducible refine Qj (o':=?_) ?_ ?_ ?_);rotate_left 1;focus rfl)|((with_reducible refine Qw ?_ ?_);(focus (first|with_reducible rfl|(simp only [Zv,List.length_map];done)));focus (first|exact id|exact (fun h => nomatch h)|exact (fun _ => rfl)))))
  ·rintro i ⟨hi,hall⟩
   have hw:=w64_succ (n:=i) (by omega)
   by_cases h:i < e.length
   ·have i1:((i:Int) < (e.length:Int)) = True:=eq_true (by omega)
    have i2:((0:Int) ≤ (i:Int)) = True:=eq_true (by omega)
    have hs1:=hsz.at h
    obtain ⟨c,f,ht⟩:∃ c f,(c,f) = e[i]:=⟨_,_,rfl⟩
    have hg:(e.map ePt)[i]? = some [.int c,.sl 1 (f.map eL)]:=by rw [map_get h,← ht];rfl
    have hgd:e.getD i (0,[]) = (c,f):=by rw [getD_at h,ht]
    rw [← ht] at hs1
    simp only at hs1
    have s1:=eq_true hs1
    have s1':=eq_true hs1.1
    by_cases hc0:c = 0
    ·have e0:(c == 0) = true:=by rw [hc0];rfl
     have hB:elB e = false:=by unfold elB;rw [all_range_no h (okP_no1 hgd (.inr hc0)),Bool.and_false]
     rw [hB]
     repeat' (first|with_reducible (first|refine Q1 ?_|refine Q2 ?_|refine Q3 ?_|refine Q4 ?_|refine Q5 ?_|refine Q6 ?_|refine Q7 ?_|refine Q8 ?_|refine Q9 ?_|refine Qa ?_|refine Qb ?_|refine Qc ?_|refine Qd ?_|refine Qe ?_|refine Qf ?_)|((with_reducible refine Qo ?_ ?_);focus rfl)|((with_reducible first|refine QT 11 (l:=?_) ?_ ?_|refine QF 11 (l:=?_) ?_ ?_);rotate_left 1;focus (simp only [Zu,Nat.reduceSub,Nat.reduceBEq];with_reducible rfl))|((with_reducible first|refine QS (cfg_ok 47) TEl (s':=?_) ?_ ?_|refine QC (b:=?_) ?_ ?_);rotate_left 1;focus ((with_reducible refine QW ?_);simp only [Zg,seval,if_true,if_false,reduceCtorEq,Nat.reduceEqDiff,TEl,i1,i2,hg,hw,e0,Int.toNat_natCast,List.length_map];with_reducible rfl))|((with_reducible refine QD (cfg_ok 47) TEl mixed_ok (tr:=?_) (s':=?_) ?_ ?_ ?_);rotate_left 2;(focus ((with_reducible refine QW ?_);simp only [Zg,Zd,seval,if_true,if_false,reduceCtorEq,Nat.reduceEqDiff,TEl,i1,i2,hg,hw,e0,Int.toNat_natCast,List.length_map];with_reducible rfl));focus ((with_reducible refine QK ?_);simp only [Zk];kernel_rfl)))
     refine roundK.ret ?_
     repeat' (first|with_reducible (first|refine Q1 ?_|refine Q2 ?_|refine Q3 ?_|refine Q4 ?_|refine Q5 ?_|refine Q6 ?_|refine Q7 ?_|refine Q8 ?_|refine Q9 ?_|refine Qa ?_|refine Qb ?_|refine Qc ?_|refine Qd ?_|refine Qe ?_|refine Qf ?_)|((with_reducible refine Qo ?_ ?_);focus rfl)|((with_reducible first|refine QT 11 (l:=?_) ?_ ?_|refine QF 11 (l:=?_) ?_ ?_);rotate_left 1;focus (simp only [Zu,Nat.reduceSub,Nat.reduceBEq];with_reducible rfl))|((with_reducible first|refine QS (cfg_ok 47) TEl (s':=?_) ?_ ?_|refine QC (b:=?_) ?_ ?_);rotate_left 1;focus ((with_reducible refine QW ?_);simp only [Zg,seval,if_true,if_false,reduceCtorEq,Nat.reduceEqDiff,TEl];with_reducible rfl))|((with_reducible refine QD (cfg_ok 47) TEl mixed_ok (tr:=?_) (s':=?_) ?_ ?_ ?_);rotate_left 2;(focus ((with_reducible refine QW ?_);simp only [Zg,Zd,seval,if_true,if_false,reduceCtorEq,Nat.reduceEqDiff,TEl];with_reducible rfl));focus ((with_reducible refine QK ?_);simp only [Zk];kernel_rfl)))
     (refine Ends.mk (by simp) (rs:=?_) (ks:=?_) hres hrts ?_ ?_ ?_;rotate_left 2;(focus (simp only [Ze,Zg,seval,if_true,if_false,reduceCtorEq,Nat.reduceEqDiff];with_reducible rfl));(focus simp);focus (first|with_reducible rfl|(simp only [Zv];done)))
    ·have e0:(c == 0) = false:=beq_eq_false_iff_ne.2 hc0
     by_cases hn:isNum c = true
     ·by_cases hf:forB f = true
      ·by_cases h0:i = 0
       ·have j1:((i:Int) > 0) = False:=eq_false (by omega)
        have hok:okP e i = true:=okP_yes hgd rfl hn hc0 hf (.inl h0)
        repeat' (first|with_reducible (first|refine Q1 ?_|refine Q2 ?_|refine Q3 ?_|refine Q4 ?_|refine Q5 ?_|refine Q6 ?_|refine Q7 ?_|refine Q8 ?_|refine Q9 ?_|refine Qa ?_|refine Qb ?_|refine Qc ?_|refine Qd ?_|refine Qe ?_|refine Qf ?_)|((with_reducible refine Qo ?_ ?_);focus rfl)|((with_reducible first|refine QT 11 (l:=?_) ?_ ?_|refine QF 11 (l:=?_) ?_ ?_);rotate_left 1;focus (simp only [Zu,Nat.reduceSub,Nat.reduceBEq];with_reducible rfl))|((with_reducible first|refine QS (cfg_ok 47) TEl (s':=?_) ?_ ?_|refine QC (b:=?_) ?_ ?_);rotate_left 1;focus ((with_reducible refine QW ?_);simp only [Zg,seval,if_true,if_false,reduceCtorEq,Nat.reduceEqDiff,TEl,i1,i2,hg,hw,e0,hn,hf,s1,j1,Int.toNat_natCast,List.length_map];with_reducible rfl))|((with_reducible refine QD (cfg_ok 47) TEl mixed_ok (tr:=?_) (s':=?_) ?_ ?_ ?_);rotate_left 2;(focus ((with_reducible refine QW ?_);simp only [Zg,Zd,seval,if_true,if_false,reduceCtorEq,Nat.reduceEqDiff,TEl,i1,i2,hg,hw,e0,hn,hf,s1,j1,Int.toNat_natCast,List.length_map];with_reducible rfl));focus ((with_reducible refine QK ?_);simp only [Zk];kernel_rfl)))
        refine roundK.on (i + 1) ⟨⟨h,all_range_succ hall hok⟩,by omega⟩ ?_
        (repeat' (first|with_reducible refine Qn|((with_reducible refine Qr ?_ ?_);focus (first|with_reducible rfl|(simp only [Zz,Nat.reduceBEq];done)|rfl))|((with_reducible refine Qj (o':=?_) ?_ ?_ ?_);rotate_left 1;focus rfl)|((with_reducible refine Qw ?_ ?_);(focus (first|with_reducible rfl|(simp only [Zv];done)));focus (first|exact id|exact (fun h => nomatch h)|exact (fun _ => rfl)))))
       ·have j1:((i:Int) > 0) = True:=eq_true (by omega)
        have hw1:w64 ((i:Int) - 1) = ((i - 1:Nat):Int):=by rw [w64_eq (by omega)];omega
        have i3:((0:Int) ≤ ((i - 1:Nat):Int)) = True:=eq_true (by omega)
        have i4:(((i - 1:Nat):Int) < (e.length:Int)) = True:=eq_true (by omega)
        have hs2:=hsz.at (show i - 1 < e.length by omega)
        obtain ⟨k,g,ht2⟩:∃ k g,(k,g) = e[i - 1]:=⟨_,_,rfl⟩
        have hg2:(e.map ePt)[i - 1]? = some [.int k,.sl 1 (g.map eL)]:=by rw [map_get (by omega),← ht2];rfl
        have hgd2:e.getD (i - 1) (0,[]) = (k,g):=by rw [getD_at (by omega),ht2]
        rw [← ht2] at hs2
        simp only at hs2
        have s2:(sumLen g ≤ 1048576∧sumLen f ≤ 1048576) = True:=eq_true ⟨hs2.1,hs1.1⟩
        by_cases hk:cmpF g f < 0
        ·have hok:okP e i = true:=okP_yes hgd hgd2 hn hc0 hf (.inr hk)
         have k1:(cmpF g f ≥ 0) = False:=eq_false (by omega)
         repeat' (first|with_reducible (first|refine Q1 ?_|refine Q2 ?_|refine Q3 ?_|refine Q4 ?_|refine Q5 ?_|refine Q6 ?_|refine Q7 ?_|refine Q8 ?_|refine Q9 ?_|refine Qa ?_|refine Qb ?_|refine Qc ?_|refine Qd ?_|refine Qe ?_|refine Qf ?_)|((with_reducible refine Qo ?_ ?_);focus rfl)|((with_reducible first|refine QT 11 (l:=?_) ?_ ?_|refine QF 11 (l:=?_) ?_ ?_);rotate_left 1;focus (simp only [Zu,Nat.reduceSub,Nat.reduceBEq];with_reducible rfl))|((with_reducible first|refine QS (cfg_ok 47) TEl (s':=?_) ?_ ?_|refine QC (b:=?_) ?_ ?_);rotate_left 1;focus ((with_reducible refine QW ?_);simp only [Zg,seval,if_true,if_false,reduceCtorEq,Nat.reduceEqDiff,TEl,i1,i2,i3,i4,hg,hg2,hw,hw1,e0,hn,hf,s1,s2,j1,k1,Int.toNat_natCast,List.length_map];with_reducible rfl))|((with_reducible refine QD (cfg_ok 47) TEl mixed_ok (tr:=?_) (s':=?_) ?_ ?_ ?_);rotate_left 2;(focus ((with_reducible refine QW ?_);simp only [Zg,Zd,seval,if_true,if_false,reduceCtorEq,Nat.reduceEqDiff,TEl,i1,i2,i3,i4,hg,hg2,hw,hw1,e0,hn,hf,s1,s2,j1,k1,Int.toNat_natCast,List.length_map];with_reducible rfl));focus ((with_reducible refine QK ?_);simp only [Zk];kernel_rfl)))
         refine roundK.on (i + 1) ⟨⟨h,all_range_succ hall hok⟩,by omega⟩ ?_
         (repeat' (first|with_reducible refine Qn|((with_reducible refine Qr ?_ ?_);focus (first|with_reducible rfl|(simp only [Zz,Nat.reduceBEq];done)|rfl))|((with_reducible refine Qj (o':=?_) ?_ ?_ ?_);rotate_left 1;focus rfl)|((with_reducible refine Qw ?_ ?_);(focus (first|with_reducible rfl|(simp only [Zv];done)));focus (first|exact id|exact (fun h => nomatch h)|exact (fun _ => rfl)))))
        ·have hB:elB e = false:=by unfold elB;rw [all_range_no h (okP_no3 hgd hgd2 h0 hk),Bool.and_false]
         have k1:(cmpF g f ≥ 0) = True:=eq_true (by omega)
         rw [hB]
         repeat' (first|with_reducible (first|refine Q1 ?_|refine Q2 ?_|refine Q3 ?_|refine Q4 ?_|refine Q5 ?_|refine Q6 ?_|refine Q7 ?_|refine Q8 ?_|refine Q9 ?_|refine Qa ?_|refine Qb ?_|refine Qc ?_|refine Qd ?_|refine Qe ?_|refine Qf ?_)|((with_reducible refine Qo ?_ ?_);focus rfl)|((with_reducible first|refine QT 11 (l:=?_) ?_ ?_|refine QF 11 (l:=?_) ?_ ?_);rotate_left 1;focus (simp only [Zu,Nat.reduceSub,Nat.reduceBEq];with_reducible rfl))|((with_reducible first|refine QS (cfg_ok 47) TEl (s':=?_) ?_ ?_|refine QC (b:=?_) ?_ ?_);rotate_left 1;focus ((with_reducible refine QW ?_);simp only [Zg,seval,if_true,if_false,reduceCtorEq,Nat.reduceEqDiff,TEl,i1,i2,i3,i4,hg,hg2,hw,hw1,e0,hn,hf,s1,s2,j1,k1,Int.toNat_natCast,List.length_map];with_reducible rfl))|((with_reducible refine QD (cfg_ok 47) TEl mixed_ok (tr:=?_) (s':=?_) ?_ ?_ ?_);rotate_left 2;(focus ((with_reducible refine QW ?_);simp only [Zg,Zd,seval,if_true,if_false,reduceCtorEq,Nat.reduceEqDiff,TEl,i1,i2,i3,i4,hg,hg2,hw,hw1,e0,hn,hf,s1,s2,j1,k1,Int.toNat_natCast,List.length_map];with_reducible rfl));focus ((with_reducible refine QK ?_);simp only [Zk];kernel_rfl)))
         refine roundK.ret ?_
         repeat' (first|with_reducible (first|refine Q1 ?_|refine Q2 ?_|refine Q3 ?_|refine Q4 ?_|refine Q5 ?_|refine Q6 ?_|refine Q7 ?_|refine Q8 ?_|refine Q9 ?_|refine Qa ?_|refine Qb ?_|refine Qc ?_|refine Qd ?_|refine Qe ?_|refine Qf ?_)|((with_reducible refine Qo ?_ ?_);focus rfl)|((with_reducible first|refine QT 11 (l:=?_) ?_ ?_|refine QF 11 (l:=?_) ?_ ?_);rotate_left 1;focus (simp only [Zu,Nat.reduceSub,Nat.reduceBEq];with_reducible rfl))|((with_reducible first|refine QS (cfg_ok 47) TEl (s':=?_) ?_ ?_|refine QC (b:=?_) ?_ ?_);rotate_left 1;focus ((with_reducible refine QW ?_);simp only [Zg,seval,if_true,if_false,reduceCtorEq,Nat.reduceEqDiff,TEl];with_reducible rfl))|((with_reducible refine QD (cfg_ok 47) TEl mixed_ok (tr:=?_) (s':=?_) ?_ ?_ ?_);rotate_left 2;(focus ((with_reducible refine QW ?_);simp only [Zg,Zd,seval,if_true,if_false,reduceCtorEq,Nat.reduceEqDiff,TEl];with_reducible rfl));focus ((with_reducible refine QK ?_);simp only [Zk];kernel_rfl)))
         (refine Ends.mk (by simp) (rs:=?_) (ks:=?_) hres hrts ?_ ?_ ?_;rotate_left 2;(focus (simp only [Ze,Zg,seval,if_true,if_false,reduceCtorEq,Nat.reduceEqDiff];with_reducible rfl));(focus simp);focus (first|with_reducible rfl|(simp only [Zv];done)))
      ·have hf:forB f = false:=by simpa using hf
       have hB:elB e = false:=by unfold elB;rw [all_range_no h (okP_no2 hgd hf),Bool.and_false]
       rw [hB]
       repeat' (first|with_reducible (first|refine Q1 ?_|refine Q2 ?_|refine Q3 ?_|refine Q4 ?_|refine Q5 ?_|refine Q6 ?_|refine Q7 ?_|refine Q8 ?_|refine Q9 ?_|refine Qa ?_|refine Qb ?_|refine Qc ?_|refine Qd ?_|refine Qe ?_|refine Qf ?_)|((with_reducible refine Qo ?_ ?_);focus rfl)|((with_reducible first|refine QT 11 (l:=?_) ?_ ?_|refine QF 11 (l:=?_) ?_ ?_);rotate_left 1;focus (simp only [Zu,Nat.reduceSub,Nat.reduceBEq];with_reducible rfl))|((with_reducible first|refine QS (cfg_ok 47) TEl (s':=?_) ?_ ?_|refine QC (b:=?_) ?_ ?_);rotate_left 1;focus ((with_reducible refine QW ?_);simp only [Zg,seval,if_true,if_false,reduceCtorEq,Nat.reduceEqDiff,TEl,i1,i2,hg,hw,e0,hn,hf,s1,Int.toNat_natCast,List.length_map];with_reducible rfl))|((with_reducible refine QD (cfg_ok 47) TEl mixed_ok (tr:=?_) (s':=?_) ?_ ?_ ?_);rotate_left 2;(focus ((with_reducible refine QW ?_);simp only [Zg,Zd,seval,if_true,if_false,reduceCtorEq,Nat.reduceEqDiff,TEl,i1,i2,hg,hw,e0,hn,hf,s1,Int.toNat_natCast,List.length_map];with_reducible rfl));focus ((with_reducible refine QK ?_);simp only [Zk];kernel_rfl)))
       refine roundK.ret ?_
       repeat' (first|with_reducible (first|refine Q1 ?_|refine Q2 ?_|refine Q3 ?_|refine Q4 ?_|refine Q5 ?_|refine Q6 ?_|refine Q7 ?_|refine Q8 ?_|refine Q9 ?_|refine Qa ?_|refine Qb ?_|refine Qc ?_|refine Qd ?_|refine Qe ?_|refine Qf ?_)|((with_reducible refine Qo ?_ ?_);focus rfl)|((with_reducible first|refine QT 11 (l:=?_) ?_ ?_|refine QF 11 (l:=?_) ?_ ?_);rotate_left 1;focus (simp only [Zu,Nat.reduceSub,Nat.reduceBEq];with_reducible rfl))|((with_reducible first|refine QS (cfg_ok 47) TEl (s':=?_) ?_ ?_|refine QC (b:=?_) ?_ ?_);rotate_left 1;focus ((with_reducible refine QW ?_);simp only [Zg,seval,if_true,if_false,reduceCtorEq,Nat.reduceEqDiff,TEl];with_reducible rfl))|((with_reducible refine QD (cfg_ok 47) TEl mixed_ok (tr:=?_) (s':=?_) ?_ ?_ ?_);rotate_left 2;(focus ((with_reducible refine QW ?_);simp only [Zg,Zd,seval,if_true,if_false,reduceCtorEq,Nat.reduceEqDiff,TEl];with_reducible rfl));focus ((with_reducible refine QK ?_);simp only [Zk];kernel_rfl)))
       (refine Ends.mk (by simp) (rs:=?_) (ks:=?_) hres hrts ?_ ?_ ?_;rotate_left 2;(focus (simp only [Ze,Zg,seval,if_true,if_false,reduceCtorEq,Nat.reduceEqDiff];with_reducible rfl));(focus simp);focus (first|with_reducible rfl|(simp only [Zv];done)))
     ·have hn:isNum c = false:=by simpa using hn
      have hB:elB e = false:=by unfold elB;rw [all_range_no h (okP_no1 hgd (.inl hn)),Bool.and_false]
      rw [hB]
      repeat' (first|with_reducible (first|refine Q1 ?_|refine Q2 ?_|refine Q3 ?_|refine Q4 ?_|refine Q5 ?_|refine Q6 ?_|refine Q7 ?_|refine Q8 ?_|refine Q9 ?_|refine Qa ?_|refine Qb ?_|refine Qc ?_|refine Qd ?_|refine Qe ?_|refine Qf ?_)|((with_reducible refine Qo ?_ ?_);focus rfl)|((with_reducible first|refine QT 11 (l:=?_) ?_ ?_|refine QF 11 (l:=?_) ?_ ?_);rotate_left 1;focus (simp only [Zu,Nat.reduceSub,Nat.reduceBEq];with_reducible rfl))|((with_reducible first|refine QS (cfg_ok 47) TEl (s':=?_) ?_ ?_|refine QC (b:=?_) ?_ ?_);rotate_left 1;focus ((with_reducible refine QW ?_);simp only [Zg,seval,if_true,if_false,reduceCtorEq,Nat.reduceEqDiff,TEl,i1,i2,hg,hw,e0,hn,Int.toNat_natCast,List.length_map];with_reducible rfl))|((with_reducible refine QD (cfg_ok 47) TEl mixed_ok (tr:=?_) (s':=?_) ?_ ?_ ?_);rotate_left 2;(focus ((with_reducible refine QW ?_);simp only [Zg,Zd,seval,if_true,if_false,reduceCtorEq,Nat.reduceEqDiff,TEl,i1,i2,hg,hw,e0,hn,Int.toNat_natCast,List.length_map];with_reducible rfl));focus ((with_reducible refine QK ?_);simp only [Zk];kernel_rfl)))
      refine roundK.ret ?_
      repeat' (first|with_reducible (first|refine Q1 ?_|refine Q2 ?_|refine Q3 ?_|refine Q4 ?_|refine Q5 ?_|refine Q6 ?_|refine Q7 ?_|refine Q8 ?_|refine Q9 ?_|refine Qa ?_|refine Qb ?_|refine Qc ?_|refine Qd ?_|refine Qe ?_|refine Qf ?_)|((with_reducible refine Qo ?_ ?_);focus rfl)|((with_reducible first|refine QT 11 (l:=?_) ?_ ?_|refine QF 11 (l:=?_) ?_ ?_);rotate_left 1;focus (simp only [Zu,Nat.reduceSub,Nat.reduceBEq];with_reducible rfl))|((with_reducible first|refine QS (cfg_ok 47) TEl (s':=?_) ?_ ?_|refine QC (b:=?_) ?_ ?_);rotate_left 1;focus ((with_reducible refine QW ?_);simp only [Zg,seval,if_true,if_false,reduceCtorEq,Nat.reduceEqDiff,TEl];with_reducible rfl))|((with_reducible refine QD (cfg_ok 47) TEl mixed_ok (tr:=?_) (s':=?_) ?_ ?_ ?_);rotate_left 2;(focus ((with_reducible refine QW ?_);simp only [Zg,Zd,seval,if_true,if_false,reduceCtorEq,Nat.reduceEqDiff,TEl];with_reducible rfl));focus ((with_reducible refine QK ?_);simp only [Zk];kernel_rfl)))
      (refine Ends.mk (by simp) (rs:=?_) (ks:=?_) hres hrts ?_ ?_ ?_;rotate_left 2;(focus (simp only [Ze,Zg,seval,if_true,if_false,reduceCtorEq,Nat.reduceEqDiff];with_reducible rfl));(focus simp);focus (first|with_reducible rfl|(simp only [Zv];done)))
   ·have i1:((i:Int) < (e.length:Int)) = False:=eq_false (by omega)
    obtain rfl:i = e.length:=by omega
    repeat' (first|with_reducible (first|refine Q1 ?_|refine Q2 ?_|refine Q3 ?_|refine Q4 ?_|refine Q5 ?_|refine Q6 ?_|refine Q7 ?_|refine Q8 ?_|refine Q9 ?_|refine Qa ?_|refine Qb ?_|refine Qc ?_|refine Qd ?_|refine Qe ?_|refine Qf ?_)|((with_reducible refine Qo ?_ ?_);focus rfl)|((with_reducible first|refine QT 11 (l:=?_) ?_ ?_|refine QF 11 (l:=?_) ?_ ?_);rotate_left 1;focus (simp only [Zu,Nat.reduceSub,Nat.reduceBEq];with_reducible rfl))|((with_reducible first|refine QS (cfg_ok 47) TEl (s':=?_) ?_ ?_|refine QC (b:=?_) ?_ ?_);rotate_left 1;focus ((with_reducible refine QW ?_);simp only [Zg,seval,if_true,if_false,reduceCtorEq,Nat.reduceEqDiff,TEl,i1];with_reducible rfl))|((with_reducible refine QD (cfg_ok 47) TEl mixed_ok (tr:=?_) (s':=?_) ?_ ?_ ?_);rotate_left 2;(focus ((with_reducible refine QW ?_);simp only [Zg,Zd,seval,if_true,if_false,reduceCtorEq,Nat.reduceEqDiff,TEl,i1];with_reducible rfl));focus ((with_reducible refine QK ?_);simp only [Zk];kernel_rfl)))
    refine roundK.out () hall ?_
    (repeat' (first|with_reducible refine Qn|((with_reducible refine Qr ?_ ?_);focus (first|with_reducible rfl|(simp only [Zz,Nat.reduceBEq];done)|rfl))|((with_reducible refine Qj (o':=?_) ?_ ?_ ?_);rotate_left 1;focus rfl)|((with_reducible refine Qw ?_ ?_);(focus (first|with_reducible rfl|(simp only [Zv];done)));focus (first|exact id|exact (fun h => nomatch h)|exact (fun _ => rfl)))))
  ·rintro _ hall
   have hB:elB e = true:=by unfold elB;rw [hall,decide_eq_true h3];rfl
   rw [hB]
   repeat' (first|with_reducible (first|refine Q1 ?_|refine Q2 ?_|refine Q3 ?_|refine Q4 ?_|refine Q5 ?_|refine Q6 ?_|refine Q7 ?_|refine Q8 ?_|refine Q9 ?_|refine Qa ?_|refine Qb ?_|refine Qc ?_|refine Qd ?_|refine Qe ?_|refine Qf ?_)|((with_reducible refine Qo ?_ ?_);focus rfl)|((with_reducible first|refine QT 11 (l:=?_) ?_ ?_|refine QF 11 (l:=?_) ?_ ?_);rotate_left 1;focus (simp only [Zu,Nat.reduceSub,Nat.reduceBEq];with_reducible rfl))|((with_reducible first|refine QS (cfg_ok 47) TEl (s':=?_) ?_ ?_|refine QC (b:=?_) ?_ ?_);rotate_left 1;focus ((with_reducible refine QW ?_);simp only [Zg,seval,if_true,if_false,reduceCtorEq,Nat.reduceEqDiff,TEl];with_reducible rfl))|((with_reducible refine QD (cfg_ok 47) TEl mixed_ok (tr:=?_) (s':=?_) ?_ ?_ ?_);rotate_left 2;(focus ((with_reducible refine QW ?_);simp only [Zg,Zd,seval,if_true,if_false,reduceCtorEq,Nat.reduceEqDiff,TEl];with_reducible rfl));focus ((with_reducible refine QK ?_);simp only [Zk];kernel_rfl)))
   (refine Ends.mk (by simp) (rs:=?_) (ks:=?_) hres hrts ?_ ?_ ?_;rotate_left 2;(focus (simp only [Ze,Zg,seval,if_true,if_false,reduceCtorEq,Nat.reduceEqDiff];with_reducible rfl));(focus simp);focus (first|with_reducible rfl|(simp only [Zv];done)))
 ·have i8:((e.length:Int) > 300) = True:=eq_true (by omega)
  have hB:elB e = false:=by unfold elB;rw [decide_eq_false h3,Bool.false_and]
  rw [hB]
  repeat' (first|with_reducible (first|refine Q1 ?_|refine Q2 ?_|refine Q3 ?_|refine Q4 ?_|refine Q5 ?_|refine Q6 ?_|refine Q7 ?_|refine Q8 ?_|refine Q9 ?_|refine Qa ?_|refine Qb ?_|refine Qc ?_|refine Qd ?_|refine Qe ?_|refine Qf ?_)|((with_reducible refine Qo ?_ ?_);focus rfl)|((with_reducible first|refine QT 11 (l:=?_) ?_ ?_|refine QF 11 (l:=?_) ?_ ?_);rotate_left 1;focus (simp only [Zu,Nat.reduceSub,Nat.reduceBEq];with_reducible rfl))|((with_reducible first|refine QS (cfg_ok 47) TEl (s':=?_) ?_ ?_|refine QC (b:=?_) ?_ ?_);rotate_left 1;focus ((with_reducible refine QW ?_);simp only [Zg,seval,if_true,if_false,reduceCtorEq,Nat.reduceEqDiff,TEl,i8,List.length_map];with_reducible rfl))|((with_reducible refine QD (cfg_ok 47) TEl mixed_ok (tr:=?_) (s':=?_) ?_ ?_ ?_);rotate_left 2;(focus ((with_reducible refine QW ?_);simp only [Zg,Zd,seval,if_true,if_false,reduceCtorEq,Nat.reduceEqDiff,TEl,i8,List.length_map];with_reducible rfl));focus ((with_reducible refine QK ?_);simp only [Zk];kernel_rfl)))
  (refine Ends.mk (by simp) (rs:=?_) (ks:=?_) hres hrts ?_ ?_ ?_;rotate_left 2;(focus (simp only [Ze,Zg,seval,if_true,if_false,reduceCtorEq,Nat.reduceEqDiff];with_reducible rfl));(focus simp);focus (first|with_reducible rfl|(simp only [Zv];done)))
end Go.Proofs.YtgngidchldajhaaGreat
namespace Go.Proofs.YtgngidchldajhaaGreat
open Go.RowKit
noncomputable def TElS:Tab Tryz.prog :=
 ((Tab.none.add 143 (tab3 codI codI codI fun x y z => some [.val (.bool (inR x y z))]) (tab3_ok fun x y z rs h => by cases h;exact a_spec_l01In x y z)).add
   94 (tab1 codLL fun f => if sumLen f ≤ 1048576∧f.length ≤ 1048576 then some [.val (.bool (forB f))] else none) (tab1_ok fun f rs h => by split at h;cases h;rename_i hs;exact a_l03Forest f (by omega) (by omega);cases h)).add
   171 (tab2 codLL codLL fun f g => if (sumLen f ≤ 1048576∧sumLen g ≤ 1048576)∧(f.length ≤ 1048576∧g.length ≤ 1048576) then some [.val (.int (sgn (cmpF f g)))] else none) (tab2_ok fun f g rs h => by split at h;cases h;rename_i hs;exact a_l06Order f g (by omega) (by omega) (by omega) (by omega);cases h)
theorem sgn_ge {n:Int}:(sgn n ≥ 0) = (¬ n < 0):=by
 unfold sgn
 by_cases h:n < 0
 ·rw [if_pos h];exact propext ⟨fun h => absurd h (by decide),fun k => absurd h k⟩
 ·rw [if_neg h];split <;> exact propext ⟨fun _ => h,fun _ => by decide⟩
set_option maxRecDepth 20000 in
set_option maxHeartbeats 8000000 in
theorem a_l06Is (e:Elt) (hsz:szP e):AFn Tryz.prog 98 [[.sl 2 (e.map ePt)]] (· = [.val (.bool (elB e))]):=by
 refine AFn.of_runs (cfg_ok 48) Tryz.func98 rfl rfl rfl (by simp only [List.length_cons,List.length_nil];decide) ?_
 have hres:Tryz.f98.results.toList = [.tmp 2]:=rfl
 have hrts:Tryz.f98.resultTypes.toList = [4]:=rfl
 simp only [argRegs,argAV1,eL,eI,eLL,eB,Nat.zero_add,Nat.reduceAdd]
 intro M
 refine RunK.of ?_
 have hln:e.length ≤ 1048576:=by unfold szP at hsz;omega
 repeat' (first|with_reducible (first|refine Q1 ?_|refine Q2 ?_|refine Q3 ?_|refine Q4 ?_|refine Q5 ?_|refine Q6 ?_|refine Q7 ?_|refine Q8 ?_|refine Q9 ?_|refine Qa ?_|refine Qb ?_|refine Qc ?_|refine Qd ?_|refine Qe ?_|refine Qf ?_)|((with_reducible refine Qo ?_ ?_);focus rfl)|((with_reducible first|refine QT 4 (l:=?_) ?_ ?_|refine QF 4 (l:=?_) ?_ ?_);rotate_left 1;focus (simp only [Zu,Nat.reduceSub,Nat.reduceBEq];with_reducible rfl))|((with_reducible first|refine QS (cfg_ok 48) TElS (s':=?_) ?_ ?_|refine QC (b:=?_) ?_ ?_);rotate_left 1;focus ((with_reducible refine QW ?_);simp only [Zg,seval,if_true,if_false,reduceCtorEq,Nat.reduceEqDiff,TElS,List.length_map];with_reducible rfl))|((with_reducible refine QD (cfg_ok 48) TElS mixed_ok (tr:=?_) (s':=?_) ?_ ?_ ?_);rotate_left 2;(focus ((with_reducible refine QW ?_);simp only [Zg,Zd,seval,if_true,if_false,reduceCtorEq,Nat.reduceEqDiff,TElS,List.length_map];with_reducible rfl));focus ((with_reducible refine QK ?_);simp only [Zk];kernel_rfl)))
 refine RunK.loop (β:=Nat) (γ:=Unit) (fun i => ⟨[(0,.c (.val (.sl 2 (e.map ePt)))),(3,.c (.val (.int i)))],[]⟩) (fun i => i ≤ e.length∧(List.range i).all (okP e) = true) (fun i => e.length - i)
  (fun _ => ⟨[(0,.c (.val (.sl 2 (e.map ePt))))],[]⟩) (fun _ => (List.range e.length).all (okP e) = true) 0 ⟨Nat.zero_le _,rfl⟩ ?_ ?_ ?_
 ·(repeat' (first|with_reducible refine Qn|((with_reducible refine Qr ?_ ?_);focus (first|with_reducible rfl|(simp only [Zz,Nat.reduceBEq];done)|rfl))|((with_reducible refine Qj (o':=?_) ?_ ?_ ?_);rotate_left 1;focus rfl)|((with_reducible refine Qw ?_ ?_);(focus (first|with_reducible rfl|(simp only [Zv];done)));focus (first|exact id|exact (fun h => nomatch h)|exact (fun _ => rfl)))))
 ·rintro i ⟨hi,hall⟩
  have hw:=w64_succ (n:=i) (by omega)
  by_cases h:i < e.length
  ·have i1:((i:Int) < (e.length:Int)) = True:=eq_true (by omega)
   have i2:((0:Int) ≤ (i:Int)) = True:=eq_true (by omega)
   have hs1:=hsz.at h
   obtain ⟨c,f,ht⟩:∃ c f,(c,f) = e[i]:=⟨_,_,rfl⟩
   have hg:(e.map ePt)[i]? = some [.int c,.sl 1 (f.map eL)]:=by rw [map_get h,← ht];rfl
   have hgd:e.getD i (0,[]) = (c,f):=by rw [getD_at h,ht]
   rw [← ht] at hs1
   simp only at hs1
   have s1:=eq_true hs1
   by_cases hn:inR c 1 10006 = true
   ·have hn1:isNum c = true∧c ≠ 0:=by unfold inR at hn;unfold isNum inR;simp at hn ⊢;omega
    by_cases hf:forB f = true
    ·by_cases h0:i = 0
     ·have j1:((i:Int) > 0) = False:=eq_false (by omega)
      have hok:okP e i = true:=okP_yes hgd rfl hn1.1 hn1.2 hf (.inl h0)
      repeat' (first|with_reducible (first|refine Q1 ?_|refine Q2 ?_|refine Q3 ?_|refine Q4 ?_|refine Q5 ?_|refine Q6 ?_|refine Q7 ?_|refine Q8 ?_|refine Q9 ?_|refine Qa ?_|refine Qb ?_|refine Qc ?_|refine Qd ?_|refine Qe ?_|refine Qf ?_)|((with_reducible refine Qo ?_ ?_);focus rfl)|((with_reducible first|refine QT 4 (l:=?_) ?_ ?_|refine QF 4 (l:=?_) ?_ ?_);rotate_left 1;focus (simp only [Zu,Nat.reduceSub,Nat.reduceBEq];with_reducible rfl))|((with_reducible first|refine QS (cfg_ok 48) TElS (s':=?_) ?_ ?_|refine QC (b:=?_) ?_ ?_);rotate_left 1;focus ((with_reducible refine QW ?_);simp only [Zg,seval,if_true,if_false,reduceCtorEq,Nat.reduceEqDiff,TElS,i1,i2,hg,hw,hn,hf,s1,j1,Int.toNat_natCast,List.length_map];with_reducible rfl))|((with_reducible refine QD (cfg_ok 48) TElS mixed_ok (tr:=?_) (s':=?_) ?_ ?_ ?_);rotate_left 2;(focus ((with_reducible refine QW ?_);simp only [Zg,Zd,seval,if_true,if_false,reduceCtorEq,Nat.reduceEqDiff,TElS,i1,i2,hg,hw,hn,hf,s1,j1,Int.toNat_natCast,List.length_map];with_reducible rfl));focus ((with_reducible refine QK ?_);simp only [Zk];kernel_rfl)))
      refine roundK.on (i + 1) ⟨⟨h,all_range_succ hall hok⟩,by omega⟩ ?_
      (repeat' (first|with_reducible refine Qn|((with_reducible refine Qr ?_ ?_);focus (first|with_reducible rfl|(simp only [Zz,Nat.reduceBEq];done)|rfl))|((with_reducible refine Qj (o':=?_) ?_ ?_ ?_);rotate_left 1;focus rfl)|((with_reducible refine Qw ?_ ?_);(focus (first|with_reducible rfl|(simp only [Zv];done)));focus (first|exact id|exact (fun h => nomatch h)|exact (fun _ => rfl)))))
     ·have j1:((i:Int) > 0) = True:=eq_true (by omega)
      have hw1:w64 ((i:Int) - 1) = ((i - 1:Nat):Int):=by rw [w64_eq (by omega)];omega
      have i3:((0:Int) ≤ ((i - 1:Nat):Int)) = True:=eq_true (by omega)
      have i4:(((i - 1:Nat):Int) < (e.length:Int)) = True:=eq_true (by omega)
      have hs2:=hsz.at (show i - 1 < e.length by omega)
      obtain ⟨k,g,ht2⟩:∃ k g,(k,g) = e[i - 1]:=⟨_,_,rfl⟩
      have hg2:(e.map ePt)[i - 1]? = some [.int k,.sl 1 (g.map eL)]:=by rw [map_get (by omega),← ht2];rfl
      have hgd2:e.getD (i - 1) (0,[]) = (k,g):=by rw [getD_at (by omega),ht2]
      rw [← ht2] at hs2
      simp only at hs2
      have s2:((sumLen g ≤ 1048576∧sumLen f ≤ 1048576)∧(g.length ≤ 1048576∧f.length ≤ 1048576)) = True:=eq_true ⟨⟨hs2.1,hs1.1⟩,hs2.2,hs1.2⟩
      by_cases hk:cmpF g f < 0
      ·have hok:okP e i = true:=okP_yes hgd hgd2 hn1.1 hn1.2 hf (.inr hk)
       have k1:(sgn (cmpF g f) ≥ 0) = False:=by rw [sgn_ge];exact eq_false (fun k => k hk)
       repeat' (first|with_reducible (first|refine Q1 ?_|refine Q2 ?_|refine Q3 ?_|refine Q4 ?_|refine Q5 ?_|refine Q6 ?_|refine Q7 ?_|refine Q8 ?_|refine Q9 ?_|refine Qa ?_|refine Qb ?_|refine Qc ?_|refine Qd ?_|refine Qe ?_|refine Qf ?_)|((with_reducible refine Qo ?_ ?_);focus rfl)|((with_reducible first|refine QT 4 (l:=?_) ?_ ?_|refine QF 4 (l:=?_) ?_ ?_);rotate_left 1;focus (simp only [Zu,Nat.reduceSub,Nat.reduceBEq];with_reducible rfl))|((with_reducible first|refine QS (cfg_ok 48) TElS (s':=?_) ?_ ?_|refine QC (b:=?_) ?_ ?_);rotate_left 1;focus ((with_reducible refine QW ?_);simp only [Zg,seval,if_true,if_false,reduceCtorEq,Nat.reduceEqDiff,TElS,i1,i2,i3,i4,hg,hg2,hw,hw1,hn,hf,s1,s2,j1,k1,Int.toNat_natCast,List.length_map];with_reducible rfl))|((with_reducible refine QD (cfg_ok 48) TElS mixed_ok (tr:=?_) (s':=?_) ?_ ?_ ?_);rotate_left 2;(focus ((with_reducible refine QW ?_);simp only [Zg,Zd,seval,if_true,if_false,reduceCtorEq,Nat.reduceEqDiff,TElS,i1,i2,i3,i4,hg,hg2,hw,hw1,hn,hf,s1,s2,j1,k1,Int.toNat_natCast,List.length_map];with_reducible rfl));focus ((with_reducible refine QK ?_);simp only [Zk];kernel_rfl)))
       refine roundK.on (i + 1) ⟨⟨h,all_range_succ hall hok⟩,by omega⟩ ?_
       (repeat' (first|with_reducible refine Qn|((with_reducible refine Qr ?_ ?_);focus (first|with_reducible rfl|(simp only [Zz,Nat.reduceBEq];done)|rfl))|((with_reducible refine Qj (o':=?_) ?_ ?_ ?_);rotate_left 1;focus rfl)|((with_reducible refine Qw ?_ ?_);(focus (first|with_reducible rfl|(simp only [Zv];done)));focus (first|exact id|exact (fun h => nomatch h)|exact (fun _ => rfl)))))
      ·have hB:elB e = false:=by unfold elB;rw [all_range_no h (okP_no3 hgd hgd2 h0 hk),Bool.and_false]
       have k1:(sgn (cmpF g f) ≥ 0) = True:=by rw [sgn_ge];exact eq_true hk
       rw [hB]
       repeat' (first|with_reducible (first|refine Q1 ?_|refine Q2 ?_|refine Q3 ?_|refine Q4 ?_|refine Q5 ?_|refine Q6 ?_|refine Q7 ?_|refine Q8 ?_|refine Q9 ?_|refine Qa ?_|refine Qb ?_|refine Qc ?_|refine Qd ?_|refine Qe ?_|refine Qf ?_)|((with_reducible refine Qo ?_ ?_);focus rfl)|((with_reducible first|refine QT 4 (l:=?_) ?_ ?_|refine QF 4 (l:=?_) ?_ ?_);rotate_left 1;focus (simp only [Zu,Nat.reduceSub,Nat.reduceBEq];with_reducible rfl))|((with_reducible first|refine QS (cfg_ok 48) TElS (s':=?_) ?_ ?_|refine QC (b:=?_) ?_ ?_);rotate_left 1;focus ((with_reducible refine QW ?_);simp only [Zg,seval,if_true,if_false,reduceCtorEq,Nat.reduceEqDiff,TElS,i1,i2,i3,i4,hg,hg2,hw,hw1,hn,hf,s1,s2,j1,k1,Int.toNat_natCast,List.length_map];with_reducible rfl))|((with_reducible refine QD (cfg_ok 48) TElS mixed_ok (tr:=?_) (s':=?_) ?_ ?_ ?_);rotate_left 2;(focus ((with_reducible refine QW ?_);simp only [Zg,Zd,seval,if_true,if_false,reduceCtorEq,Nat.reduceEqDiff,TElS,i1,i2,i3,i4,hg,hg2,hw,hw1,hn,hf,s1,s2,j1,k1,Int.toNat_natCast,List.length_map];with_reducible rfl));focus ((with_reducible refine QK ?_);simp only [Zk];kernel_rfl)))
       refine roundK.ret ?_
       repeat' (first|with_reducible (first|refine Q1 ?_|refine Q2 ?_|refine Q3 ?_|refine Q4 ?_|refine Q5 ?_|refine Q6 ?_|refine Q7 ?_|refine Q8 ?_|refine Q9 ?_|refine Qa ?_|refine Qb ?_|refine Qc ?_|refine Qd ?_|refine Qe ?_|refine Qf ?_)|((with_reducible refine Qo ?_ ?_);focus rfl)|((with_reducible first|refine QT 4 (l:=?_) ?_ ?_|refine QF 4 (l:=?_) ?_ ?_);rotate_left 1;focus (simp only [Zu,Nat.reduceSub,Nat.reduceBEq];with_reducible rfl))|((with_reducible first|refine QS (cfg_ok 48) TElS (s':=?_) ?_ ?_|refine QC (b:=?_) ?_ ?_);rotate_left 1;focus ((with_reducible refine QW ?_);simp only [Zg,seval,if_true,if_false,reduceCtorEq,Nat.reduceEqDiff,TElS];with_reducible rfl))|((with_reducible refine QD (cfg_ok 48) TElS mixed_ok (tr:=?_) (s':=?_) ?_ ?_ ?_);rotate_left 2;(focus ((with_reducible refine QW ?_);simp only [Zg,Zd,seval,if_true,if_false,reduceCtorEq,Nat.reduceEqDiff,TElS];with_reducible rfl));focus ((with_reducible refine QK ?_);simp only [Zk];kernel_rfl)))
       (refine Ends.mk (by simp) (rs:=?_) (ks:=?_) hres hrts ?_ ?_ ?_;rotate_left 2;(focus (simp only [Ze,Zg,seval,if_true,if_false,reduceCtorEq,Nat.reduceEqDiff];with_reducible rfl));(focus simp);focus (first|with_reducible rfl|(simp only [Zv];done)))
    ·have hf:forB f = false:=by simpa using hf
     have hB:elB e = false:=by unfold elB;rw [all_range_no h (okP_no2 hgd hf),Bool.and_false]
     rw [hB]
     repeat' (first|with_reducible (first|refine Q1 ?_|refine Q2 ?_|refine Q3 ?_|refine Q4 ?_|refine Q5 ?_|refine Q6 ?_|refine Q7 ?_|refine Q8 ?_|refine Q9 ?_|refine Qa ?_|refine Qb ?_|refine Qc ?_|refine Qd ?_|refine Qe ?_|refine Qf ?_)|((with_reducible refine Qo ?_ ?_);focus rfl)|((with_reducible first|refine QT 4 (l:=?_) ?_ ?_|refine QF 4 (l:=?_) ?_ ?_);rotate_left 1;focus (simp only [Zu,Nat.reduceSub,Nat.reduceBEq];with_reducible rfl))|((with_reducible first|refine QS (cfg_ok 48) TElS (s':=?_) ?_ ?_|refine QC (b:=?_) ?_ ?_);rotate_left 1;focus ((with_reducible refine QW ?_);simp only [Zg,seval,if_true,if_false,reduceCtorEq,Nat.reduceEqDiff,TElS,i1,i2,hg,hw,hn,hf,s1,Int.toNat_natCast,List.length_map];with_reducible rfl))|((with_reducible refine QD (cfg_ok 48) TElS mixed_ok (tr:=?_) (s':=?_) ?_ ?_ ?_);rotate_left 2;(focus ((with_reducible refine QW ?_);simp only [Zg,Zd,seval,if_true,if_false,reduceCtorEq,Nat.reduceEqDiff,TElS,i1,i2,hg,hw,hn,hf,s1,Int.toNat_natCast,List.length_map];with_reducible rfl));focus ((with_reducible refine QK ?_);simp only [Zk];kernel_rfl)))
     refine roundK.ret ?_
     repeat' (first|with_reducible (first|refine Q1 ?_|refine Q2 ?_|refine Q3 ?_|refine Q4 ?_|refine Q5 ?_|refine Q6 ?_|refine Q7 ?_|refine Q8 ?_|refine Q9 ?_|refine Qa ?_|refine Qb ?_|refine Qc ?_|refine Qd ?_|refine Qe ?_|refine Qf ?_)|((with_reducible refine Qo ?_ ?_);focus rfl)|((with_reducible first|refine QT 4 (l:=?_) ?_ ?_|refine QF 4 (l:=?_) ?_ ?_);rotate_left 1;focus (simp only [Zu,Nat.reduceSub,Nat.reduceBEq];with_reducible rfl))|((with_reducible first|refine QS (cfg_ok 48) TElS (s':=?_) ?_ ?_|refine QC (b:=?_) ?_ ?_);rotate_left 1;focus ((with_reducible refine QW ?_);simp only [Zg,seval,if_true,if_false,reduceCtorEq,Nat.reduceEqDiff,TElS];with_reducible rfl))|((with_reducible refine QD (cfg_ok 48) TElS mixed_ok (tr:=?_) (s':=?_) ?_ ?_ ?_);rotate_left 2;(focus ((with_reducible refine QW ?_);simp only [Zg,Zd,seval,if_true,if_false,reduceCtorEq,Nat.reduceEqDiff,TElS];with_reducible rfl));focus ((with_reducible refine QK ?_);simp only [Zk];kernel_rfl)))
     (refine Ends.mk (by simp) (rs:=?_) (ks:=?_) hres hrts ?_ ?_ ?_;rotate_left 2;(focus (simp only [Ze,Zg,seval,if_true,if_false,reduceCtorEq,Nat.reduceEqDiff];with_reducible rfl));(focus simp);focus (first|with_reducible rfl|(simp only [Zv];done)))
   ·have hn:inR c 1 10006 = false:=by simpa using hn
    have hB:elB e = false:=by
     unfold elB
     rw [all_range_no h (okP_no1 hgd ?_),Bool.and_false]
     unfold inR at hn
     unfold isNum inR
     simp at hn ⊢
     omega
    rw [hB]
    repeat' (first|with_reducible (first|refine Q1 ?_|refine Q2 ?_|refine Q3 ?_|refine Q4 ?_|refine Q5 ?_|refine Q6 ?_|refine Q7 ?_|refine Q8 ?_|refine Q9 ?_|refine Qa ?_|refine Qb ?_|refine Qc ?_|refine Qd ?_|refine Qe ?_|refine Qf ?_)|((with_reducible refine Qo ?_ ?_);focus rfl)|((with_reducible first|refine QT 4 (l:=?_) ?_ ?_|refine QF 4 (l:=?_) ?_ ?_);rotate_left 1;focus (simp only [Zu,Nat.reduceSub,Nat.reduceBEq];with_reducible rfl))|((with_reducible first|refine QS (cfg_ok 48) TElS (s':=?_) ?_ ?_|refine QC (b:=?_) ?_ ?_);rotate_left 1;focus ((with_reducible refine QW ?_);simp only [Zg,seval,if_true,if_false,reduceCtorEq,Nat.reduceEqDiff,TElS,i1,i2,hg,hw,hn,Int.toNat_natCast,List.length_map];with_reducible rfl))|((with_reducible refine QD (cfg_ok 48) TElS mixed_ok (tr:=?_) (s':=?_) ?_ ?_ ?_);rotate_left 2;(focus ((with_reducible refine QW ?_);simp only [Zg,Zd,seval,if_true,if_false,reduceCtorEq,Nat.reduceEqDiff,TElS,i1,i2,hg,hw,hn,Int.toNat_natCast,List.length_map];with_reducible rfl));focus ((with_reducible refine QK ?_);simp only [Zk];kernel_rfl)))
    refine roundK.ret ?_
    repeat' (first|with_reducible (first|refine Q1 ?_|refine Q2 ?_|refine Q3 ?_|refine Q4 ?_|refine Q5 ?_|refine Q6 ?_|refine Q7 ?_|refine Q8 ?_|refine Q9 ?_|refine Qa ?_|refine Qb ?_|refine Qc ?_|refine Qd ?_|refine Qe ?_|refine Qf ?_)|((with_reducible refine Qo ?_ ?_);focus rfl)|((with_reducible first|refine QT 4 (l:=?_) ?_ ?_|refine QF 4 (l:=?_) ?_ ?_);rotate_left 1;focus (simp only [Zu,Nat.reduceSub,Nat.reduceBEq];with_reducible rfl))|((with_reducible first|refine QS (cfg_ok 48) TElS (s':=?_) ?_ ?_|refine QC (b:=?_) ?_ ?_);rotate_left 1;focus ((with_reducible refine QW ?_);simp only [Zg,seval,if_true,if_false,reduceCtorEq,Nat.reduceEqDiff,TElS];with_reducible rfl))|((with_reducible refine QD (cfg_ok 48) TElS mixed_ok (tr:=?_) (s':=?_) ?_ ?_ ?_);rotate_left 2;(focus ((with_reducible refine QW ?_);simp only [Zg,Zd,seval,if_true,if_false,reduceCtorEq,Nat.reduceEqDiff,TElS];with_reducible rfl));focus ((with_reducible refine QK ?_);simp only [Zk];kernel_rfl)))
    (refine Ends.mk (by simp) (rs:=?_) (ks:=?_) hres hrts ?_ ?_ ?_;rotate_left 2;(focus (simp only [Ze,Zg,seval,if_true,if_false,reduceCtorEq,Nat.reduceEqDiff];with_reducible rfl));(focus simp);focus (first|with_reducible rfl|(simp only [Zv];done)))
  ·have i1:((i:Int) < (e.length:Int)) = False:=eq_false (by omega)
   obtain rfl:i = e.length:=by omega
   repeat' (first|with_reducible (first|refine Q1 ?_|refine Q2 ?_|refine Q3 ?_|refine Q4 ?_|refine Q5 ?_|refine Q6 ?_|refine Q7 ?_|refine Q8 ?_|refine Q9 ?_|refine Qa ?_|refine Qb ?_|refine Qc ?_|refine Qd ?_|refine Qe ?_|refine Qf ?_)|((with_reducible refine Qo ?_ ?_);focus rfl)|((with_reducible first|refine QT 4 (l:=?_) ?_ ?_|refine QF 4 (l:=?_) ?_ ?_);rotate_left 1;focus (simp only [Zu,Nat.reduceSub,Nat.reduceBEq];with_reducible rfl))|((with_reducible first|refine QS (cfg_ok 48) TElS (s':=?_) ?_ ?_|refine QC (b:=?_) ?_ ?_);rotate_left 1;focus ((with_reducible refine QW ?_);simp only [Zg,seval,if_true,if_false,reduceCtorEq,Nat.reduceEqDiff,TElS,i1,List.length_map];with_reducible rfl))|((with_reducible refine QD (cfg_ok 48) TElS mixed_ok (tr:=?_) (s':=?_) ?_ ?_ ?_);rotate_left 2;(focus ((with_reducible refine QW ?_);simp only [Zg,Zd,seval,if_true,if_false,reduceCtorEq,Nat.reduceEqDiff,TElS,i1,List.length_map];with_reducible rfl));focus ((with_reducible refine QK ?_);simp only [Zk];kernel_rfl)))
   refine roundK.out () hall ?_
   (repeat' (first|with_reducible refine Qn|((with_reducible refine Qr ?_ ?_);focus (first|with_reducible rfl|(simp only [Zz,Nat.reduceBEq];done)|rfl))|((with_reducible refine Qj (o':=?_) ?_ ?_ ?_);rotate_left 1;focus rfl)|((with_reducible refine Qw ?_ ?_);(focus (first|with_reducible rfl|(simp only [Zv];done)));focus (first|exact id|exact (fun h => nomatch h)|exact (fun _ => rfl)))))
 ·rintro _ hall
  have hB:elB e = decide ((e.length:Int) ≤ 300):=by
   unfold elB;rw [hall,Bool.and_true]
   exact decide_eq_decide.2 (by omega)
  rw [hB]
  repeat' (first|with_reducible (first|refine Q1 ?_|refine Q2 ?_|refine Q3 ?_|refine Q4 ?_|refine Q5 ?_|refine Q6 ?_|refine Q7 ?_|refine Q8 ?_|refine Q9 ?_|refine Qa ?_|refine Qb ?_|refine Qc ?_|refine Qd ?_|refine Qe ?_|refine Qf ?_)|((with_reducible refine Qo ?_ ?_);focus rfl)|((with_reducible first|refine QT 4 (l:=?_) ?_ ?_|refine QF 4 (l:=?_) ?_ ?_);rotate_left 1;focus (simp only [Zu,Nat.reduceSub,Nat.reduceBEq];with_reducible rfl))|((with_reducible first|refine QS (cfg_ok 48) TElS (s':=?_) ?_ ?_|refine QC (b:=?_) ?_ ?_);rotate_left 1;focus ((with_reducible refine QW ?_);simp only [Zg,seval,if_true,if_false,reduceCtorEq,Nat.reduceEqDiff,TElS,List.length_map];with_reducible rfl))|((with_reducible refine QD (cfg_ok 48) TElS mixed_ok (tr:=?_) (s':=?_) ?_ ?_ ?_);rotate_left 2;(focus ((with_reducible refine QW ?_);simp only [Zg,Zd,seval,if_true,if_false,reduceCtorEq,Nat.reduceEqDiff,TElS,List.length_map];with_reducible rfl));focus ((with_reducible refine QK ?_);simp only [Zk];kernel_rfl)))
  (refine Ends.mk (by simp) (rs:=?_) (ks:=?_) hres hrts ?_ ?_ ?_;rotate_left 2;(focus (simp only [Ze,Zg,seval,if_true,if_false,reduceCtorEq,Nat.reduceEqDiff];with_reducible rfl));(focus simp);focus (first|with_reducible rfl|(simp only [Zv];done)))
end Go.Proofs.YtgngidchldajhaaGreat
