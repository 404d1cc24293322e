/- Lemmas (12). -/
import Derived.Lib.AppendZeros
import Derived.Test.YtgngidchldajhaaGreatZA0
import Derived.Test.YtgngidchldajhaaGreatZA1
import Derived.Test.YtgngidchldajhaaGreatZA5
import Derived.Test.YtgngidchldajhaaGreatZA6
import Derived.Test.YtgngidchldajhaaGreatZA7
import Derived.Test.YtgngidchldajhaaGreatZA8
import Derived.Test.YtgngidchldajhaaGreatZA11
set_option linter.unusedSimpArgs false
set_option linter.unusedVariables false
namespace Go.Proofs.YtgngidchldajhaaGreat
open Go.RowKit
set_option maxHeartbeats 2000000 in
theorem a_IndexFuncCu {α:Type} (e:α→List D) (d d2:α→D) (c0:α→Int) (f:α→List (List Int)) (f2:α→List Int) (p:α→Bool) (g:FuncId) (he:∀ x,e x = [d x,d2 x,.int (c0 x)]) (hun:∀ x,(d x).un = .sl 1 ((f x).map eL)) (hun2:∀ x,(d2 x).un = .sl 1 ((f2 x).map eI)) (hp:∀ x,AFn Tryz.prog g [[.sl 1 ((f x).map eL),.sl 1 ((f2 x).map eI),.int (c0 x)]] (· = [.val (.bool (p x))])) (xs:List α) (hl:xs.length ≤ 1000000000) :
  AFn Tryz.prog 156 [[.sl 3 (xs.map e)],[.raw (.func (.func g) #[] #[])]] (· = [.val (.int (idxI (fIdx p xs)))]):=by
 refine AFn.of_runs (cfg_ok 19) Tryz.func156 rfl rfl rfl (by simp only [List.length_cons,List.length_nil];decide) ?_
 have hres:Tryz.f156.results.toList = [.tmp 4]:=rfl
 have hrts:Tryz.f156.resultTypes.toList = [3]:=rfl
 simp only [argRegs,argAV1,eL,eI,eLL,eB,Nat.zero_add,Nat.reduceAdd]
 intro M
 refine RunK.of ?_
 have hle:(xs.map e).length = xs.length:=by simp
 repeat' (first|with_reducible (first|refine Q1 ?_|refine Q2 ?_|refine Q3 ?_|refine Q4 ?_|refine Q5 ?_|refine Q6 ?_|refine Q7 ?_|refine Q8 ?_|refine Q9 ?_|refine Qa ?_|refine Qb ?_|refine Qc ?_|refine Qd ?_|refine Qe ?_|refine Qf ?_)|((with_reducible refine Qo ?_ ?_);focus rfl)|((with_reducible first|refine QT 9 (l:=?_) ?_ ?_|refine QF 9 (l:=?_) ?_ ?_);rotate_left 1;focus (simp only [Zu,Nat.reduceSub,Nat.reduceBEq];with_reducible rfl))|((with_reducible first|refine QS (cfg_ok 19) Tab.none (s':=?_) ?_ ?_|refine QC (b:=?_) ?_ ?_);rotate_left 1;focus ((with_reducible refine QW ?_);simp only [Zg,seval,if_true,if_false,reduceCtorEq,Nat.reduceEqDiff,hle];with_reducible rfl)))
 refine RunK.loop (β:=Nat) (γ:=Unit) (fun i => ⟨[(0,.c (.val (.sl 3 (xs.map e)))),(1,.c (.val (.raw (.func (.func g) #[] #[])))),(7,.c (.val (.int xs.length))),(8,.c (.val (.int i)))],[]⟩) (fun i => i ≤ xs.length∧∀ x ∈ xs.take i,p x = false) (fun i => xs.length - i)
  (fun _ => ⟨[],[]⟩) (fun _ => ∀ x ∈ xs,p x = false) 0 ⟨Nat.zero_le _,by simp⟩ ?_ ?_ ?_
 ·(repeat' (first|with_reducible refine Qn|((with_reducible refine Qr ?_ ?_);focus (first|with_reducible rfl|(simp only [Zz,Nat.reduceBEq];done)|rfl))|((with_reducible refine Qj (o':=?_) ?_ ?_ ?_);rotate_left 1;focus rfl)|((with_reducible refine Qw ?_ ?_);(focus (first|with_reducible rfl|(simp only [Zv];done)));focus (first|exact id|exact (fun h => nomatch h)|exact (fun _ => rfl)))))
 ·rintro i ⟨hi,hlow⟩
  have hw:=w64_succ (n:=i) (by omega)
  by_cases h:i < xs.length
  ·have hx:=hp xs[i]
   have hj:(xs.map e)[i]? = some [d xs[i],d2 xs[i],.int (c0 xs[i])]:=by rw [map_get h,he]
   have i1:((i:Int) < (xs.length:Int)) = True:=eq_true (by omega)
   have i2:((0:Int) ≤ (i:Int)) = True:=eq_true (by omega)
   by_cases hpx:p xs[i] = true
   ·repeat' (first|with_reducible (first|refine Q1 ?_|refine Q2 ?_|refine Q3 ?_|refine Q4 ?_|refine Q5 ?_|refine Q6 ?_|refine Q7 ?_|refine Q8 ?_|refine Q9 ?_|refine Qa ?_|refine Qb ?_|refine Qc ?_|refine Qd ?_|refine Qe ?_|refine Qf ?_)|((with_reducible refine Qo ?_ ?_);focus rfl)|((with_reducible first|refine QT 9 (l:=?_) ?_ ?_|refine QF 9 (l:=?_) ?_ ?_);rotate_left 1;focus (simp only [Zu,Nat.reduceSub,Nat.reduceBEq];with_reducible rfl))|((with_reducible first|refine QS (cfg_ok 19) (Tab.none.at' g hx) (s':=?_) ?_ ?_|refine QC (b:=?_) ?_ ?_);rotate_left 1;focus ((with_reducible refine QW ?_);simp only [Zg,seval,if_true,if_false,reduceCtorEq,Nat.reduceEqDiff,hle,i1,i2,hj,hun,hun2,argV_un (hun _),cellD_un (hun _),argV_un (hun2 _),cellD_un (hun2 _),hpx,hw,eL,Int.toNat_natCast];with_reducible rfl)))
    refine roundK.ret ?_
    repeat' (first|with_reducible (first|refine Q1 ?_|refine Q2 ?_|refine Q3 ?_|refine Q4 ?_|refine Q5 ?_|refine Q6 ?_|refine Q7 ?_|refine Q8 ?_|refine Q9 ?_|refine Qa ?_|refine Qb ?_|refine Qc ?_|refine Qd ?_|refine Qe ?_|refine Qf ?_)|((with_reducible refine Qo ?_ ?_);focus rfl)|((with_reducible first|refine QT 9 (l:=?_) ?_ ?_|refine QF 9 (l:=?_) ?_ ?_);rotate_left 1;focus (simp only [Zu,Nat.reduceSub,Nat.reduceBEq];with_reducible rfl))|((with_reducible first|refine QS (cfg_ok 19) Tab.none (s':=?_) ?_ ?_|refine QC (b:=?_) ?_ ?_);rotate_left 1;focus ((with_reducible refine QW ?_);simp only [Zg,seval,if_true,if_false,reduceCtorEq,Nat.reduceEqDiff];with_reducible rfl)))
    rw [fIdx_at h hpx hlow]
    (refine Ends.mk (by simp) (rs:=?_) (ks:=?_) hres hrts ?_ ?_ ?_;rotate_left 2;(focus (simp only [Ze,Zg,seval,if_true,if_false,reduceCtorEq,Nat.reduceEqDiff,idxI];with_reducible rfl));(focus simp);focus (first|with_reducible rfl|(simp only [Zv,idxI];done)))
   ·have hpx':p xs[i] = false:=by simpa using hpx
    repeat' (first|with_reducible (first|refine Q1 ?_|refine Q2 ?_|refine Q3 ?_|refine Q4 ?_|refine Q5 ?_|refine Q6 ?_|refine Q7 ?_|refine Q8 ?_|refine Q9 ?_|refine Qa ?_|refine Qb ?_|refine Qc ?_|refine Qd ?_|refine Qe ?_|refine Qf ?_)|((with_reducible refine Qo ?_ ?_);focus rfl)|((with_reducible first|refine QT 9 (l:=?_) ?_ ?_|refine QF 9 (l:=?_) ?_ ?_);rotate_left 1;focus (simp only [Zu,Nat.reduceSub,Nat.reduceBEq];with_reducible rfl))|((with_reducible first|refine QS (cfg_ok 19) (Tab.none.at' g hx) (s':=?_) ?_ ?_|refine QC (b:=?_) ?_ ?_);rotate_left 1;focus ((with_reducible refine QW ?_);simp only [Zg,seval,if_true,if_false,reduceCtorEq,Nat.reduceEqDiff,hle,i1,i2,hj,hun,hun2,argV_un (hun _),cellD_un (hun _),argV_un (hun2 _),cellD_un (hun2 _),hpx',hw,eL,Int.toNat_natCast];with_reducible rfl)))
    refine roundK.on (i + 1) ⟨⟨h,fun x hx => ?_⟩,by omega⟩ ?_
    ·rw [List.take_succ_eq_append_getElem h,List.mem_append,List.mem_singleton] at hx
     rcases hx with hx|rfl
     ·exact hlow x hx
     ·exact hpx'
    ·(repeat' (first|with_reducible refine Qn|((with_reducible refine Qr ?_ ?_);focus (first|with_reducible rfl|(simp only [Zz,Nat.reduceBEq];done)|rfl))|((with_reducible refine Qj (o':=?_) ?_ ?_ ?_);rotate_left 1;focus rfl)|((with_reducible refine Qw ?_ ?_);(focus (first|with_reducible rfl|(simp only [Zv];done)));focus (first|exact id|exact (fun h => nomatch h)|exact (fun _ => rfl)))))
  ·have i1:((i:Int) < (xs.length:Int)) = False:=eq_false (by omega)
   repeat' (first|with_reducible (first|refine Q1 ?_|refine Q2 ?_|refine Q3 ?_|refine Q4 ?_|refine Q5 ?_|refine Q6 ?_|refine Q7 ?_|refine Q8 ?_|refine Q9 ?_|refine Qa ?_|refine Qb ?_|refine Qc ?_|refine Qd ?_|refine Qe ?_|refine Qf ?_)|((with_reducible refine Qo ?_ ?_);focus rfl)|((with_reducible first|refine QT 9 (l:=?_) ?_ ?_|refine QF 9 (l:=?_) ?_ ?_);rotate_left 1;focus (simp only [Zu,Nat.reduceSub,Nat.reduceBEq];with_reducible rfl))|((with_reducible first|refine QS (cfg_ok 19) Tab.none (s':=?_) ?_ ?_|refine QC (b:=?_) ?_ ?_);rotate_left 1;focus ((with_reducible refine QW ?_);simp only [Zg,seval,if_true,if_false,reduceCtorEq,Nat.reduceEqDiff,hle,i1];with_reducible rfl)))
   refine roundK.out () (fun x hx => hlow x (by rw [List.take_of_length_le (by omega)];exact hx)) ?_
   (repeat' (first|with_reducible refine Qn|((with_reducible refine Qr ?_ ?_);focus (first|with_reducible rfl|(simp only [Zz,Nat.reduceBEq];done)|rfl))|((with_reducible refine Qj (o':=?_) ?_ ?_ ?_);rotate_left 1;focus rfl)|((with_reducible refine Qw ?_ ?_);(focus (first|with_reducible rfl|(simp only [Zv];done)));focus (first|exact id|exact (fun h => nomatch h)|exact (fun _ => rfl)))))
 ·rintro _ hno
  repeat' (first|with_reducible (first|refine Q1 ?_|refine Q2 ?_|refine Q3 ?_|refine Q4 ?_|refine Q5 ?_|refine Q6 ?_|refine Q7 ?_|refine Q8 ?_|refine Q9 ?_|refine Qa ?_|refine Qb ?_|refine Qc ?_|refine Qd ?_|refine Qe ?_|refine Qf ?_)|((with_reducible refine Qo ?_ ?_);focus rfl)|((with_reducible first|refine QT 9 (l:=?_) ?_ ?_|refine QF 9 (l:=?_) ?_ ?_);rotate_left 1;focus (simp only [Zu,Nat.reduceSub,Nat.reduceBEq];with_reducible rfl))|((with_reducible first|refine QS (cfg_ok 19) Tab.none (s':=?_) ?_ ?_|refine QC (b:=?_) ?_ ?_);rotate_left 1;focus ((with_reducible refine QW ?_);simp only [Zg,seval,if_true,if_false,reduceCtorEq,Nat.reduceEqDiff];with_reducible rfl)))
  rw [fIdx_none.2 hno]
  (refine Ends.mk (by simp) (rs:=?_) (ks:=?_) hres hrts ?_ ?_ ?_;rotate_left 2;(focus (simp only [Ze,Zg,seval,if_true,if_false,reduceCtorEq,Nat.reduceEqDiff,idxI];with_reducible rfl));(focus simp);focus (first|with_reducible rfl|(simp only [Zv,idxI];done)))
set_option maxHeartbeats 4000000 in
theorem a_DeleteFuncCu {α:Type} (e:α→List D) (d d2:α→D) (c0:α→Int) (f:α→List (List Int)) (f2:α→List Int) (p:α→Bool) (g:FuncId) (he:∀ x,e x = [d x,d2 x,.int (c0 x)]) (hun:∀ x,(d x).un = .sl 1 ((f x).map eL)) (hun2:∀ x,(d2 x).un = .sl 1 ((f2 x).map eI)) (hp:∀ x,AFn Tryz.prog g [[.sl 1 ((f x).map eL),.sl 1 ((f2 x).map eI),.int (c0 x)]] (· = [.val (.bool (p x))])) (xs:List α) (hl:xs.length ≤ 1000000000) :
  AOw Tryz.prog 83 [] 3 (xs.map e) [[.raw (.func (.func g) #[] #[])]] (· = [.own 3 ((keepF p xs).map e) false]):=by
 have hidx:=a_IndexFuncCu e d d2 c0 f f2 p g he hun hun2 hp xs hl
 rcases hfi:fIdx p xs with _|i0
 ·rw [hfi] at hidx
  have hk:keepF p xs = xs:=List.filter_eq_self.2 (fun x hx => by rw [fIdx_none.1 hfi x hx];rfl)
  rw [hk]
  refine AOw.of_runs (cfg_ok 42) Tryz.func83 rfl rfl rfl (by simp only [List.length_cons,List.length_nil];decide) ?_
  have hres:Tryz.f83.results.toList = [.tmp 4]:=rfl
  have hrts:Tryz.f83.resultTypes.toList = [26]:=rfl
  simp only [List.length_cons,List.length_nil,List.nil_append,List.cons_append,argRegs,argAV1,eL,eI,eLL,eB,Nat.zero_add,Nat.reduceAdd]
  intro M
  refine RunK.of ?_
  repeat' (first|with_reducible (first|refine Q1 ?_|refine Q2 ?_|refine Q3 ?_|refine Q4 ?_|refine Q5 ?_|refine Q6 ?_|refine Q7 ?_|refine Q8 ?_|refine Q9 ?_|refine Qa ?_|refine Qb ?_|refine Qc ?_|refine Qd ?_|refine Qe ?_|refine Qf ?_)|((with_reducible refine Qo ?_ ?_);focus rfl)|((with_reducible first|refine QT 8 (l:=?_) ?_ ?_|refine QF 8 (l:=?_) ?_ ?_);rotate_left 1;focus (simp only [Zu,Nat.reduceSub,Nat.reduceBEq];with_reducible rfl))|((with_reducible first|refine QS (cfg_ok 42) (Tab.none.at' 156 hidx) (s':=?_) ?_ ?_|refine QC (b:=?_) ?_ ?_);rotate_left 1;focus ((with_reducible refine QW ?_);simp only [Zg,seval,if_true,if_false,reduceCtorEq,Nat.reduceEqDiff,idxI];with_reducible rfl)))
  (refine Ends.mk (by simp) (rs:=?_) (ks:=?_) hres hrts ?_ ?_ ?_;rotate_left 2;(focus (simp only [Ze,Zg,seval,if_true,if_false,reduceCtorEq,Nat.reduceEqDiff];with_reducible rfl));(focus simp);focus (first|with_reducible rfl|(simp only [Zv];done)))
 ·rw [hfi] at hidx
  obtain ⟨hi0,hpi,hlow⟩:=fIdx_some hfi
  refine AOw.of_runs (cfg_ok 42) Tryz.func83 rfl rfl rfl (by simp only [List.length_cons,List.length_nil];decide) ?_
  have hres:Tryz.f83.results.toList = [.tmp 4]:=rfl
  have hrts:Tryz.f83.resultTypes.toList = [26]:=rfl
  simp only [List.length_cons,List.length_nil,List.nil_append,List.cons_append,argRegs,argAV1,eL,eI,eLL,eB,Nat.zero_add,Nat.reduceAdd]
  intro M
  refine RunK.of ?_
  have hne:((i0:Int) == -1) = false:=beq_eq_false_iff_ne.2 (by omega)
  have hw0:=w64_succ (n:=i0) (by omega)
  repeat' (first|with_reducible (first|refine Q1 ?_|refine Q2 ?_|refine Q3 ?_|refine Q4 ?_|refine Q5 ?_|refine Q6 ?_|refine Q7 ?_|refine Q8 ?_|refine Q9 ?_|refine Qa ?_|refine Qb ?_|refine Qc ?_|refine Qd ?_|refine Qe ?_|refine Qf ?_)|((with_reducible refine Qo ?_ ?_);focus rfl)|((with_reducible first|refine QT 8 (l:=?_) ?_ ?_|refine QF 8 (l:=?_) ?_ ?_);rotate_left 1;focus (simp only [Zu,Nat.reduceSub,Nat.reduceBEq];with_reducible rfl))|((with_reducible first|refine QS (cfg_ok 42) (Tab.none.at' 156 hidx) (s':=?_) ?_ ?_|refine QC (b:=?_) ?_ ?_);rotate_left 1;focus ((with_reducible refine QW ?_);simp only [Zg,seval,if_true,if_false,reduceCtorEq,Nat.reduceEqDiff,idxI,hne,hw0];with_reducible rfl)))
  refine RunK.loop (β:=Nat × List (List D)) (γ:=List (List D)) (fun x => ⟨[(0,.c (.own 0 xs.length)),(1,.c (.val (.raw (.func (.func g) #[] #[])))),(5,.c (.val (.int (keepF p (xs.take x.1)).length))),(6,.c (.val (.int x.1)))],[(0,.row 3 x.2 false)]⟩)
   (fun x => x.1 ≤ xs.length∧x.2.length = xs.length∧(∀ r ∈ x.2,r.length = 3)∧x.2.take (keepF p (xs.take x.1)).length = (keepF p (xs.take x.1)).map e∧x.2.drop x.1 = (xs.drop x.1).map e) (fun x => xs.length - x.1)
   (fun L => ⟨[(0,.c (.own 0 xs.length)),(5,.c (.val (.int (keepF p xs).length)))],[(0,.row 3 L false)]⟩) (fun L => L.length = xs.length∧L.take (keepF p xs).length = (keepF p xs).map e) (i0 + 1,xs.map e) ⟨by omega,by simp,?_,?_,by rw [List.map_drop]⟩ ?_ ?_ ?_
  ·intro r hr
   obtain ⟨x,_,rfl⟩:=List.mem_map.1 hr
   rw [he];rfl
  ·have h1:keepF p (xs.take (i0 + 1)) = xs.take i0:=by
    rw [List.take_succ_eq_append_getElem hi0]
    unfold keepF
    rw [List.filter_append,List.filter_eq_self.2 (fun x hx => by rw [hlow x hx];rfl)]
    simp [hpi]
   show (xs.map e).take (keepF p (xs.take (i0 + 1))).length = (keepF p (xs.take (i0 + 1))).map e
   rw [h1,← List.map_take,List.length_take,Nat.min_eq_left (Nat.le_of_lt hi0)]
  ·have h1:(keepF p (xs.take (i0 + 1))).length = i0:=by
    rw [List.take_succ_eq_append_getElem hi0]
    unfold keepF
    rw [List.filter_append,List.filter_eq_self.2 (fun x hx => by rw [hlow x hx];rfl)]
    simp [hpi];omega
   (repeat' (first|with_reducible refine Qn|((with_reducible refine Qr ?_ ?_);focus (first|with_reducible rfl|(simp only [Zz,Nat.reduceBEq,h1];done)|rfl))|((with_reducible refine Qj (o':=?_) ?_ ?_ ?_);rotate_left 1;focus rfl)|((with_reducible refine Qw ?_ ?_);(focus (first|with_reducible rfl|(simp only [Zv,h1];done)));focus (first|exact id|exact (fun h => nomatch h)|exact (fun _ => rfl)))))
  ·rintro ⟨j,L⟩ ⟨hj,hL,hone,htk,hdr⟩
   have hj:j ≤ xs.length:=hj
   have hL:L.length = xs.length:=hL
   have htk:L.take (keepF p (xs.take j)).length = (keepF p (xs.take j)).map e:=htk
   have hdr:L.drop j = (xs.drop j).map e:=hdr
   have hw:=w64_succ (n:=j) (by omega)
   have hcl:(keepF p (xs.take j)).length ≤ j:=by
    have:=List.length_filter_le (fun x => !p x) (xs.take j)
    unfold keepF
    rw [List.length_take] at this
    omega
   have hwc:=w64_succ (n:=(keepF p (xs.take j)).length) (by omega)
   by_cases h:j < xs.length
   ·have hx:=hp xs[j]
    have hLj:L[j]? = some [d xs[j],d2 xs[j],.int (c0 xs[j])]:=by
     have:(L.drop j)[0]? = ((xs.drop j).map e)[0]?:=by rw [hdr]
     rw [List.getElem?_drop,List.getElem?_map,List.getElem?_drop] at this
     simpa [h,he] using this
    have i1:((j:Int) < (xs.length:Int)) = True:=eq_true (by omega)
    have i2:((0:Int) ≤ (j:Int)) = True:=eq_true (by omega)
    have hsucc:keepF p (xs.take (j + 1)) = if p xs[j] = true then keepF p (xs.take j) else keepF p (xs.take j) ++ [xs[j]]:=by
     rw [List.take_succ_eq_append_getElem h]
     unfold keepF
     rw [List.filter_append]
     by_cases hpx:p xs[j] = true <;> simp [hpx]
    by_cases hpx:p xs[j] = true
    ·rw [if_pos hpx] at hsucc
     repeat' (first|with_reducible (first|refine Q1 ?_|refine Q2 ?_|refine Q3 ?_|refine Q4 ?_|refine Q5 ?_|refine Q6 ?_|refine Q7 ?_|refine Q8 ?_|refine Q9 ?_|refine Qa ?_|refine Qb ?_|refine Qc ?_|refine Qd ?_|refine Qe ?_|refine Qf ?_)|((with_reducible refine Qo ?_ ?_);focus rfl)|((with_reducible first|refine QT 8 (l:=?_) ?_ ?_|refine QF 8 (l:=?_) ?_ ?_);rotate_left 1;focus (simp only [Zu,Nat.reduceSub,Nat.reduceBEq];with_reducible rfl))|((with_reducible first|refine QS (cfg_ok 42) (Tab.none.at' g hx) (s':=?_) ?_ ?_|refine QC (b:=?_) ?_ ?_);rotate_left 1;focus ((with_reducible refine QW ?_);simp only [Zg,seval,if_true,if_false,reduceCtorEq,Nat.reduceEqDiff,hL,i1,i2,hLj,hun,hun2,argV_un (hun _),cellD_un (hun _),argV_un (hun2 _),cellD_un (hun2 _),hpx,hw,eL,Int.toNat_natCast];with_reducible rfl)))
     refine roundK.on (j + 1,L) ⟨⟨h,hL,hone,?_,?_⟩,by show xs.length - (j + 1) < xs.length - j;omega⟩ ?_
     ·rw [hsucc];exact htk
     ·show L.drop (j + 1) = (xs.drop (j + 1)).map e
      rw [← List.drop_drop,hdr,← List.map_drop,List.drop_drop]
     ·(repeat' (first|with_reducible refine Qn|((with_reducible refine Qr ?_ ?_);focus (first|with_reducible rfl|(simp only [Zz,Nat.reduceBEq,hsucc];done)|rfl))|((with_reducible refine Qj (o':=?_) ?_ ?_ ?_);rotate_left 1;focus rfl)|((with_reducible refine Qw ?_ ?_);(focus (first|with_reducible rfl|(simp only [Zv,hsucc];done)));focus (first|exact id|exact (fun h => nomatch h)|exact (fun _ => rfl)))))
    ·have hpx':p xs[j] = false:=by simpa using hpx
     rw [if_neg hpx] at hsucc
     obtain ⟨c,hc⟩:∃ c,c = (keepF p (xs.take j)).length:=⟨_,rfl⟩
     have hcs:(keepF p (xs.take (j + 1))).length = c + 1:=by rw [hsucc,hc];simp
     rw [← hc] at hwc hcl htk
     have hcL:c < L.length:=by omega
     obtain ⟨y,y2,y3,hy⟩:∃ y y2 y3,L[c] = [y,y2,y3]:=by
      have:=hone L[c] (List.getElem_mem _)
      match L[c],this with
      | [y,y2,y3],_ => exact ⟨y,y2,y3,rfl⟩
     have hLc:L[c]? = some [y,y2,y3]:=by rw [List.getElem?_eq_getElem hcL,hy]
     have i3:((c:Int) < (xs.length:Int)) = True:=eq_true (by omega)
     have i4:((0:Int) ≤ (c:Int)) = True:=eq_true (by omega)
     rw [← hc]
     repeat' (first|with_reducible (first|refine Q1 ?_|refine Q2 ?_|refine Q3 ?_|refine Q4 ?_|refine Q5 ?_|refine Q6 ?_|refine Q7 ?_|refine Q8 ?_|refine Q9 ?_|refine Qa ?_|refine Qb ?_|refine Qc ?_|refine Qd ?_|refine Qe ?_|refine Qf ?_)|((with_reducible refine Qo ?_ ?_);focus rfl)|((with_reducible first|refine QT 8 (l:=?_) ?_ ?_|refine QF 8 (l:=?_) ?_ ?_);rotate_left 1;focus (simp only [Zu,Nat.reduceSub,Nat.reduceBEq];with_reducible rfl))|((with_reducible first|refine QS (cfg_ok 42) (Tab.none.at' g hx) (s':=?_) ?_ ?_|refine QC (b:=?_) ?_ ?_);rotate_left 1;focus ((with_reducible refine QW ?_);simp only [Zg,seval,if_true,if_false,reduceCtorEq,Nat.reduceEqDiff,hL,i1,i2,i3,i4,hLj,hLc,hun,hun2,argV_un (hun _),cellD_un (hun _),argV_un (hun2 _),cellD_un (hun2 _),hpx',hw,hwc,eL,Int.toNat_natCast];with_reducible rfl)))
     refine roundK.on (j + 1,L.set c [d xs[j],d2 xs[j],.int (c0 xs[j])]) ⟨⟨h,by simpa using hL,?_,?_,?_⟩,by show xs.length - (j + 1) < xs.length - j;omega⟩ ?_
     ·intro r hr
      rcases List.mem_or_eq_of_mem_set hr with hr|rfl
      ·exact hone r hr
      ·rfl
     ·show (L.set c [d xs[j],d2 xs[j],.int (c0 xs[j])]).take (keepF p (xs.take (j + 1))).length = (keepF p (xs.take (j + 1))).map e
      rw [hcs,hsucc,List.map_append,List.take_succ_eq_append_getElem (by simpa using hcL),List.take_set_of_le (Nat.le_refl _),htk]
      simp [he]
     ·show (L.set c [d xs[j],d2 xs[j],.int (c0 xs[j])]).drop (j + 1) = (xs.drop (j + 1)).map e
      rw [List.drop_set_of_lt (by omega),← List.drop_drop,hdr,← List.map_drop,List.drop_drop]
     ·(repeat' (first|with_reducible refine Qn|((with_reducible refine Qr ?_ ?_);focus (first|with_reducible rfl|(simp only [Zz,Nat.reduceBEq,hcs];done)|rfl))|((with_reducible refine Qj (o':=?_) ?_ ?_ ?_);rotate_left 1;focus rfl)|((with_reducible refine Qw ?_ ?_);(focus (first|with_reducible rfl|(simp only [Zv,hcs];done)));focus (first|exact id|exact (fun h => nomatch h)|exact (fun _ => rfl)))))
   ·have i1:((j:Int) < (xs.length:Int)) = False:=eq_false (by omega)
    have hall:xs.take j = xs:=List.take_of_length_le (by omega)
    rw [hall] at htk ⊢
    repeat' (first|with_reducible (first|refine Q1 ?_|refine Q2 ?_|refine Q3 ?_|refine Q4 ?_|refine Q5 ?_|refine Q6 ?_|refine Q7 ?_|refine Q8 ?_|refine Q9 ?_|refine Qa ?_|refine Qb ?_|refine Qc ?_|refine Qd ?_|refine Qe ?_|refine Qf ?_)|((with_reducible refine Qo ?_ ?_);focus rfl)|((with_reducible first|refine QT 8 (l:=?_) ?_ ?_|refine QF 8 (l:=?_) ?_ ?_);rotate_left 1;focus (simp only [Zu,Nat.reduceSub,Nat.reduceBEq];with_reducible rfl))|((with_reducible first|refine QS (cfg_ok 42) Tab.none (s':=?_) ?_ ?_|refine QC (b:=?_) ?_ ?_);rotate_left 1;focus ((with_reducible refine QW ?_);simp only [Zg,seval,if_true,if_false,reduceCtorEq,Nat.reduceEqDiff,hL,i1];with_reducible rfl)))
    refine roundK.out L ⟨hL,htk⟩ ?_
    (repeat' (first|with_reducible refine Qn|((with_reducible refine Qr ?_ ?_);focus (first|with_reducible rfl|(simp only [Zz,Nat.reduceBEq];done)|rfl))|((with_reducible refine Qj (o':=?_) ?_ ?_ ?_);rotate_left 1;focus rfl)|((with_reducible refine Qw ?_ ?_);(focus (first|with_reducible rfl|(simp only [Zv];done)));focus (first|exact id|exact (fun h => nomatch h)|exact (fun _ => rfl)))))
  ·rintro L ⟨hL,htk⟩
   have hcl:(keepF p xs).length ≤ xs.length:=List.length_filter_le _ _
   obtain ⟨c,hc⟩:∃ c,c = (keepF p xs).length:=⟨_,rfl⟩
   rw [← hc] at htk hcl ⊢
   have i1:((c:Int) ≤ (xs.length:Int)) = True:=eq_true (by omega)
   have i2:((0:Int) ≤ (c:Int)) = True:=eq_true (by omega)
   have i3:((xs.length:Int) ≤ (xs.length:Int)) = True:=eq_true (by omega)
   have htn:((xs.length:Int)).toNat = xs.length:=Int.toNat_natCast _
   repeat' (first|with_reducible (first|refine Q1 ?_|refine Q2 ?_|refine Q3 ?_|refine Q4 ?_|refine Q5 ?_|refine Q6 ?_|refine Q7 ?_|refine Q8 ?_|refine Q9 ?_|refine Qa ?_|refine Qb ?_|refine Qc ?_|refine Qd ?_|refine Qe ?_|refine Qf ?_)|((with_reducible refine Qo ?_ ?_);focus rfl)|((with_reducible first|refine QT 8 (l:=?_) ?_ ?_|refine QF 8 (l:=?_) ?_ ?_);rotate_left 1;focus (simp only [Zu,Nat.reduceSub,Nat.reduceBEq];with_reducible rfl))|((with_reducible first|refine QS (cfg_ok 42) Tab.none (s':=?_) ?_ ?_|refine QC (b:=?_) ?_ ?_);rotate_left 1;focus ((with_reducible refine QW ?_);simp only [Zg,seval,if_true,if_false,reduceCtorEq,Nat.reduceEqDiff];with_reducible rfl)))
   refine RunK.regCut (cfg_ok 42) Tab.none 3 (s1:=?_) ?_ ?_
   rotate_left 1
   focus (refine Work.mk ?_;simp only [Zg,seval,if_true,if_false,reduceCtorEq,Nat.reduceEqDiff,hL,i1,i2,i3,Int.toNat_natCast];with_reducible rfl)
   simp only [List.toList_toArray,List.drop_succ_cons,List.drop_zero]
   refine ROps.clear (cfg_ok 42) (x:=.tmp 38) (t:=26) (i:=⟨39,[.sl 1 [],.sl 1 [],.int 0],56⟩) (key:=0) (j:=c) (m:=xs.length - c) rfl rfl rfl rfl rfl rfl rfl (by rw [hL];omega) ?_
   refine ROps.nil ?_
   repeat' (first|with_reducible (first|refine Q1 ?_|refine Q2 ?_|refine Q3 ?_|refine Q4 ?_|refine Q5 ?_|refine Q6 ?_|refine Q7 ?_|refine Q8 ?_|refine Q9 ?_|refine Qa ?_|refine Qb ?_|refine Qc ?_|refine Qd ?_|refine Qe ?_|refine Qf ?_)|((with_reducible refine Qo ?_ ?_);focus rfl)|((with_reducible first|refine QT 8 (l:=?_) ?_ ?_|refine QF 8 (l:=?_) ?_ ?_);rotate_left 1;focus (simp only [Zu,Nat.reduceSub,Nat.reduceBEq];with_reducible rfl))|((with_reducible first|refine QS (cfg_ok 42) Tab.none (s':=?_) ?_ ?_|refine QC (b:=?_) ?_ ?_);rotate_left 1;focus ((with_reducible refine QW ?_);simp only [Zg,seval,if_true,if_false,reduceCtorEq,Nat.reduceEqDiff];with_reducible rfl)))
   refine RunK.regCut (cfg_ok 42) Tab.none 2 (s1:=?_) ?_ ?_
   rotate_left 1
   focus (refine Work.mk ?_;simp only [Zg,seval,if_true,if_false,reduceCtorEq,Nat.reduceEqDiff];with_reducible rfl)
   simp only [List.toList_toArray,List.drop_succ_cons,List.drop_zero]
   refine ROps.trunc (cfg_ok 42) (x:=.tmp 39) (hi:=.tmp 40) (t:=26) (i:=⟨39,[.sl 1 [],.sl 1 [],.int 0],56⟩) (d:=41) (key:=0) (m:=xs.length) (n:=c) rfl rfl rfl (by decide) rfl rfl rfl rfl (by simp [hL];omega) (fun q u hq hu => ?_) ?_
   ·simp only [look] at hu
    split at hu
    ·rename_i e;exact absurd e.symm hq
    ·cases hu
   ·have ht2:(L.take c ++ List.replicate (xs.length - c) [D.sl 1 [],D.sl 1 [],D.int 0]).take c = (keepF p xs).map e:=by
     rw [List.take_append_of_le_length (by rw [List.length_take];omega),List.take_take,Nat.min_self,htk]
    rw [ht2]
    refine ROps.opsT (cfg_ok 42) (T:=Tab.none) (s':=?_) ?_ ?_
    rotate_left 1
    focus (simp only [Zg,seval,if_true,if_false,reduceCtorEq,Nat.reduceEqDiff];with_reducible rfl)
    repeat' (first|with_reducible (first|refine Q1 ?_|refine Q2 ?_|refine Q3 ?_|refine Q4 ?_|refine Q5 ?_|refine Q6 ?_|refine Q7 ?_|refine Q8 ?_|refine Q9 ?_|refine Qa ?_|refine Qb ?_|refine Qc ?_|refine Qd ?_|refine Qe ?_|refine Qf ?_)|((with_reducible refine Qo ?_ ?_);focus rfl)|((with_reducible first|refine QT 8 (l:=?_) ?_ ?_|refine QF 8 (l:=?_) ?_ ?_);rotate_left 1;focus (simp only [Zu,Nat.reduceSub,Nat.reduceBEq];with_reducible rfl))|((with_reducible first|refine QS (cfg_ok 42) Tab.none (s':=?_) ?_ ?_|refine QC (b:=?_) ?_ ?_);rotate_left 1;focus ((with_reducible refine QW ?_);simp only [Zg,seval,if_true,if_false,reduceCtorEq,Nat.reduceEqDiff];with_reducible rfl)))
    (refine Ends.mk (by simp) (rs:=?_) (ks:=?_) hres hrts ?_ ?_ ?_;rotate_left 2;(focus (simp only [Ze,Zg,seval,if_true,if_false,reduceCtorEq,Nat.reduceEqDiff];with_reducible rfl));(focus simp);focus (first|with_reducible rfl|(simp only [Zv];done)))
end Go.Proofs.YtgngidchldajhaaGreat
namespace Go.Proofs.YtgngidchldajhaaGreat
open Go.RowKit
def coOf (t:List Int):List Cu × Int:=if lev8 t = true then (cutsL t,0) else ([],1)
def notOne (c:Cu):Bool:=decide (c.1.1.length ≠ 1) || decide (c.1.2.length = 0)
def cbOf (t:List Int):List Cu × Int:=if lev8 t = true then ((cutsL t).filter (fun c => !notOne c),0) else ([],1)
theorem cuts_good {t:List Int} (h:LevP t) (hl:t.length ≤ 8):(cutsL t).length ≤ 256∧∀ x ∈ cutsL t,(1 ≤ x.2∧x.2 ≤ 256)∧sumLen x.1.1 ≤ 8∧x.1.2.length ≤ 8:=by
 have h0:=(gathS_is (split t)).len
 rw [List.length_map] at h0
 have h1:=split_len _ (Nat.le_refl _) h
 have h2:2 ^ t.length ≤ 2 ^ 8:=Nat.pow_le_pow_right (by decide) hl
 refine ⟨by unfold cutsL;rw [List.length_map];omega,fun x hx => ?_⟩
 obtain ⟨z,hz,rfl⟩:=List.mem_map.1 hx
 obtain ⟨g1,g2,g3⟩:=gath_good (split_good _ (Nat.le_refl _) h) z hz
 have hone:=gath_trunk t h z hz
 have hsum:=g3.2
 refine ⟨⟨g1,by show z.2 ≤ 256;omega⟩,by show sumLen z.1.1 ≤ 8;omega,?_⟩
 obtain ⟨⟨f,g⟩,n⟩:=z
 match g,hone with
 | [],_ => exact Nat.zero_le _
 | [tr],_ =>
  have h5:sumLen [tr] = tr.length + 0:=rfl
  have hsum:sumLen f + sumLen [tr] = t.length:=hsum
  show tr.length ≤ 8;omega
theorem a_impl_CutsOf (t:List Int):AFn Tryz.prog 14 [eL t] (· = [.own 3 ((coOf t).1.map eK) true,.val (.int (coOf t).2)]):=by
 have hl:=a_impl_IsLevels t
 simp only [eL] at hl
 unfold coOf
 refine AFn.of_runs (cfg_ok 9) Tryz.func14 rfl rfl rfl (by simp only [List.length_cons,List.length_nil];decide) ?_
 have hres:Tryz.f14.results.toList = [.tmp 2,.tmp 3]:=rfl
 have hrts:Tryz.f14.resultTypes.toList = [26,2]:=rfl
 simp only [argRegs,argAV1,eL,eI,eLL,eB,Nat.zero_add,Nat.reduceAdd]
 intro M
 refine RunK.of ?_
 by_cases h8:lev8 t = true
 ·rw [h8] at hl
  have hc:AFn Tryz.prog 72 [eL t] (· = [.own 3 ((cutsL t).map eK) true]):=a_cutsOf t (lev8_lev h8) (lev8_len h8)
  simp only [eL] at hc
  rw [if_pos h8]
  repeat' (first|with_reducible (first|refine Q1 ?_|refine Q2 ?_|refine Q3 ?_|refine Q4 ?_|refine Q5 ?_|refine Q6 ?_|refine Q7 ?_|refine Q8 ?_|refine Q9 ?_|refine Qa ?_|refine Qb ?_|refine Qc ?_|refine Qd ?_|refine Qe ?_|refine Qf ?_)|((with_reducible refine Qo ?_ ?_);focus rfl)|((with_reducible first|refine QT 4 (l:=?_) ?_ ?_|refine QF 4 (l:=?_) ?_ ?_);rotate_left 1;focus (simp only [Zu,Nat.reduceSub,Nat.reduceBEq];with_reducible rfl))|((with_reducible first|refine QS (cfg_ok 9) ((Tab.none.at' 71 hl).at' 72 hc) (s':=?_) ?_ ?_|refine QC (b:=?_) ?_ ?_);rotate_left 1;focus ((with_reducible refine QW ?_);simp only [Zg,seval,if_true,if_false,reduceCtorEq,Nat.reduceEqDiff];with_reducible rfl)))
  (refine Ends.mk (by simp) (rs:=?_) (ks:=?_) hres hrts ?_ ?_ ?_;rotate_left 2;(focus (simp only [Ze,Zg,seval,if_true,if_false,reduceCtorEq,Nat.reduceEqDiff];with_reducible rfl));(focus simp);focus (first|with_reducible rfl|(simp only [Zv];done)))
 ·have h8':lev8 t = false:=by simpa using h8
  rw [h8'] at hl
  rw [if_neg h8]
  repeat' (first|with_reducible (first|refine Q1 ?_|refine Q2 ?_|refine Q3 ?_|refine Q4 ?_|refine Q5 ?_|refine Q6 ?_|refine Q7 ?_|refine Q8 ?_|refine Q9 ?_|refine Qa ?_|refine Qb ?_|refine Qc ?_|refine Qd ?_|refine Qe ?_|refine Qf ?_)|((with_reducible refine Qo ?_ ?_);focus rfl)|((with_reducible first|refine QT 4 (l:=?_) ?_ ?_|refine QF 4 (l:=?_) ?_ ?_);rotate_left 1;focus (simp only [Zu,Nat.reduceSub,Nat.reduceBEq];with_reducible rfl))|((with_reducible first|refine QS (cfg_ok 9) (Tab.none.at' 71 hl) (s':=?_) ?_ ?_|refine QC (b:=?_) ?_ ?_);rotate_left 1;focus ((with_reducible refine QW ?_);simp only [Zg,seval,if_true,if_false,reduceCtorEq,Nat.reduceEqDiff];with_reducible rfl)))
  (refine Ends.mk (by simp) (rs:=?_) (ks:=?_) hres hrts ?_ ?_ ?_;rotate_left 2;(focus (simp only [Ze,Zg,seval,if_true,if_false,reduceCtorEq,Nat.reduceEqDiff];with_reducible rfl));(focus simp);focus (first|with_reducible rfl|(simp only [Zv];done)))
theorem a_spec_CutsOf (t:List Int) (hsz:t.length ≤ 1048576):∃ b,AFn Tryz.prog 15 [eL t] (· = [.own 3 ((coOf t).1.map eK) b,.val (.int (coOf t).2)]):=by
 have hl:=a_spec_l03Is t hsz
 simp only [eL] at hl
 unfold coOf
 by_cases h8:lev8 t = true
 ·rw [h8] at hl
  have hlev:=lev8_lev h8
  have hca:=AFn.valT (a_l03Canon t hlev (lev8_len h8))
  have hc:AFn Tryz.prog 74 [eL (canon t)] (· = [.own 3 ((cutsL (canon t)).map eK) false]):=a_l05Cuts (canon t) (canon_lev hlev) (canon_idem hlev) (by rw [canon_len hlev];exact lev8_len h8)
  have hcc:cutsL (canon t) = cutsL t:=by unfold cutsL;rw [gath_canon hlev]
  rw [hcc] at hc
  simp only [eL] at hc hca
  rw [if_pos h8]
  refine ⟨false,?_⟩
  refine AFn.of_runs (cfg_ok 10) Tryz.func15 rfl rfl rfl (by simp only [List.length_cons,List.length_nil];decide) ?_
  have hres:Tryz.f15.results.toList = [.tmp 2,.tmp 3]:=rfl
  have hrts:Tryz.f15.resultTypes.toList = [26,2]:=rfl
  simp only [argRegs,argAV1,eL,eI,eLL,eB,Nat.zero_add,Nat.reduceAdd]
  intro M
  refine RunK.of ?_
  repeat' (first|with_reducible (first|refine Q1 ?_|refine Q2 ?_|refine Q3 ?_|refine Q4 ?_|refine Q5 ?_|refine Q6 ?_|refine Q7 ?_|refine Q8 ?_|refine Q9 ?_|refine Qa ?_|refine Qb ?_|refine Qc ?_|refine Qd ?_|refine Qe ?_|refine Qf ?_)|((with_reducible refine Qo ?_ ?_);focus rfl)|((with_reducible first|refine QT 4 (l:=?_) ?_ ?_|refine QF 4 (l:=?_) ?_ ?_);rotate_left 1;focus (simp only [Zu,Nat.reduceSub,Nat.reduceBEq];with_reducible rfl))|((with_reducible first|refine QS (cfg_ok 10) (((Tab.none.at' 73 hl).at' 75 hca).at' 74 hc) (s':=?_) ?_ ?_|refine QC (b:=?_) ?_ ?_);rotate_left 1;focus ((with_reducible refine QW ?_);simp only [Zg,seval,if_true,if_false,reduceCtorEq,Nat.reduceEqDiff];with_reducible rfl)))
  (refine Ends.mk (by simp) (rs:=?_) (ks:=?_) hres hrts ?_ ?_ ?_;rotate_left 2;(focus (simp only [Ze,Zg,seval,if_true,if_false,reduceCtorEq,Nat.reduceEqDiff];with_reducible rfl));(focus simp);focus (first|with_reducible rfl|(simp only [Zv];done)))
 ·have h8':lev8 t = false:=by simpa using h8
  rw [h8'] at hl
  rw [if_neg h8]
  refine ⟨true,?_⟩
  refine AFn.of_runs (cfg_ok 10) Tryz.func15 rfl rfl rfl (by simp only [List.length_cons,List.length_nil];decide) ?_
  have hres:Tryz.f15.results.toList = [.tmp 2,.tmp 3]:=rfl
  have hrts:Tryz.f15.resultTypes.toList = [26,2]:=rfl
  simp only [argRegs,argAV1,eL,eI,eLL,eB,Nat.zero_add,Nat.reduceAdd]
  intro M
  refine RunK.of ?_
  repeat' (first|with_reducible (first|refine Q1 ?_|refine Q2 ?_|refine Q3 ?_|refine Q4 ?_|refine Q5 ?_|refine Q6 ?_|refine Q7 ?_|refine Q8 ?_|refine Q9 ?_|refine Qa ?_|refine Qb ?_|refine Qc ?_|refine Qd ?_|refine Qe ?_|refine Qf ?_)|((with_reducible refine Qo ?_ ?_);focus rfl)|((with_reducible first|refine QT 4 (l:=?_) ?_ ?_|refine QF 4 (l:=?_) ?_ ?_);rotate_left 1;focus (simp only [Zu,Nat.reduceSub,Nat.reduceBEq];with_reducible rfl))|((with_reducible first|refine QS (cfg_ok 10) (Tab.none.at' 73 hl) (s':=?_) ?_ ?_|refine QC (b:=?_) ?_ ?_);rotate_left 1;focus ((with_reducible refine QW ?_);simp only [Zg,seval,if_true,if_false,reduceCtorEq,Nat.reduceEqDiff];with_reducible rfl)))
  (refine Ends.mk (by simp) (rs:=?_) (ks:=?_) hres hrts ?_ ?_ ?_;rotate_left 2;(focus (simp only [Ze,Zg,seval,if_true,if_false,reduceCtorEq,Nat.reduceEqDiff];with_reducible rfl));(focus simp);focus (first|with_reducible rfl|(simp only [Zv];done)))
end Go.Proofs.YtgngidchldajhaaGreat
namespace Go.Proofs.YtgngidchldajhaaGreat
open Go.RowKit
def endOf (t:List Int) (n:Nat):Nat:=n + 1 + ((t.drop (n + 1)).takeWhile (fun l => decide (t.getD n 0 < l))).length
theorem endOf_eq {t:List Int} {n k:Nat} (hnk:n + 1 ≤ k) (hk:k ≤ t.length) (h:∀ j,n < j→j < k→t.getD n 0 < t.getD j 0) (he:k = t.length ∨ ¬ t.getD n 0 < t.getD k 0):endOf t n = k:=by
 unfold endOf
 have e:t.drop (n + 1) = (t.drop (n + 1)).take (k - (n + 1)) ++ t.drop k:=by
  have:=List.take_append_drop (k - (n + 1)) (t.drop (n + 1))
  rw [List.drop_drop,show n + 1 + (k - (n + 1)) = k by omega] at this
  exact this.symm
 rw [e,List.takeWhile_append_of_pos]
 ·have h2:(t.drop k).takeWhile (fun l => decide (t.getD n 0 < l)) = []:=by
   rcases he with he|he
   ·rw [he,List.drop_length];rfl
   ·by_cases hl:k < t.length
    ·rw [List.drop_eq_getElem_cons hl,List.takeWhile_cons]
     have:¬ t.getD n 0 < t[k]:=by simpa [hl] using he
     rw [if_neg (by simpa using this)]
    ·rw [List.drop_of_length_le (by omega)];rfl
  rw [h2,List.append_nil,List.length_take,List.length_drop]
  omega
 ·intro a ha
  obtain ⟨i,hi,rfl⟩:=List.mem_iff_getElem.1 ha
  rw [List.length_take,List.length_drop] at hi
  rw [List.getElem_take,List.getElem_drop]
  have:=h (n + 1 + i) (by omega) (by omega)
  simpa [show n + 1 + i < t.length by omega] using this
def cutB (t:List Int) (n:Nat):List Int:=((t.take (endOf t n)).drop n).map (· - t.getD n 0)
def cutT (t:List Int) (n:Nat):List Int:=t.take n ++ t.drop (endOf t n)
def levGo:Int→List Int→Bool
 | _,[] => true
 | p,x :: xs => decide (1 ≤ x) && (decide (x ≤ p + 1) && levGo x xs)
def levQ:List Int→Bool
 | [] => false
 | x :: xs => decide (x = 0) && (levGo 0 xs && Nat.ble xs.length 7)
theorem levGo_ok:∀ (xs:List Int) (p:Int),levGo p xs = true→levOk p xs
 | [],_,_ => trivial
 | x :: xs,p,h => by
  simp only [levGo,Bool.and_eq_true,decide_eq_true_eq] at h
  exact ⟨h.1,h.2.1,levGo_ok xs x h.2.2⟩
theorem levQ_lev8 {t:List Int} (h:levQ t = true):lev8 t = true:=by
 cases t with
 | nil => cases h
 | cons x xs =>
  simp only [levQ,Bool.and_eq_true,decide_eq_true_eq] at h
  obtain ⟨rfl,h1,h2⟩:=h
  refine lev8_mk ((LevP_iff _).2 ⟨xs,rfl,levGo_ok xs 0 h1⟩) ?_
  have:=Nat.le_of_ble_eq_true h2
  simp only [List.length_cons]
  omega
theorem cuts_lev_check:lists8.all (fun t => (List.range t.length).all fun n => n == 0 || (levQ (cutT t n) && levQ (cutB t n))) = true:=by decide +kernel
theorem cuts_lev {t:List Int} (h:lev8 t = true) {n:Nat} (h0:0 < n) (hn:n < t.length):lev8 (cutT t n) = true∧lev8 (cutB t n) = true:=by
 have:=lev8_all cuts_lev_check h
 have:=List.all_eq_true.1 this n (List.mem_range.2 hn)
 have e:(n == 0) = false:=by simp;omega
 rw [e,Bool.false_or,Bool.and_eq_true] at this
 exact ⟨levQ_lev8 this.1,levQ_lev8 this.2⟩
end Go.Proofs.YtgngidchldajhaaGreat
namespace Go.Proofs.YtgngidchldajhaaGreat
open Go.RowKit
end Go.Proofs.YtgngidchldajhaaGreat
namespace Go.Proofs.YtgngidchldajhaaGreat
open Go.RowKit
end Go.Proofs.YtgngidchldajhaaGreat
namespace Go.Proofs.YtgngidchldajhaaGreat
def stepC {α:Type} (f:α→List Int) (out:List (α × Int)) (x:α):List (α × Int) :=
 match out.getLast? with
 | some z => if f z.1 = f x then out.dropLast ++ [(z.1,z.2 + 1)] else out ++ [(x,1)]
 | none => [(x,1)]
def runsF {α:Type} (f:α→List Int) (xs:List α):List (α × Int):=xs.foldl (stepC f) []
theorem runsF_snoc {α:Type} (f:α→List Int) (xs:List α) (x:α):runsF f (xs ++ [x]) = stepC f (runsF f xs) x:=by unfold runsF;rw [List.foldl_append];rfl
theorem stepC_nil {α:Type} (f:α→List Int) (x:α):stepC f [] x = [(x,1)]:=rfl
theorem stepC_eq {α:Type} (f:α→List Int) (out:List (α × Int)) (z:α × Int) (x:α) (h:f z.1 = f x):stepC f (out ++ [z]) x = out ++ [(z.1,z.2 + 1)]:=by
 unfold stepC;simp [h]
theorem stepC_ne {α:Type} (f:α→List Int) (out:List (α × Int)) (z:α × Int) (x:α) (h:¬ f z.1 = f x):stepC f (out ++ [z]) x = out ++ [z] ++ [(x,1)]:=by
 unfold stepC;simp [h]
theorem snoc_of {α:Type} {l:List α} (h:l ≠ []):∃ p z,l = p ++ [z]:=⟨l.dropLast,l.getLast h,(List.dropLast_concat_getLast h).symm⟩
theorem runsF_sub {α:Type} (f:α→List Int):∀ (n:Nat) (xs:List α),xs.length = n→((runsF f xs).map (·.1)).Sublist xs∧∀ z ∈ runsF f xs,1 ≤ z.2∧z.2 ≤ (n:Int)
 | 0,xs,h => by
  rw [List.eq_nil_of_length_eq_zero h]
  exact ⟨List.Sublist.slnil,fun z hz => by cases hz⟩
 | n + 1,xs,h => by
  obtain ⟨ys,x,rfl⟩:=snoc_of (l:=xs) (by intro e;rw [e] at h;simp at h)
  have hl:ys.length = n:=by simpa using h
  obtain ⟨h1,h2⟩:=runsF_sub f n ys hl
  rw [runsF_snoc]
  by_cases h0:runsF f ys = []
  ·rw [h0,stepC_nil]
   exact ⟨by simp,fun z hz => by simp at hz;subst hz;simp;omega⟩
  ·obtain ⟨out,z,e⟩:=snoc_of h0
   rw [e] at h1 h2 ⊢
   by_cases he:f z.1 = f x
   ·rw [stepC_eq f out z x he]
    refine ⟨?_,fun q hq => ?_⟩
    ·simp only [List.map_append,List.map_cons,List.map_nil] at h1 ⊢
     exact h1.trans (List.sublist_append_left _ _)
    ·rcases List.mem_append.1 hq with hq|hq
     ·have:=h2 q (by simp [hq]);omega
     ·have:=h2 z (by simp)
      simp at hq;subst hq
      simp only;omega
   ·rw [stepC_ne f out z x he]
    refine ⟨?_,fun q hq => ?_⟩
    ·rw [List.map_append]
     exact List.Sublist.append h1 (List.Sublist.refl _)
    ·rcases List.mem_append.1 hq with hq|hq
     ·have:=h2 q hq;omega
     ·simp at hq;subst hq;simp only;omega
theorem runsF_map {α:Type} (f:α→List Int):∀ (n:Nat) (xs:List α),xs.length = n→(runsF f xs).map (fun z => (f z.1,z.2)) = runsF id (xs.map f)
 | 0,xs,h => by rw [List.eq_nil_of_length_eq_zero h];rfl
 | n + 1,xs,h => by
  obtain ⟨ys,x,rfl⟩:=snoc_of (l:=xs) (by intro e;rw [e] at h;simp at h)
  have hl:ys.length = n:=by simpa using h
  have ih:=runsF_map f n ys hl
  rw [List.map_append,List.map_cons,List.map_nil,runsF_snoc,runsF_snoc,← ih]
  by_cases h0:runsF f ys = []
  ·rw [h0];rfl
  ·obtain ⟨out,z,e⟩:=snoc_of h0
   rw [e,List.map_append,List.map_cons,List.map_nil]
   by_cases he:f z.1 = f x
   ·rw [stepC_eq f out z x he,stepC_eq id _ (f z.1,z.2) (f x) he];simp
   ·rw [stepC_ne f out z x he,stepC_ne id _ (f z.1,z.2) (f x) he];simp
def cntOf (ts:List (List Int)):List (List Int × Int):=runsF id (sortC cmpT ts)
end Go.Proofs.YtgngidchldajhaaGreat
namespace Go.Proofs.YtgngidchldajhaaGreat
open Go.RowKit
section
variable {P:Program} {w:World}
theorem ext_core (t ty e:TypeId) (T:ST P t e (.int .i64 0) 1 8) (v:Value) (xs:List Int) (lo M:Nat) (hv:Own (RS RI) lo M w [v] xs) (vx:Value) (ys:List Int) (hy:Rd (RS RI) w [vx] ys)
  (hM:M ≤ w.heap.size) (hlo:lo ≤ M) (hlen:xs.length + ys.length ≤ 1000000000) :
  ∃ v' w',(Builtin.append_ #[t,t] ty #[v,vx]).run P w = .ok v' w'∧Own (RS RI) lo w'.heap.size w' [v'] (xs ++ ys)∧Below lo w w':=by
 obtain ⟨og,ds,F,hrow,hel,hF,hlt⟩:=hv.open
 obtain ⟨rfl,rfl,hb⟩:=ownL_ints hel
 obtain ⟨oa,cap,I⟩:=hy.ints
 obtain rfl:=I.val
 have hm:=I.capLe
 obtain ⟨v',w',og',hr,happ⟩:=run_append_row (P:=P) (w:=w) t ty e (.int .i64 0) 1 8 T v xs.length _ og hrow oa ys.length cap (ys.map (Value.int .i64)) (by simp) (fun h => by have:=I.noneCap h;have:=I.le;omega) (Row.cells_ints I)
  (by intro u hu;obtain ⟨x,_,rfl⟩:=List.mem_map.1 hu;rfl) (by omega) (by unfold maxLen;omega)
 have hlow:=happ.low (B:=lo) (by omega) (fun g hg => (hlt g (by simp [hg])).1)
 refine ⟨v',w',hr,Row.OwnI (og:=og') ?_ ?_ hlow.1,hlow.2⟩
 ·have:=happ.1
  rw [← List.map_append,← List.length_append] at this
  exact this
 ·intro x hx
  rcases List.mem_append.1 hx with hx|hx
  ·exact hb x hx
  ·exact I.bd x hx
theorem wpList_extI {ops:Array Oper} {rest:List Oper} {o:Oper} {a:Act} {Q:Exit→Act→World→Prop} (hgd:o.guard = none) (s x:Operand) (t:TypeId)
  (ho:o.op = .call { callee:=.builtin .append,args:=#[s,x],argTypes:=#[t,t] }) (e:TypeId) (T:ST P t e (.int .i64 0) 1 8)
  (v:Value) (xs:List Int) (lo M:Nat) (hs:a.eval s = v) (hv:Own (RS RI) lo M w [v] xs) (vx:Value) (ys:List Int) (hx:a.eval x = vx) (hy:Rd (RS RI) w [vx] ys)
  (hM:M ≤ w.heap.size) (hlo:lo ≤ M) (hlen:xs.length + ys.length ≤ 1000000000)
  (h:∀ oa cap w',Own (RS RI) lo w'.heap.size w' [.slice oa (xs ++ ys).length cap] (xs ++ ys)→(xs ++ ys).length ≤ cap→cap ≤ 9223372036854775807→Below lo w w'→wpList P ops Q rest (a.put o.dst (.slice oa (xs ++ ys).length cap)) w') :
  wpList P ops Q (o :: rest) a w :=
 wpList_plain hgd fun _ hK => by
  obtain ⟨v',w',hr,hown,hb⟩:=ext_core (P:=P) t o.type e T v xs lo M hv vx ys hy hM hlo hlen
  obtain ⟨oa,cap,rfl,h1,h2⟩:=hown.val
  unfold Oper.wp execOp
  simp only [ho,resolve,invoke,builtin,Sem.run_bind,Sem.run_pure,Result.andThen_ok,List.map_toArray,List.map_cons,List.map_nil,hs,hx,hr]
  exact hK _ _ (h oa cap w' hown h1 h2 hb)
end
theorem Rd.part {w:World} {oa:Option Addr} {cap:Nat} {xs:List Int} (h:Rd (RS RI) w [.slice oa xs.length cap] xs) (i j:Nat) (hij:i ≤ j) (hj:j ≤ xs.length) (c':Nat) (hc:j - i ≤ c') (hcm:c' ≤ maxLen) (hn:oa = none→c' = 0) :
  Rd (RS RI) w [.slice (oa.map fun a => a.add i) (j - i) c'] ((xs.take j).drop i):=by
 obtain ⟨oa',cap',I⟩:=h.ints
 have hv:=I.val
 simp only [Value.slice.injEq,true_and] at hv
 obtain ⟨rfl,rfl⟩:=hv
 have hl:((xs.take j).drop i).length = j - i:=by simp;omega
 refine ⟨oa.map fun a => a.add i,c',((xs.take j).drop i).map (Value.int .i64),by rw [hl],by rw [hl];exact hc,hcm,?_,rdL_ints_mk (fun x hx => I.bd x (List.mem_of_mem_take (List.mem_of_mem_drop hx))),?_⟩
 ·intro h0
  cases oa with
  | none => exact hn rfl
  | some a => simp at h0
 ·rcases I.row with h0|⟨b,off,rfl,hb,hc⟩
  ·left;subst h0;simp
  ·refine .inr ⟨b,off + i,by simp [Addr.add],hb,fun q u hq => ?_⟩
   rw [List.getElem?_map,Option.map_eq_some_iff] at hq
   obtain ⟨y,hy,rfl⟩:=hq
   have hql:=(List.getElem?_eq_some_iff.1 hy).1
   rw [hl] at hql
   have e:y = xs[i + q]'(by omega):=by
    have:=(List.getElem?_eq_some_iff.1 hy).2
    rw [← this];simp
   rw [e,Nat.add_assoc]
   exact hc (i + q) (by omega)
set_option maxRecDepth 100000 in
set_option maxHeartbeats 400000 in
theorem c_slicesGrow (n:Nat) (w:World) (hn:n ≤ 1000000000):Calls Tryz.prog 218 #[.slice none 0 0,.int .i64 n] w (RetO (RS RI) w []):=by
 by_cases h0:n = 0
 ·subst h0
  go_enter Tryz.func218,Tryz.ntmps218
  go_wp2_with fail
  go_ret
  exact ⟨_,rfl,Own.nil _ _,Below.refl _ _⟩
 ·obtain ⟨ht,⟨i,hi,hz,hsz,hby⟩,_,_⟩:=tI64
  have hr:=Lib.run_append_nil_zeros (P:=Tryz.prog) w 24 3 24 2 i (.int .i64 0) .i64 .i64 ht Tryz.underlying3 hi hz n (by omega) (by omega) (by omega) (by rw [hby];omega)
  have hge:=grownCap_ge w n 0 2
  have hcm:grownCap w n 0 2 ≤ maxLen:=grownCap_le_maxLen w n 0 2 (by unfold maxLen;omega)
  obtain ⟨cp,hcp⟩:∃ cp,cp = grownCap w n 0 2:=⟨_,rfl⟩
  rw [← hcp] at hr hge hcm
  obtain ⟨cur,hcur⟩:∃ cur,cur = Builtin.zeroCells (Value.int .i64 0).cells n ++ Builtin.zeroCells (Value.int .i64 0).cells (cp - n):=⟨_,rfl⟩
  have hcs:cur.size = cp * 1:=by
   rw [hcur,Array.size_append,size_zeroCells,size_zeroCells]
   show n * 1 + (cp - n) * 1 = cp * 1
   omega
  rw [← hcur] at hr
  have hrow:Row (w.drew.alloc (.cells cur 2)) (.slice (some ⟨w.heap.size,0,none⟩) 0 cp) 1 0 [] (some w.heap.size) :=
   ⟨rfl,.inr ⟨w.heap.size,cp,cur,2,rfl,rfl,Go.heap_alloc_new w.drew _,Nat.zero_le _,hcm,hcs,by simp⟩⟩
  have hown:Own (RS RI) w.heap.size (w.drew.alloc (.cells cur 2)).heap.size (w.drew.alloc (.cells cur 2)) [.slice (some ⟨w.heap.size,0,none⟩) 0 cp] [] :=
   Row.OwnI (og:=some w.heap.size) hrow (by simp) (fun g hg => by cases hg;exact Nat.le_refl _)
  have hbel:Below w.heap.size w (w.drew.alloc (.cells cur 2)):=⟨rfl,rfl,rfl,by simp,fun k hk => Below.heap_alloc w.drew _ k hk⟩
  have HR:=Lib.hid hr
  have HO:=Lib.hid hown
  have hp:(0:Int) < (n:Int):=by omega
  have hp2:¬ ((n:Int) < 0):=by omega
  unfold maxLen at hcm
  clear hr hown hrow hcp hcur hi hz hsz hby ht hcs
  go_enter Tryz.func218,Tryz.ntmps218
  go_wp2_with (at_builtin;refine StopAt (o:=⟨some 22,_,_,_,_,_⟩) ?_)
  refine Stop.go ?_
  refine Lib.wpList_append_run w rfl _ _ _ _ rfl _ _ rfl rfl _ _ HR.out ?_
  go_wp2_with fail
  go_ret
  exact ⟨_,rfl,HO.out,hbel⟩
theorem flatten_take_succ (bs:List (List Int)) (k:Nat) (h:k < bs.length):(bs.take (k + 1)).flatten = (bs.take k).flatten ++ bs[k]:=by
 rw [List.take_succ_eq_append_getElem h,List.flatten_append];simp
theorem flatten_len (bs:List (List Int)):bs.flatten.length = sumLen bs:=by simp [sumLen,List.length_flatten]
set_option maxRecDepth 100000 in
set_option maxHeartbeats 1000000 in
theorem c_slicesConcat (v:Value) (bs:List (List Int)) (w:World) (h:Rd (RS (RS RI)) w [v] bs) (hsz:sumLen bs ≤ 1000000000) :
  Calls Tryz.prog 161 #[v] w (RetO (RS RI) w bs.flatten):=by
 obtain ⟨oa,cap,L⟩:=h.lists
 obtain rfl:=L.val
 have m1:=L.le;have m2:=L.capLe
 have HL:=Lib.hid L
 clear L h
 go_enter Tryz.func161,Tryz.ntmps161
 go_wp2_with fail
 go_loop [3,11] (fun s i => ∃ (k:Nat),k ≤ bs.length∧i = .int .i64 k∧s = .int .i64 (sumLen (bs.take k):Nat)) (fun _ i => bs.length - (intOf i).toNat)
 case atStart => exact ⟨0,Nat.zero_le _,rfl,rfl⟩
 case round =>
  obtain ⟨k,hk,rfl,rfl⟩:=hrel
  by_cases hlt:k < bs.length
  ·obtain ⟨b,off,rfl,hb,hc⟩:=HL.out.get hlt
   obtain ⟨oi,ci,g1,hrd,q1,q2⟩:=hc k hlt
   have hst:=sumLen_take_succ bs k hlt
   have hle:=sumLen_take bs (k + 1)
   obtain ⟨n,hn⟩:∃ n,n = sumLen (bs.take k):=⟨_,rfl⟩
   obtain ⟨xl,hxl⟩:∃ xl,xl = bs[k].length:=⟨_,rfl⟩
   rw [← hn,← hxl] at hst
   rw [← hxl] at g1 q1
   rw [← hn]
   have i3:¬ ((n:Int) + (xl:Int) < 0):=by omega
   have HST:=Lib.hid hst
   have HNB:Hid (n + xl ≤ 1000000000):=Lib.hid (by omega)
   have hw:IntKind.i64.wrap ((n:Int) + (xl:Int)) = (n:Int) + xl:=IntWalk.i64_in _ (by omega)
   clear hc hrd hn hxl hst hle
   go_wp2_with fail
   go_round
   case rel => exact ⟨k + 1,by omega,by go_num,by rw [HST.out];congr 1⟩
   case measure => simp [intOf];omega
  ·have hf:bs.take k = bs:=List.take_of_length_le (by omega)
   rw [hf]
   have hgr:=c_slicesGrow (sumLen bs) w hsz
   clear hf
   go_wp2_with (go_at_call 218;refine hgr.mono ?_;rintro e w1 ⟨u,rfl,o1,b1⟩)
   go_loopw [6,27] (fun o i wr => ∃ (k:Nat) (z:List Int),k ≤ bs.length∧i = .int .i64 k∧Hid (z = (bs.take k).flatten)∧(∃ oa cap,o = .slice oa z.length cap)∧Hid (Own (RS RI) w.heap.size wr.heap.size wr [o] z)∧Below w.heap.size w wr) (fun _ i _ => bs.length - (intOf i).toNat)
   case atStart =>
    obtain ⟨ou,cu,rfl,_⟩:=o1.val
    exact ⟨0,[],Nat.zero_le _,rfl,Lib.hid rfl,⟨_,_,rfl⟩,Lib.hid o1,b1⟩
   case round =>
    clear hgr o1
    obtain ⟨k,z,hk,rfl,hz,⟨o1,cap1,rfl⟩,hown,hbel⟩:=hrel
    have hsz1:=hbel.size
    by_cases hlt:k < bs.length
    ·obtain ⟨b,off,rfl,hb,hc⟩:=HL.out.get hlt
     obtain ⟨oi,ci,g1,hrd,q1,q2⟩:=hc k hlt
     have g2:wr.cell? ⟨b,off + k,none⟩ = some (.slice oi bs[k].length ci):=(hbel.cell (p:=⟨b,off + k,none⟩) hb).trans g1
     have hrd2:=hrd.below hbel (Nat.le_refl _)
     have hnx:=flatten_take_succ bs k hlt
     rw [← hz.out] at hnx
     have hle:z.length + bs[k].length ≤ 1000000000:=by
      have:=sumLen_take bs (k + 1)
      have:=congrArg List.length hnx
      rw [flatten_len,List.length_append] at this
      omega
     obtain ⟨x,hx⟩:∃ x,x = bs[k]:=⟨_,rfl⟩
     rw [← hx] at g2 hrd2 q1 hnx hle
     have HN:=Lib.hid hnx
     clear hc g1 hrd hx hnx
     go_wp2_with (at_builtin;refine StopAt (o:=⟨some 33,_,_,_,_,_⟩) ?_)
     refine Stop.go ?_
     refine wpList_extI rfl _ _ 24 rfl 2 tI64 (.slice o1 z.length cap1) z w.heap.size wr.heap.size rfl hown.out (.slice oi x.length ci) x rfl hrd2 (Nat.le_refl _) hsz1 hle ?_
     intro oa1 cap1' w1 hown1 c1a c1b hbel1
     have hb3:=hbel.trans hbel1
     obtain ⟨z',hz'⟩:∃ z',z' = z ++ x:=⟨_,rfl⟩
     have HZ:Hid (z' = (bs.take (k + 1)).flatten):=Lib.hid (by rw [hz',HN.out])
     rw [← hz'] at hown1 c1a
     have HO:Hid (Own (RS RI) w.heap.size w1.heap.size w1 [.slice oa1 z'.length cap1'] z'):=hown1
     rw [← hz']
     clear hown1 hbel1 hown hz' hrd2
     go_wp2_with fail
     go_roundw
     case rel => exact ⟨k + 1,z',by omega,by go_num,HZ,⟨_,_,rfl⟩,HO,hb3⟩
     case measure => simp [intOf];omega
    ·have hfin:Hid (z = bs.flatten):=Lib.hid (by rw [hz.out,List.take_of_length_le (by omega)])
     go_wp2_with fail
     go_ret
     exact ⟨_,rfl,hfin.out ▸ hown.out,hbel⟩
end Go.Proofs.YtgngidchldajhaaGreat
namespace Go.Proofs.YtgngidchldajhaaGreat
open Go.RowKit
set_option maxRecDepth 100000 in
set_option maxHeartbeats 400000 in
theorem c_impl_areLevels1 (v:Value) (t:List Int) (w:World) (h:Rd (RS RI) w [v] t):Calls Tryz.prog 160 #[v] w (RetS w (.bool (!lev8 t))):=by
 have hc:=c_impl_IsLevels v t w h
 go_enter Tryz.func160,Tryz.ntmps160
 go_wp2_with (go_at_call 71;refine hc.mono ?_;rintro e w' ⟨rfl,rfl⟩)
 go_ret
 exact ⟨rfl,rfl⟩
set_option maxRecDepth 100000 in
set_option maxHeartbeats 1000000 in
theorem c_IndexFunc_notLev (v:Value) (xs:List (List Int)) (w:World) (h:Rd (RS (RS RI)) w [v] xs) :
  Calls Tryz.prog 217 #[v,.func (.func 160) #[] #[]] w fun e w' => (∃ n,e = .returned (.int .i64 n)∧decide (0 ≤ n) = !(xs.all lev8))∧w = w':=by
 obtain ⟨oa,cap,L⟩:=h.lists
 obtain rfl:=L.val
 have m1:=L.le;have m2:=L.capLe
 have HL:=Lib.hid L
 clear L h
 go_enter Tryz.func217,Tryz.ntmps217
 go_wp2_with fail
 go_loop [8] (fun i => ∃ k:Nat,k ≤ xs.length∧i = .int .i64 k∧(xs.take k).all lev8 = true) (fun i => xs.length - (intOf i).toNat)
 case atStart => exact ⟨0,Nat.zero_le _,rfl,by simp⟩
 case round =>
  obtain ⟨k,hk,rfl,hall⟩:=hrel
  have Hall:=Lib.hid hall
  clear hall
  by_cases hlt:k < xs.length
  ·obtain ⟨b,off,rfl,hb,hc⟩:=HL.out.get hlt
   obtain ⟨oi,ci,g1,hrd,q1,q2⟩:=hc k hlt
   obtain ⟨pb,hpb⟩:∃ pb,pb = lev8 xs[k]:=⟨_,rfl⟩
   have hcc:=c_impl_areLevels1 _ _ w hrd
   rw [← hpb] at hcc
   have hlt':=Lib.hid hlt
   cases pb
   ·have HP:=Lib.hid hpb.symm
    clear hc hrd hpb
    go_wp2_with (go_at_call 160;refine hcc.mono ?_;rintro e w' ⟨rfl,rfl⟩)
    go_ret
    exact ⟨⟨k,rfl,by rw [all_false_at _ _ k hlt'.out HP.out];simp⟩,rfl⟩
   ·have HP:=Lib.hid hpb.symm
    clear hc hrd hpb
    go_wp2_with (go_at_call 160;refine hcc.mono ?_;rintro e w' ⟨rfl,rfl⟩)
    go_round
    case rel => exact ⟨k + 1,by omega,by go_num,all_take_succ _ _ k hlt'.out Hall.out HP.out⟩
    case measure => simp [intOf];omega
  ·go_wp2_with fail
   go_ret
   exact ⟨⟨-1,rfl,by rw [all_of_take _ _ k (by omega) Hall.out];simp⟩,rfl⟩
set_option maxRecDepth 100000 in
set_option maxHeartbeats 400000 in
theorem c_ContainsFunc_notLev (v:Value) (xs:List (List Int)) (w:World) (h:Rd (RS (RS RI)) w [v] xs) :
  Calls Tryz.prog 159 #[v,.func (.func 160) #[] #[]] w (RetS w (.bool (!(xs.all lev8)))):=by
 go_enter Tryz.func159,Tryz.ntmps159
 go_wp2_with fail
 refine (c_IndexFunc_notLev v xs w h).mono ?_
 rintro e w' ⟨⟨n,rfl,hn⟩,rfl⟩
 have Hn:=Lib.hid hn
 clear hn
 go_wp2_with fail
 go_ret
 exact ⟨by rw [← Hn.out];rfl,rfl⟩
set_option maxRecDepth 100000 in
set_option maxHeartbeats 400000 in
theorem c_impl_areLevels (v:Value) (xs:List (List Int)) (w:World) (h:Rd (RS (RS RI)) w [v] xs) :
  Calls Tryz.prog 88 #[v] w (RetS w (.bool (xs.all lev8))):=by
 have hc:=c_ContainsFunc_notLev v xs w h
 go_enter Tryz.func88,Tryz.ntmps88
 go_wp2_with fail
 refine hc.mono ?_
 rintro e w' ⟨rfl,rfl⟩
 go_wp2_with fail
 go_ret
 exact ⟨by simp,rfl⟩
end Go.Proofs.YtgngidchldajhaaGreat
namespace Go.Proofs.YtgngidchldajhaaGreat
open Go.RowKit
def RetOO {α β:Type} (R:Rep α) (S:Rep β) (w:World) (x:α) (y:β):Ending→World→Prop :=
 fun e w' => ∃ u1 u2 m,e = .returned (.tuple #[u1,u2])∧(w.heap.size ≤ m∧m ≤ w'.heap.size)∧Own R w.heap.size m w' [u1] x∧Own S m w'.heap.size w' [u2] y∧Below w.heap.size w w'
theorem getD_get {t:List Int} {i:Nat} (h:i < t.length):t.getD i 0 = t[i]:=by simp [h]
theorem Below.of_alloc_heap {w W w2:World} {o:Go.Obj} (b:Below W.heap.size W w2) (e:W.heap = (w.alloc o).heap) (e1:W.os = w.os) (e2:W.tape = w.tape) (e3:W.output = w.output):Below w.heap.size w w2 :=
 ⟨b.os.trans e1,b.tape.trans e2,b.output.trans e3,by have:=b.size;rw [e] at this;simp at this;omega,
  fun k hk => (b.block k (by rw [e];simp;omega)).trans (by rw [e];exact Below.heap_alloc w o k hk)⟩
theorem Below.of_heap_eq {w W w2:World} (b:Below W.heap.size W w2) (e:W.heap = w.heap) (e1:W.os = w.os) (e2:W.tape = w.tape) (e3:W.output = w.output):Below w.heap.size w w2:=by
 rw [e] at b
 exact ⟨b.os.trans e1,b.tape.trans e2,b.output.trans e3,by have:=b.size;rw [e] at this;exact this,fun k hk => (b.block k hk).trans (by rw [e])⟩
theorem Rd.two {α:Type} {R:Rep α} {w W:World} {u1 u2:Value} {x y:List α} {E:TypeId} (h1:Rd (RS R) w [u1] x) (h2:Rd (RS R) w [u2] y) (e:W.heap = (w.alloc (.cells #[u1,u2] E)).heap) :
  Rd (RS (RS R)) W [.slice (some ⟨w.heap.size,0,none⟩) 2 2] [x,y]:=by
 refine Rd.of_heap (w:=w.alloc (.cells #[u1,u2] E)) ?_ e
 have hb:Below w.heap.size w (w.alloc (.cells #[u1,u2] E)):=(Below.refl _ _).alloc (Nat.le_refl _) _
 refine ⟨some ⟨w.heap.size,0,none⟩,2,[u1,u2],rfl,Nat.le_refl _,by decide,by simp,⟨[u1],[u2],rfl,h1.below hb (Nat.le_refl _),⟨[u2],[],rfl,h2.below hb (Nat.le_refl _),rfl⟩⟩,.inr ⟨w.heap.size,0,rfl,by simp,fun j u hj => ?_⟩⟩
 rw [Nat.zero_add,World.cell?_alloc_at _ _ _ _ rfl]
 simpa using hj
theorem Rd.none' {w:World} {oa:Option Addr} {c:Nat} (hc:c ≤ maxLen) (hn:oa = none→c = 0):Rd (RS RI) w [.slice oa 0 c] [] :=
 ⟨oa,c,[],rfl,Nat.zero_le _,hc,hn,rfl,.inl rfl⟩
theorem endOf_le {t:List Int} {n:Nat} (hn:n < t.length):n + 1 ≤ endOf t n∧endOf t n ≤ t.length:=by
 unfold endOf
 have:=(List.takeWhile_sublist (fun l => decide (t.getD n 0 < l)) (l:=t.drop (n + 1))).length_le
 rw [List.length_drop] at this
 omega
theorem sub_take_succ (xs:List Int) (x:Int) (k:Nat) (h:k < xs.length):(xs.take (k + 1)).map (· - x) = (xs.take k).map (· - x) ++ [xs[k] - x]:=by
 rw [List.take_succ_eq_append_getElem h,List.map_append];rfl
set_option maxRecDepth 100000 in
set_option maxHeartbeats 2000000 in
theorem c_impl_cutAbove (v:Value) (t:List Int) (n:Nat) (w:World) (h:Rd (RS RI) w [v] t) (h8:lev8 t = true) (h0:0 < n) (hn:n < t.length) :
  Calls Tryz.prog 89 #[v,.int .i64 n] w (RetOO (RS RI) (RS RI) w (canon (cutT t n)) (canon (cutB t n))):=by
 have hlev:=lev8_lev h8
 have hl8:=lev8_len h8
 have hcl:=cuts_lev h8 h0 hn
 obtain ⟨e1,e2⟩:=endOf_le hn
 have HT:=Lib.hid h
 obtain ⟨oa,c1,I1⟩:=h.ints
 obtain rfl:=I1.val
 have m1:=I1.le;have m2:=I1.capLe
 unfold maxLen at m2
 obtain ⟨b,off,rfl,hb,hc⟩:=I1.get hn
 have gn:=hc n hn
 have HC:=Lib.hid hc
 have HN:=Lib.hid hn
 have HLB:=Lib.hid hlev.bd
 have hw0:IntKind.i64.wrap ((n:Int) + 1) = (n:Int) + 1:=IntWalk.i64_in _ (by omega)
 obtain ⟨x,hx⟩:∃ x:Int,x = t[n]'hn:=⟨_,rfl⟩
 rw [← hx] at gn
 have HX:=Lib.hid hx
 have HCL:=Lib.hid hcl
 have hxb:0 ≤ x∧x ≤ 8:=by have:=hlev.bd n hn;rw [hx];omega
 obtain ⟨xb1,xb2⟩:=hxb
 have in0:(0:Int) ≤ (n:Int):=by omega
 have in1:(n:Int) < (t.length:Int):=by omega
 obtain ⟨tl,htl⟩:∃ tl,tl = t.length:=⟨_,rfl⟩
 rw [← htl] at in1 m1 hl8 e2
 rw [← htl]
 have HTL:=Lib.hid htl
 obtain ⟨e,he⟩:∃ e,e = endOf t n:=⟨_,rfl⟩
 rw [← he] at e1 e2
 have HE:=Lib.hid he
 clear hc I1 h hx htl hlev hcl h8 he
 go_enter Tryz.func89,Tryz.ntmps89
 go_wp2_with fail
 go_loopw [6] (fun i wr => ∃ k:Nat,n + 1 ≤ k∧k ≤ tl∧i = .int .i64 k∧Hid (∀ j,n < j→j < k→t.getD n 0 < t.getD j 0)∧∃ nd,wr = w.drewN nd) (fun i _ => tl - (intOf i).toNat)
 case atStart => exact ⟨n + 1,Nat.le_refl _,by have:=HTL.out;have:=HN.out;omega,by go_num,Lib.hid (fun j h1 h2 => by omega),0,rfl⟩
 case round =>
  obtain ⟨k,hnk,hk,rfl,hall,nd,rfl⟩:=hrel
  by_cases hgo:k < tl∧x < t.getD k 0
  ·obtain ⟨hlt,hgt⟩:=hgo
   have hlt2:k < t.length:=by rw [← HTL.out];exact hlt
   have gk:=HC.out k hlt2
   rw [getD_get hlt2] at hgt
   obtain ⟨y,hy⟩:∃ y,y = t[k]:=⟨_,rfl⟩
   rw [← hy] at gk hgt
   have ik0:(0:Int) ≤ (k:Int):=by omega
   have ik1:(k:Int) < (tl:Int):=by omega
   have ik2:decide ((k:Int) < (tl:Int)) = true:=decide_eq_true ik1
   have hd:decide (x < y) = true:=decide_eq_true hgt
   have HALL:Hid (∀ j,n < j→j < k + 1→t.getD n 0 < t.getD j 0):=Lib.hid (by
    intro j h1 h2
    by_cases hj:j = k
    ·subst hj;rw [getD_get HN.out,getD_get hlt2,← hy,← HX.out];exact hgt
    ·exact hall.out j h1 (by omega))
   clear hgt hy
   go_wp2_with fail
   go_quiet (fail)
   go_wp2_with fail
   go_roundw
   case rel => exact ⟨k + 1,by omega,by omega,by go_num,HALL,(by first|exact drewN1 _ _|exact drewN2 _ _ _|exact drewN3 _ _ _ _)⟩
   case measure => simp [intOf];omega
  ·have HK:Hid (k = e):=Lib.hid (by
    rw [HE.out]
    refine (endOf_eq (t:=t) hnk (by rw [← HTL.out];omega) hall.out ?_).symm
    rw [getD_get HN.out,← HX.out,← HTL.out]
    by_cases hlt:k < tl
    ·exact .inr (fun h => hgo ⟨hlt,h⟩)
    ·exact .inl (by omega))
   have hcn:¬ c1 = n:=by omega
   have hmn:n ≤ e:=by omega
   have hmc:e ≤ c1:=by omega
   have ic1:n ≤ c1:=by omega
   have hcnt:((e - n:Nat):Int) = (e:Int) - n:=by omega
   have R1:Rd (RS RI) w [.slice (some ⟨b,off,none⟩) n c1] (t.take n):=by
    have:=HT.out.part 0 n (Nat.zero_le _) (by omega) c1 (by omega) (by unfold maxLen;omega) (by simp)
    simpa [Addr.add] using this
   have R2:Rd (RS RI) w [.slice (some ⟨b,off + e,none⟩) (tl - e) (c1 - e)] (t.drop e):=by
    have:=HT.out.part e t.length (by have:=HTL.out;omega) (Nat.le_refl _) (c1 - e) (by have:=HTL.out;omega) (by unfold maxLen;omega) (by simp)
    rw [← HTL.out] at this
    rw [HTL.out,List.take_length,← HTL.out] at this
    simpa [Addr.add,show ¬ e = 0 by omega] using this
   have R3:c1 = e→Rd (RS RI) w [.slice (some ⟨b,off,none⟩) 0 0] (t.drop e):=fun h => by
    rw [List.drop_of_length_le (by have:=HTL.out;omega)]
    exact Rd.none' (by decide) (by simp)
   obtain ⟨ct,hct⟩:∃ ct,ct = cutT t n:=⟨_,rfl⟩
   have hct2:t.take n ++ t.drop e = ct:=by rw [hct,HE.out];rfl
   have hcl1:=lev8_lev HCL.out.1
   have hcl2:=lev8_len HCL.out.1
   have hbl1:=lev8_lev HCL.out.2
   have hbl2:=lev8_len HCL.out.2
   rw [← hct] at hcl1 hcl2
   have HCA:Hid (∀ (W:World) (v:Value),Rd (RS RI) W [v] ct→Calls Tryz.prog 79 #[v] W (RetO (RS RI) W (canon ct))):=Lib.hid (fun W v r => c_impl_canonical 13 v ct W r hcl1 (by omega) (by omega))
   have HCB:Hid (∀ (W:World) (v:Value),Rd (RS RI) W [v] (cutB t n)→Calls Tryz.prog 79 #[v] W (RetO (RS RI) W (canon (cutB t n)))):=Lib.hid (fun W v r => c_impl_canonical 13 v (cutB t n) W r hbl1 (by omega) (by omega))
   have HCC:Hid (∀ (W w':World) (u2:Value),Below w.heap.size w w'→Rd (RS RI) w [u2] (t.drop e)→W.heap = (w'.alloc (.cells #[.slice (some ⟨b,off,none⟩) n c1,u2] 24)).heap→Calls Tryz.prog 161 #[.slice (some ⟨w'.heap.size,0,none⟩) 2 2] W (RetO (RS RI) W ct)):=Lib.hid (by
    intro W w' u2 hb hr hW
    have:=c_slicesConcat (.slice (some ⟨w'.heap.size,0,none⟩) 2 2) [t.take n,t.drop e] W (Rd.two (R1.below hb (Nat.le_refl _)) (hr.below hb (Nat.le_refl _)) hW) (by have:=HTL.out;simp [sumLen];omega)
    simpa [hct2] using this)
   have HCT:=Lib.hid hct
   have EGC:=Lib.hid (enters (P:=Tryz.prog) (f:=161) Tryz.func161 (by kernel_rfl) rfl)
   have EGN:=Lib.hid (enters (P:=Tryz.prog) (f:=79) Tryz.func79 (by kernel_rfl) rfl)
   obtain ⟨m,hm⟩:∃ m,e - n = m:=⟨_,rfl⟩
   rw [hm] at hcnt
   have HR2:=Lib.hid R2
   have HR3:=Lib.hid R3
   have hem:e = n + m:=by omega
   have HEM:=Lib.hid hem
   have hgo2:k < tl→¬ x < t.getD k 0:=fun h1 h2 => hgo ⟨h1,h2⟩
   clear R1 R2 R3 hct hct2 hcl1 hcl2 hbl1 hbl2 hgo hem
   have key:∀ (y:Int),(k < tl→w.cell? ⟨b,off + k,none⟩ = some (.int .i64 y)∧decide (x < y) = false)→True:=fun _ _ => trivial
   by_cases hlt:k < tl
   case' pos =>
    have hlt2:k < t.length:=by rw [← HTL.out];exact hlt
    have gk:=HC.out k hlt2
    have hgt:¬ x < t[k]:=fun h => hgo2 hlt (by rw [getD_get hlt2];exact h)
    obtain ⟨y,hy⟩:∃ y:Int,y = t[k]'hlt2:=⟨_,rfl⟩
    rw [← hy] at gk hgt
    have ik1:(k:Int) < (tl:Int):=by omega
    have ik2:decide ((k:Int) < (tl:Int)) = true:=decide_eq_true ik1
    have hd:decide (x < y) = false:=decide_eq_false hgt
    clear hgt hy
   case' neg =>
    have ik2:decide ((k:Int) < (tl:Int)) = false:=decide_eq_false (by omega)
   all_goals
    have ik0:(0:Int) ≤ (k:Int):=by omega
    obtain rfl:=HK.out
    clear hgo2 key
    go_wp2_with fail
    go_quiet (fail)
    go_wp2_with fail
    go_loopw [7,35] (fun o i wr => ∃ (q:Nat) (z:List Int),q ≤ m∧i = .int .i64 q∧Hid (z = ((t.drop n).take q).map (· - x))∧Hid (z.length = q)∧(∃ oa cap,o = .slice oa z.length cap)∧Hid (Own (RS RI) w.heap.size wr.heap.size wr [o] z)∧Below w.heap.size w wr) (fun _ i _ => m - (intOf i).toNat)
    case atStart => exact ⟨0,[],Nat.zero_le _,rfl,Lib.hid rfl,Lib.hid rfl,⟨_,_,rfl⟩,Lib.hid ((Own.empty (R:=RI) (w:=w.drewN _) 2 w.heap.size (Nat.le_refl _)).top _ (by simp)),((Below.drewN _ _ _).alloc (Nat.le_refl _) _)⟩
    case round =>
     obtain ⟨q,z,hq,rfl,hz,hzl,⟨o1,cap1,rfl⟩,hown,hbel⟩:=hrel
     have hsz1:=hbel.size
     by_cases hlq:q < m
     ·have hlq2:n + q < t.length:=by have:=HTL.out;omega
      have g3:wr.cell? ⟨b,off + n + q,none⟩ = some (.int .i64 t[n + q]):=by rw [Nat.add_assoc];exact (hbel.cell (p:=⟨b,off + (n + q),none⟩) hb).trans (HC.out _ hlq2)
      have gn3:wr.cell? ⟨b,off + n,none⟩ = some (.int .i64 x):=(hbel.cell (p:=⟨b,off + n,none⟩) hb).trans gn
      obtain ⟨y2,hy2⟩:∃ y2:Int,y2 = t[n + q]'hlq2:=⟨_,rfl⟩
      have hyb:=HLB.out (n + q) hlq2
      have hnx:((t.drop n).take (q + 1)).map (· - x) = z ++ [y2 - x]:=by
       rw [hz.out,sub_take_succ _ _ _ (by rw [List.length_drop];omega),List.getElem_drop,← hy2]
      rw [← hy2] at g3 hyb
      obtain ⟨yb1,yb2⟩:=hyb
      have hw1:IntKind.i64.wrap (y2 - x) = y2 - x:=IntWalk.i64_in _ (by omega)
      have HN2:=Lib.hid hnx
      have hzb:z.length ≤ 8:=by rw [hzl.out];omega
      have iq0:(0:Int) ≤ (q:Int):=by omega
      have iq1:(q:Int) < (m:Int):=by omega
      clear hy2 hnx
      go_wp2_with (at_builtin;refine StopAt (o:=⟨some 47,_,_,_,_,_⟩) ?_)
      refine Stop.go ?_
      refine wpList_snoc (w:=wr) (R:=RI) rfl _ _ 24 rfl 2 (.int .i64 0) 1 8 tI64 rfl (.slice o1 z.length cap1) z (y2 - x) [.int .i64 (y2 - x)] w.heap.size wr.heap.size wr.heap.size rfl hown.out (Own.int ⟨by omega,by omega⟩) (Nat.le_refl _) hsz1 2 rfl rfl (by omega) (by omega) ?_
      intro oa1 cap1' w1 hown1 c1a c1b hbel1
      have hb3:=hbel.trans hbel1
      obtain ⟨z',hz'⟩:∃ z',z' = z ++ [y2 - x]:=⟨_,rfl⟩
      have HZ:Hid (z' = ((t.drop n).take (q + 1)).map (· - x)):=Lib.hid (by rw [hz',HN2.out])
      have e1:z.length + 1 = z'.length:=by rw [hz'];simp
      have HZL:Hid (z'.length = q + 1):=Lib.hid (by rw [← e1,hzl.out])
      rw [← hz',e1] at hown1
      have HO1:Hid (Own (RS RI) w.heap.size w1.heap.size w1 [.slice oa1 z'.length cap1'] z'):=hown1
      rw [e1]
      clear hown1 hbel1 hown e1 hz'
      go_wp2_with fail
      go_roundw
      case rel => exact ⟨q + 1,z',by omega,by go_num,HZ,HZL,⟨_,_,rfl⟩,HO1,hb3⟩
      case measure => simp [intOf];omega
     ·have hfin:Hid (z = cutB t n):=Lib.hid (by
       rw [hz.out,show q = m by omega]
       unfold cutB
       rw [← HE.out,List.drop_take,getD_get hn,← HX.out]
       have:=HEM.out
       rw [show k - n = m by omega])
      by_cases hck:c1 = k∧¬ k < tl
      case' pos => first|exact absurd hlt hck.2|(obtain ⟨hck1,hck2⟩:=hck;have hrc:=HR3.out hck1;obtain rfl:tl = k:=(by omega);obtain rfl:=hck1)
      case' neg => have hrc:=HR2.out;have hck2:¬ c1 = k:=fun h => hck ⟨h,by omega⟩;clear hck
      all_goals
       have HRC:=Lib.hid hrc
       go_wp2_with fail
       go_region_law (first
        | (refine step_call rfl 161 _ _ rfl EGC.out #[.slice (some ⟨wr.heap.size,0,none⟩) 2 2] (by simp [Act.eval]) ?_;refine Calls.mono (HCC.out _ wr _ hbel HRC.out (by rfl)) ?_;rintro e w2 ⟨u,rfl,o2,b2⟩;obtain ⟨ou,cu,rfl,lu1,lu2⟩:=o2.val;have bA:Below wr.heap.size wr w2:=Below.of_alloc_heap b2 rfl rfl rfl rfl;refine ⟨_,rfl,?_⟩)
        | (refine step_call rfl 79 _ _ rfl EGN.out #[.slice ou ct.length cu] (by simp [Act.eval]) ?_;refine Calls.mono (HCA.out _ _ (o2.rd.of_heap (by rfl))) ?_;rintro e w3 ⟨u3,rfl,o3,b3⟩;have bB:Below w2.heap.size w2 w3:=Below.of_heap_eq b3 rfl rfl rfl rfl;refine ⟨_,rfl,?_⟩)
        | (refine step_call rfl 79 _ _ rfl EGN.out #[.slice o1 z.length cap1] (by simp [Act.eval]) ?_;refine Calls.mono (HCB.out _ _ (hfin.out ▸ (((hown.out.below bA (Nat.le_refl _)).below bB bA.size).rd.of_heap (by rfl)))) ?_;rintro e w4 ⟨u4,rfl,o4,b4⟩;have bC:Below w3.heap.size w3 w4:=Below.of_heap_eq b4 rfl rfl rfl rfl;refine ⟨_,rfl,?_⟩))
       all_goals
        go_wp2_with fail
        go_ret2
        have s2:=bA.size
        have s3:=bB.size
        have s4:=bC.size
        exact ⟨_,_,w3.heap.size,rfl,⟨by omega,s4⟩,by rw [← HCT.out];exact (o3.below bC (Nat.le_refl _)).mono (by have:=o2;omega) (Nat.le_refl _),o4,hbel.trans ((bA.trans (bB.mono s2) |>.trans (bC.mono (by omega))).mono hsz1)⟩
end Go.Proofs.YtgngidchldajhaaGreat
namespace Go.Proofs.YtgngidchldajhaaGreat
open Go.RowKit
section
variable {α:Type} {R:Rep α}
theorem OwnF.snoc {w w':World} {v v':Value} {xs:List α} {x:α} {c:List Value} {ds:List Value} {og og':Option Nat} {F G:List Nat}
  (hel:ownL R w ds xs F) (hF:(og.toList ++ F).Nodup) (hlt:∀ b,b ∈ og.toList ++ F→b < w.heap.size) (hx:OwnF R G w c x) (hd:∀ b,b ∈ G→b ∉ og.toList ++ F)
  (h:Appended w w' v' R.k (xs.length + 1) (ds ++ c) og og') :
  OwnF (RS R) (og'.toList ++ (F ++ G)) w' [v'] (xs ++ [x])∧(∀ b,b ∈ og'.toList ++ (F ++ G)→b ∈ og.toList ++ F ∨ b ∈ G ∨ w.heap.size ≤ b)∧ChgF (og.toList ++ F) w w':=by
 obtain ⟨h1,h2,h3⟩:=h
 have hGl:=hx.lt
 have hFx:∀ b,b ∈ F ++ G→w'.heap[b]? = w.heap[b]?:=by
  intro b hb
  refine h2.block b ?_ ?_
  ·rcases List.mem_append.1 hb with hb|hb
   ·exact hlt b (by simp [hb])
   ·exact hGl b hb
  ·intro e
   rcases List.mem_append.1 hb with hb|hb
   ·exact (List.nodup_append.1 hF).2.2 b (by simp [← e]) b hb rfl
   ·exact hd b hb (by simp [← e])
 have hel':ownL R w' (ds ++ c) (xs ++ [x]) (F ++ G):=(hel.append (ownL.single hx.1)).frame hFx
 refine ⟨⟨⟨v',og',ds ++ c,F ++ G,rfl,by simpa using h1,hel',rfl⟩,?_⟩,?_,?_⟩
 ·have hFG:(F ++ G).Nodup:=List.nodup_append.2 ⟨(List.nodup_append.1 hF).2.1,hx.2,fun b hb b' hb' e => by subst e;exact hd b hb' (by simp [hb])⟩
  refine List.nodup_append.2 ⟨by cases og' <;> simp,hFG,fun b hb b' hb' e => ?_⟩
  subst e
  have hbo:og' = some b:=by simpa using hb
  rcases h3 with h3|⟨g,h3,hg⟩
  ·rcases List.mem_append.1 hb' with hb'|hb'
   ·exact (List.nodup_append.1 hF).2.2 b (by simp [← h3,hbo]) b hb' rfl
   ·exact hd b hb' (by simp [← h3,hbo])
  ·rw [hbo] at h3
   cases h3
   rcases List.mem_append.1 hb' with hb'|hb'
   ·have:=hlt b (by simp [hb']);omega
   ·have:=hGl b hb';omega
 ·intro b hb
  simp only [List.mem_append,Option.mem_toList] at hb
  rcases hb with hb|hb|hb
  ·rcases h3 with h3|⟨g,h3,hg⟩
   ·exact .inl (by simp [← h3,hb])
   ·rw [hb] at h3;cases h3;exact .inr (.inr hg)
  ·exact .inl (by simp [hb])
  ·exact .inr (.inl hb)
 ·exact (ChgF.of_grown h2).mono (fun b hb => by simp [Option.mem_toList.1 hb])
theorem OwnF.setRow {w:World} {v:Value} {xs:List α} {F:List Nat} (h:OwnF (RS R) F w [v] xs) (hk:R.k = 1) (i:Nat) (hi:i < xs.length) :
  ∃ g cap a,v = .slice (some ⟨g,0,none⟩) xs.length cap∧xs.length ≤ cap∧cap ≤ 9223372036854775807∧g < w.heap.size∧g ∈ F∧w.cell? ⟨g,i,none⟩ = some a∧Rd R w [a] xs[i] ∧
   ∀ (w1:World) (y:α) (u:Value) (G:List Nat),Below w.heap.size w w1→OwnF R G w1 [u] y→(∀ b,b ∈ G→w.heap.size ≤ b) →
    w1.cell? ⟨g,i,none⟩ = some a∧w1.frozen? ⟨g,i,none⟩ = false∧∃ F',OwnF (RS R) F' (w1.setCell ⟨g,i,none⟩ u) [v] (xs.set i y)∧(∀ b,b ∈ F'→b ∈ F ∨ w.heap.size ≤ b)∧ChgF F w (w1.setCell ⟨g,i,none⟩ u):=by
 have hlt:=h.lt
 have hnd:=h.2
 obtain ⟨g,cap,d1,c,d2,F1,G0,F2,hv,hc1,hc2,rfl,hcl,hd1,hx,hrow,hK⟩:=h.lens i hi
 rw [hk] at hcl hd1
 rw [Nat.mul_one] at hd1
 match c,hcl with
 | [a],_ =>
 have hcell:w.cell? ⟨g,i,none⟩ = some a:=hrow.cells i a (by rw [List.getElem?_append_right (by omega),hd1];simp)
 have hgl:=hlt g (by simp)
 refine ⟨g,cap,a,hv,hc1,hc2,hgl,by simp,hcell,Rd.of (R.own_rd hx),?_⟩
 intro w1 y u G hbel hy hGl
 have hn1:=List.nodup_cons.1 hnd
 have hrow1:Row w1 v R.k xs.length (d1 ++ ([a] ++ d2)) (some g):=hrow.frame (fun g' hg' => by cases hg';exact hbel.block g hgl)
 obtain ⟨hst,hgr⟩:=hrow1.store i u
 have hset:(d1 ++ ([a] ++ d2)).set i u = d1 ++ ([u] ++ d2):=by
  rw [List.set_append_right _ _ (by omega),hd1,Nat.sub_self];rfl
 rw [hset] at hst
 have hsub:∀ b,b ∈ F1 ++ F2→b ≠ g:=fun b hm e => hn1.1 (by
  subst e
  rcases List.mem_append.1 hm with hm|hm
  ·simp [hm]
  ·simp [hm])
 have hfr:∀ b,b ∈ F1 ++ F2→(w1.setCell ⟨g,i,none⟩ u).heap[b]? = w.heap[b]?:=by
  intro b hm
  rw [heap_setCell_other w1 ⟨g,i,none⟩ b u (hsub b hm)]
  refine hbel.block b (hlt b ?_)
  rcases List.mem_append.1 hm with hm|hm
  ·simp [hm]
  ·simp [hm]
 have hy':R.own (w1.setCell ⟨g,i,none⟩ u) [u] y G:=R.own_frame hy.1 (fun b hb => heap_setCell_other w1 ⟨g,i,none⟩ b u (by have:=hGl b hb;show b ≠ g;omega))
 have hG:∀ b,b ∈ G→b ∉ g :: (F1 ++ F2):=fun b hb hm => by
  have h1:=hGl b hb
  have:b < w.heap.size:=by
   rcases List.mem_cons.1 hm with rfl|hm
   ·exact hgl
   ·rcases List.mem_append.1 hm with hm|hm
    ·exact hlt b (by simp [hm])
    ·exact hlt b (by simp [hm])
  omega
 have hnd':(g :: (F1 ++ (G ++ F2))).Nodup:=by
  have h2:=List.nodup_append.1 hn1.2
  have h3:=List.nodup_append.1 h2.2.1
  refine List.nodup_cons.2 ⟨?_,?_⟩
  ·intro hm
   simp only [List.mem_append] at hm
   rcases hm with hm|hm|hm
   ·exact hsub g (by simp [hm]) rfl
   ·exact hG g hm (by simp)
   ·exact hsub g (by simp [hm]) rfl
  ·refine List.nodup_append.2 ⟨h2.1,List.nodup_append.2 ⟨hy.2,h3.2.1,fun b hb b' hb' e => ?_⟩,fun b hb b' hb' e => ?_⟩
   ·subst e;exact hG b hb (by simp [hb'])
   ·subst e
    rcases List.mem_append.1 hb' with hb'|hb'
    ·exact hG b hb' (by simp [hb])
    ·exact h2.2.2 b hb b (by simp [hb']) rfl
 refine ⟨hrow1.cells i a (by rw [List.getElem?_append_right (by omega),hd1];simp),hrow1.frozen i,_,hK _ [u] y G (by rw [hk];rfl) hy' hfr hst hnd',?_,?_⟩
 ·intro b hb
  simp only [List.mem_cons,List.mem_append] at hb
  rcases hb with hb|hb|hb|hb
  ·exact .inl (by simp [hb])
  ·exact .inl (by simp [hb])
  ·exact .inr (hGl b hb)
  ·exact .inl (by simp [hb])
 ·refine (Below.chgF hbel).trans ((ChgF.of_grown hgr).mono (fun b hb => ?_))
  simp at hb
  simp [hb]
end
end Go.Proofs.YtgngidchldajhaaGreat
namespace Go.Proofs.YtgngidchldajhaaGreat
open Go.RowKit
theorem sub_flat2 {α:Type} {l1 l2:List (List α)} (h:l1.Sublist l2):l1.flatten.Sublist l2.flatten:=by
 induction h with
 | slnil => exact .slnil
 | cons a _ ih => rw [List.flatten_cons];exact ih.trans (List.sublist_append_right _ _)
 | cons_cons a _ ih => rw [List.flatten_cons,List.flatten_cons];exact List.Sublist.append (List.Sublist.refl _) ih
def eCtT (z:(List Int × List Nat) × Int):List D:=[.tag z.1.2 (.sl 1 (z.1.1.map eI)),.int z.2]
theorem tag_mk2:∀ (zs:List ((List Int × List Nat) × Int)),TagL ((zs.map fun z => (z.1.1,z.2)).map eCt) (zs.map eCtT) ((zs.map (·.1.2)).flatten)
 | [] => ⟨rfl,rfl⟩
 | z :: zs => ⟨_,_,z.1.2,_,rfl,rfl,⟨_,[.int z.2],z.1.2,[],rfl,(List.append_nil _).symm,.inl rfl,⟨.int z.2,[],[],[],rfl,rfl,.inr ⟨rfl,rfl,rfl⟩,rfl,rfl⟩⟩,tag_mk2 zs⟩
noncomputable def TEq:Tab Tryz.prog:=Tab.none.add 87 (tab2 codL codL fun xs ys => some [.val (.bool (decide (xs = ys)))]) (tab2_ok fun xs ys rs h => by cases h;exact a_slicesEqual xs ys)
end Go.Proofs.YtgngidchldajhaaGreat
namespace Go.Proofs.YtgngidchldajhaaGreat
open Go.RowKit
end Go.Proofs.YtgngidchldajhaaGreat
