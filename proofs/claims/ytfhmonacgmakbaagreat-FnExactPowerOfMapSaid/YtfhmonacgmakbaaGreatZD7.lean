/- Lemmas (7). -/
import Derived.Test.YtfhmonacgmakbaaGreatZD0
import Derived.Test.YtfhmonacgmakbaaGreatZD1
import Derived.Test.YtfhmonacgmakbaaGreatZD5
import Derived.Test.YtfhmonacgmakbaaGreatZD6
set_option linter.unusedSimpArgs false
set_option linter.unusedVariables false
namespace Go.Proofs.YtfhmonacgmakbaaGreat
def lastBig (t:List Int):Nat→Nat
 | 0 => 0
 | p + 1 => if t.getD p 0 ≤ 1 then lastBig t p else p + 1
def lastEq (t:List Int) (l:Int):Nat→Nat
 | 0 => 0
 | q + 1 => if t.getD q 0 = l then q else lastEq t l q
def copyFrom (p q:Nat):Nat→List Int→List Int
 | 0,t => t
 | k + 1,t => (copyFrom p q k t).set (p + k) ((copyFrom p q k t).getD (p + k - (p - q)) 0)
def nextT (t:List Int):Option (List Int) :=
 match lastBig t t.length with
 | 0 => none
 | p + 1 => some (copyFrom p (lastEq t (t.getD p 0 - 1) p) (t.length - p) t)
def treesF:Nat→List Int→List (List Int)
 | 0,_ => []
 | f + 1,t => t :: match nextT t with
  | none => []
  | some s => treesF f s
def treesN (n:Nat):List (List Int):=treesF 120 ((List.range n).map fun (i:Nat) => (i:Int))
def growF:Nat→List Int→Nat→List (List Int)
 | 0,_,_ => []
 | f + 1,t,n => if t.length = n then (if canon t = t then [t] else [])
  else (List.range ((t.getLastD 0 + 1).toNat)).flatMap fun i => growF f (t ++ [t.getLastD 0 + 1 - (i:Nat)]) n
theorem trees_len:[1,2,3,4,5,6,7,8].map (fun n => (treesN n).length) = [1,1,2,4,9,20,48,115]:=by decide +kernel
theorem grow_trees:∀ n ∈ [1,2,3,4,5,6,7,8],growF 9 [0] n = treesN n:=by decide +kernel
end Go.Proofs.YtfhmonacgmakbaaGreat
namespace Go.Proofs.YtfhmonacgmakbaaGreat
open Go.RowKit
theorem a_slicesClone (xs:List Int) (h:xs.length ≤ 1000000000):AFn Tryz.prog 158 [eL xs] (· = [.own 1 (xs.map eI) true]):=afn_L_o (enters_of Tryz.func158 rfl rfl) (fun u w h' => c_slicesClone u xs w h' h)
def stepOk (n:Nat) (t:List Int):Bool :=
 t.length == n && t.all (fun x => decide (0 ≤ x) && decide (x ≤ 8)) && (match lastBig t n with
  | 0 => true
  | p + 1 => decide (p < n) && (let q:=lastEq t (t.getD p 0 - 1) p;decide (q < p) && t.getD q 0 == t.getD p 0 - 1))
theorem step_all:∀ n ∈ [1,2,3,4,5,6,7,8],(treesN n).all (stepOk n) = true:=by decide +kernel
theorem copyFrom_len (p q:Nat) (t:List Int):∀ k,(copyFrom p q k t).length = t.length
 | 0 => rfl
 | k + 1 => by unfold copyFrom;rw [List.length_set,copyFrom_len p q t k]
set_option maxHeartbeats 4000000 in
theorem a_treesOf (n:Nat) (hn:n ∈ [1,2,3,4,5,6,7,8]):AFn Tryz.prog 114 [eI n] (· = [.own 1 ((treesN n).map eL) true]):=by
 have hn8:1 ≤ n∧n ≤ 8:=by simp at hn;omega
 have hlen:(treesN n).length ≤ 115:=by
  have:=trees_len
  simp at hn
  rcases hn with rfl|rfl|rfl|rfl|rfl|rfl|rfl|rfl <;> simp at this <;> omega
 have hok:=List.all_eq_true.1 (step_all n hn)
 refine AFn.of_runs (cfg_ok 72) Tryz.func114 rfl rfl rfl (by simp only [List.length_cons,List.length_nil];decide) ?_
 have hres:Tryz.f114.results.toList = [.tmp 2]:=rfl
 have hrts:Tryz.f114.resultTypes.toList = [29]:=rfl
 simp only [argRegs,argAV1,eL,eI,eLL,eB,Nat.zero_add,Nat.reduceAdd]
 intro M
 refine RunK.of ?_
 repeat' (first|with_reducible (first|refine Q1 ?_|refine Q2 ?_|refine Q3 ?_|refine Q4 ?_|refine Q5 ?_|refine Q6 ?_|refine Q7 ?_|refine Q8 ?_|refine Q9 ?_|refine Qa ?_|refine Qb ?_|refine Qc ?_|refine Qd ?_|refine Qe ?_|refine Qf ?_)|((with_reducible refine Qo ?_ ?_);focus rfl)|((with_reducible first|refine QT 13 (l:=?_) ?_ ?_|refine QF 13 (l:=?_) ?_ ?_);rotate_left 1;focus (simp only [Zu,Nat.reduceSub,Nat.reduceBEq];with_reducible rfl))|((with_reducible first|refine QS (cfg_ok 72) Tab.none (s':=?_) ?_ ?_|refine QC (b:=?_) ?_ ?_);rotate_left 1;focus ((with_reducible refine QW ?_);simp only [Zg,seval,if_true,if_false,reduceCtorEq,Nat.reduceEqDiff];with_reducible rfl)))
 refine RunK.loop (β:=Nat) (γ:=Unit) (fun i => ⟨[(0,.c (.val (.int n))),(3,.c (.own 3 i)),(4,.c (.own 4 0)),(11,.c (.val (.int n))),(12,.c (.val (.int i)))],[(3,.row 1 ((List.range i).map fun (j:Nat) => [.int j]) true),(4,.row 1 [] true)]⟩) (fun i => i ≤ n) (fun i => n - i)
  (fun _ => ⟨[(0,.c (.val (.int n))),(3,.c (.own 3 n)),(4,.c (.own 4 0))],[(3,.row 1 ((List.range n).map fun (j:Nat) => [.int j]) true),(4,.row 1 [] true)]⟩) (fun _ => True) 0 (Nat.zero_le _) ?_ ?_ ?_
 ·(repeat' (first|with_reducible refine Qn|((with_reducible refine Qr ?_ ?_);focus (first|with_reducible rfl|(simp only [Zz,Nat.reduceBEq,List.range_zero];done)|rfl))|((with_reducible refine Qj (o':=?_) ?_ ?_ ?_);rotate_left 1;focus rfl)|((with_reducible refine Qw ?_ ?_);(focus (first|with_reducible rfl|(simp only [Zv,List.range_zero];done)));focus (first|exact id|exact (fun h => nomatch h)|exact (fun _ => rfl)))))
 ·intro i hi
  have hw:=w64_succ (n:=i) (by omega)
  have q1:=big_le (n:=i + 1) (by omega)
  have q2:=big_mul (n:=i + 1) (c:=8) (by omega) (by omega)
  by_cases h:i < n
  ·have i1:((i:Int) < (n:Int)) = True:=eq_true (by omega)
   repeat' (first|with_reducible (first|refine Q1 ?_|refine Q2 ?_|refine Q3 ?_|refine Q4 ?_|refine Q5 ?_|refine Q6 ?_|refine Q7 ?_|refine Q8 ?_|refine Q9 ?_|refine Qa ?_|refine Qb ?_|refine Qc ?_|refine Qd ?_|refine Qe ?_|refine Qf ?_)|((with_reducible refine Qo ?_ ?_);focus rfl)|((with_reducible first|refine QT 13 (l:=?_) ?_ ?_|refine QF 13 (l:=?_) ?_ ?_);rotate_left 1;focus (simp only [Zu,Nat.reduceSub,Nat.reduceBEq];with_reducible rfl))|((with_reducible first|refine QS (cfg_ok 72) Tab.none (s':=?_) ?_ ?_|refine QC (b:=?_) ?_ ?_);rotate_left 1;focus ((with_reducible refine QW ?_);simp only [Zg,seval,if_true,if_false,reduceCtorEq,Nat.reduceEqDiff,List.length_map,List.length_range,i1,hw,q1,q2];with_reducible rfl)))
   refine roundK.on (i + 1) ⟨h,by omega⟩ ?_
   (repeat' (first|with_reducible refine Qn|((with_reducible refine Qr ?_ ?_);focus (first|with_reducible rfl|(simp only [Zz,Nat.reduceBEq,List.range_succ];done)|rfl))|((with_reducible refine Qj (o':=?_) ?_ ?_ ?_);rotate_left 1;focus rfl)|((with_reducible refine Qw ?_ ?_);(focus (first|with_reducible rfl|(simp only [Zv,List.range_succ];done)));focus (first|exact id|exact (fun h => nomatch h)|exact (fun _ => rfl)))))
  ·have i1:((i:Int) < (n:Int)) = False:=eq_false (by omega)
   obtain rfl:i = n:=by omega
   repeat' (first|with_reducible (first|refine Q1 ?_|refine Q2 ?_|refine Q3 ?_|refine Q4 ?_|refine Q5 ?_|refine Q6 ?_|refine Q7 ?_|refine Q8 ?_|refine Q9 ?_|refine Qa ?_|refine Qb ?_|refine Qc ?_|refine Qd ?_|refine Qe ?_|refine Qf ?_)|((with_reducible refine Qo ?_ ?_);focus rfl)|((with_reducible first|refine QT 13 (l:=?_) ?_ ?_|refine QF 13 (l:=?_) ?_ ?_);rotate_left 1;focus (simp only [Zu,Nat.reduceSub,Nat.reduceBEq];with_reducible rfl))|((with_reducible first|refine QS (cfg_ok 72) Tab.none (s':=?_) ?_ ?_|refine QC (b:=?_) ?_ ?_);rotate_left 1;focus ((with_reducible refine QW ?_);simp only [Zg,seval,if_true,if_false,reduceCtorEq,Nat.reduceEqDiff,i1];with_reducible rfl)))
   refine roundK.out () trivial ?_
   (repeat' (first|with_reducible refine Qn|((with_reducible refine Qr ?_ ?_);focus (first|with_reducible rfl|(simp only [Zz,Nat.reduceBEq];done)|rfl))|((with_reducible refine Qj (o':=?_) ?_ ?_ ?_);rotate_left 1;focus rfl)|((with_reducible refine Qw ?_ ?_);(focus (first|with_reducible rfl|(simp only [Zv];done)));focus (first|exact id|exact (fun h => nomatch h)|exact (fun _ => rfl)))))
 ·rintro _ _
  repeat' (first|with_reducible (first|refine Q1 ?_|refine Q2 ?_|refine Q3 ?_|refine Q4 ?_|refine Q5 ?_|refine Q6 ?_|refine Q7 ?_|refine Q8 ?_|refine Q9 ?_|refine Qa ?_|refine Qb ?_|refine Qc ?_|refine Qd ?_|refine Qe ?_|refine Qf ?_)|((with_reducible refine Qo ?_ ?_);focus rfl)|((with_reducible first|refine QT 13 (l:=?_) ?_ ?_|refine QF 13 (l:=?_) ?_ ?_);rotate_left 1;focus (simp only [Zu,Nat.reduceSub,Nat.reduceBEq];with_reducible rfl))|((with_reducible first|refine QS (cfg_ok 72) Tab.none (s':=?_) ?_ ?_|refine QC (b:=?_) ?_ ?_);rotate_left 1;focus ((with_reducible refine QW ?_);simp only [Zg,seval,if_true,if_false,reduceCtorEq,Nat.reduceEqDiff];with_reducible rfl)))
  refine RunK.loop (β:=Nat × List (List Int) × List Int) (γ:=Unit) (fun x => ⟨[(0,.c (.val (.int n))),(3,.c (.own 3 n)),(4,.c (.own 4 x.2.1.length))],[(3,.row 1 (x.2.2.map eI) true),(4,.row 1 (x.2.1.map eL) true)]⟩)
   (fun x => treesN n = x.2.1 ++ treesF x.1 x.2.2∧x.2.1.length + x.1 = 120∧0 < x.1) (fun x => x.1)
   (fun _ => ⟨[],[]⟩) (fun _ => False) (120,[],(List.range n).map fun (i:Nat) => (i:Int)) ⟨rfl,rfl,by show 0 < 120;omega⟩ ?_ ?_ ?_
  ·(repeat' (first|with_reducible refine Qn|((with_reducible refine Qr ?_ ?_);focus (first|with_reducible rfl|(simp only [Zz,Nat.reduceBEq,List.map_map,eI,Function.comp_def];done)|rfl))|((with_reducible refine Qj (o':=?_) ?_ ?_ ?_);rotate_left 1;focus rfl)|((with_reducible refine Qw ?_ ?_);(focus (first|with_reducible rfl|(simp only [Zv,List.map_map,eI,Function.comp_def];done)));focus (first|exact id|exact (fun h => nomatch h)|exact (fun _ => rfl)))))
  ·rintro ⟨f,done,t⟩ ⟨h1,h2,h3⟩
   have h1:treesN n = done ++ treesF f t:=h1
   have h2:done.length + f = 120:=h2
   have h3:0 < f:=h3
   obtain ⟨f,rfl⟩:∃ f',f = f' + 1:=⟨f - 1,by omega⟩
   have hmem:t ∈ treesN n:=by rw [h1];exact List.mem_append_right _ (by simp [treesF])
   have hso:=hok t hmem
   unfold stepOk at hso
   simp only [Bool.and_eq_true,beq_iff_eq] at hso
   obtain ⟨⟨htl,htb⟩,hstep⟩:=hso
   have hdl:done.length ≤ 115:=by have:=congrArg List.length h1;simp at this;omega
   have q1:=big_le (n:=done.length + 1) (by omega)
   have q2:=big_mul (n:=done.length + 1) (c:=24) (by omega) (by omega)
   have hcl:=a_slicesClone t (by omega)
   have htlI:((t.map eI).length) = n:=by simp [htl]
   have hwn:w64 ((n:Int) - 1) = (n:Int) - 1:=w64_eq (by omega)
   repeat' (first|with_reducible (first|refine Q1 ?_|refine Q2 ?_|refine Q3 ?_|refine Q4 ?_|refine Q5 ?_|refine Q6 ?_|refine Q7 ?_|refine Q8 ?_|refine Q9 ?_|refine Qa ?_|refine Qb ?_|refine Qc ?_|refine Qd ?_|refine Qe ?_|refine Qf ?_)|((with_reducible refine Qo ?_ ?_);focus rfl)|((with_reducible first|refine QT 13 (l:=?_) ?_ ?_|refine QF 13 (l:=?_) ?_ ?_);rotate_left 1;focus (simp only [Zu,Nat.reduceSub,Nat.reduceBEq];with_reducible rfl))|((with_reducible first|refine QS (cfg_ok 72) (Tab.none.at' 158 hcl) (s':=?_) ?_ ?_|refine QC (b:=?_) ?_ ?_);rotate_left 1;focus ((with_reducible refine QW ?_);simp only [Zg,seval,if_true,if_false,reduceCtorEq,Nat.reduceEqDiff,eL,htlI,List.length_map,htl,q1,q2,hwn];with_reducible rfl)))
   have hget:∀ {k:Nat} (hk:k < n),(t.map eI)[k]? = some [.int (t.getD k 0)]:=by
    intro k hk
    rw [map_get (by omega)];simp [eI,List.getD_eq_getElem?_getD,List.getElem?_eq_getElem (show k < t.length by omega)]
   have hbd:∀ {k:Nat} (hk:k < n),0 ≤ t.getD k 0∧t.getD k 0 ≤ 8:=by
    intro k hk
    have:=List.all_eq_true.1 htb (t.getD k 0) (by rw [List.getD_eq_getElem?_getD,List.getElem?_eq_getElem (show k < t.length by omega)];exact List.getElem_mem _)
    simpa using this
   refine RunK.loop (β:=Nat) (γ:=Nat) (fun m => ⟨[(0,.c (.val (.int n))),(3,.c (.own 3 n)),(4,.c (.own 4 (done.length + 1))),(6,.c (.val (.int ((m:Int) - 1))))],[(3,.row 1 (t.map eI) true),(4,.row 1 (done.map eL ++ [[.sl 1 (t.map eI)]]) true)]⟩)
    (fun m => m ≤ n∧lastBig t n = lastBig t m) (fun m => m)
    (fun m => ⟨[(0,.c (.val (.int n))),(3,.c (.own 3 n)),(4,.c (.own 4 (done.length + 1))),(6,.c (.val (.int ((m:Int) - 1))))],[(3,.row 1 (t.map eI) true),(4,.row 1 (done.map eL ++ [[.sl 1 (t.map eI)]]) true)]⟩) (fun m => lastBig t n = m) n ⟨Nat.le_refl _,rfl⟩ ?_ ?_ ?_
   ·(repeat' (first|with_reducible refine Qn|((with_reducible refine Qr ?_ ?_);focus (first|with_reducible rfl|(simp only [Zz,Nat.reduceBEq];done)|rfl))|((with_reducible refine Qj (o':=?_) ?_ ?_ ?_);rotate_left 1;focus rfl)|((with_reducible refine Qw ?_ ?_);(focus (first|with_reducible rfl|(simp only [Zv];done)));focus (first|exact id|exact (fun h => nomatch h)|exact (fun _ => rfl)))))
   ·rintro m ⟨hm,hlb⟩
    rcases m with _|k
    ·have i1:((((0:Nat):Int) - 1) ≥ 0) = False:=eq_false (by omega)
     repeat' (first|with_reducible (first|refine Q1 ?_|refine Q2 ?_|refine Q3 ?_|refine Q4 ?_|refine Q5 ?_|refine Q6 ?_|refine Q7 ?_|refine Q8 ?_|refine Q9 ?_|refine Qa ?_|refine Qb ?_|refine Qc ?_|refine Qd ?_|refine Qe ?_|refine Qf ?_)|((with_reducible refine Qo ?_ ?_);focus rfl)|((with_reducible first|refine QT 13 (l:=?_) ?_ ?_|refine QF 13 (l:=?_) ?_ ?_);rotate_left 1;focus (simp only [Zu,Nat.reduceSub,Nat.reduceBEq];with_reducible rfl))|((with_reducible first|refine QS (cfg_ok 72) Tab.none (s':=?_) ?_ ?_|refine QC (b:=?_) ?_ ?_);rotate_left 1;focus ((with_reducible refine QW ?_);simp only [Zg,seval,if_true,if_false,reduceCtorEq,Nat.reduceEqDiff,i1];with_reducible rfl)))
     refine roundK.out 0 hlb ?_
     (repeat' (first|with_reducible refine Qn|((with_reducible refine Qr ?_ ?_);focus (first|with_reducible rfl|(simp only [Zz,Nat.reduceBEq];done)|rfl))|((with_reducible refine Qj (o':=?_) ?_ ?_ ?_);rotate_left 1;focus rfl)|((with_reducible refine Qw ?_ ?_);(focus (first|with_reducible rfl|(simp only [Zv];done)));focus (first|exact id|exact (fun h => nomatch h)|exact (fun _ => rfl)))))
    ·have hA:(((k + 1:Nat):Int) - 1) = (k:Int):=by omega
     have i1:((k:Int) ≥ 0) = True:=eq_true (by omega)
     have i2:((0:Int) ≤ (k:Int)) = True:=eq_true (by omega)
     have i5:((k:Int) < (n:Int)) = True:=eq_true (by have:k + 1 ≤ n:=hm;omega)
     have hk:=hget (k:=k) (by have:k + 1 ≤ n:=hm;omega)
     have hw:w64 ((k:Int) - 1) = (k:Int) - 1:=w64_eq (by omega)
     by_cases hle:t.getD k 0 ≤ 1
     ·have i3:(t.getD k 0 ≤ 1) = True:=eq_true hle
      repeat' (first|with_reducible (first|refine Q1 ?_|refine Q2 ?_|refine Q3 ?_|refine Q4 ?_|refine Q5 ?_|refine Q6 ?_|refine Q7 ?_|refine Q8 ?_|refine Q9 ?_|refine Qa ?_|refine Qb ?_|refine Qc ?_|refine Qd ?_|refine Qe ?_|refine Qf ?_)|((with_reducible refine Qo ?_ ?_);focus rfl)|((with_reducible first|refine QT 13 (l:=?_) ?_ ?_|refine QF 13 (l:=?_) ?_ ?_);rotate_left 1;focus (simp only [Zu,Nat.reduceSub,Nat.reduceBEq];with_reducible rfl))|((with_reducible first|refine QS (cfg_ok 72) Tab.none (s':=?_) ?_ ?_|refine QC (b:=?_) ?_ ?_);rotate_left 1;focus ((with_reducible refine QW ?_);simp only [Zg,seval,if_true,if_false,reduceCtorEq,Nat.reduceEqDiff,hA,i1,i2,i5,hk,i3,hw,htlI,Int.toNat_natCast];with_reducible rfl)))
      refine roundK.on k ⟨⟨by omega,?_⟩,by omega⟩ ?_
      ·rw [hlb]
       show (if t.getD k 0 ≤ 1 then lastBig t k else k + 1) = lastBig t k
       rw [if_pos hle]
      ·(repeat' (first|with_reducible refine Qn|((with_reducible refine Qr ?_ ?_);focus (first|with_reducible rfl|(simp only [Zz,Nat.reduceBEq];done)|rfl))|((with_reducible refine Qj (o':=?_) ?_ ?_ ?_);rotate_left 1;focus rfl)|((with_reducible refine Qw ?_ ?_);(focus (first|with_reducible rfl|(simp only [Zv];done)));focus (first|exact id|exact (fun h => nomatch h)|exact (fun _ => rfl)))))
     ·have i3:(t.getD k 0 ≤ 1) = False:=eq_false hle
      repeat' (first|with_reducible (first|refine Q1 ?_|refine Q2 ?_|refine Q3 ?_|refine Q4 ?_|refine Q5 ?_|refine Q6 ?_|refine Q7 ?_|refine Q8 ?_|refine Q9 ?_|refine Qa ?_|refine Qb ?_|refine Qc ?_|refine Qd ?_|refine Qe ?_|refine Qf ?_)|((with_reducible refine Qo ?_ ?_);focus rfl)|((with_reducible first|refine QT 13 (l:=?_) ?_ ?_|refine QF 13 (l:=?_) ?_ ?_);rotate_left 1;focus (simp only [Zu,Nat.reduceSub,Nat.reduceBEq];with_reducible rfl))|((with_reducible first|refine QS (cfg_ok 72) Tab.none (s':=?_) ?_ ?_|refine QC (b:=?_) ?_ ?_);rotate_left 1;focus ((with_reducible refine QW ?_);simp only [Zg,seval,if_true,if_false,reduceCtorEq,Nat.reduceEqDiff,hA,i1,i2,i5,hk,i3,hw,htlI,Int.toNat_natCast];with_reducible rfl)))
      refine roundK.out (k + 1) ?_ ?_
      ·rw [hlb]
       show (if t.getD k 0 ≤ 1 then lastBig t k else k + 1) = k + 1
       rw [if_neg hle]
      ·(repeat' (first|with_reducible refine Qn|((with_reducible refine Qr ?_ ?_);focus (first|with_reducible rfl|(simp only [Zz,Nat.reduceBEq,hA];done)|rfl))|((with_reducible refine Qj (o':=?_) ?_ ?_ ?_);rotate_left 1;focus rfl)|((with_reducible refine Qw ?_ ?_);(focus (first|with_reducible rfl|(simp only [Zv,hA];done)));focus (first|exact id|exact (fun h => nomatch h)|exact (fun _ => rfl)))))
   ·intro m hm
    have hm:lastBig t n = m:=hm
    rw [hm] at hstep
    rcases m with _|p
    ·have i1:((((0:Nat):Int) - 1) < 0) = True:=eq_true (by omega)
     repeat' (first|with_reducible (first|refine Q1 ?_|refine Q2 ?_|refine Q3 ?_|refine Q4 ?_|refine Q5 ?_|refine Q6 ?_|refine Q7 ?_|refine Q8 ?_|refine Q9 ?_|refine Qa ?_|refine Qb ?_|refine Qc ?_|refine Qd ?_|refine Qe ?_|refine Qf ?_)|((with_reducible refine Qo ?_ ?_);focus rfl)|((with_reducible first|refine QT 13 (l:=?_) ?_ ?_|refine QF 13 (l:=?_) ?_ ?_);rotate_left 1;focus (simp only [Zu,Nat.reduceSub,Nat.reduceBEq];with_reducible rfl))|((with_reducible first|refine QS (cfg_ok 72) Tab.none (s':=?_) ?_ ?_|refine QC (b:=?_) ?_ ?_);rotate_left 1;focus ((with_reducible refine QW ?_);simp only [Zg,seval,if_true,if_false,reduceCtorEq,Nat.reduceEqDiff,i1];with_reducible rfl)))
     have hnx:nextT t = none:=by unfold nextT;rw [htl,hm]
     have htr:treesN n = done ++ [t]:=by rw [h1];unfold treesF;rw [hnx]
     refine roundK.ret ?_
     repeat' (first|with_reducible (first|refine Q1 ?_|refine Q2 ?_|refine Q3 ?_|refine Q4 ?_|refine Q5 ?_|refine Q6 ?_|refine Q7 ?_|refine Q8 ?_|refine Q9 ?_|refine Qa ?_|refine Qb ?_|refine Qc ?_|refine Qd ?_|refine Qe ?_|refine Qf ?_)|((with_reducible refine Qo ?_ ?_);focus rfl)|((with_reducible first|refine QT 13 (l:=?_) ?_ ?_|refine QF 13 (l:=?_) ?_ ?_);rotate_left 1;focus (simp only [Zu,Nat.reduceSub,Nat.reduceBEq];with_reducible rfl))|((with_reducible first|refine QS (cfg_ok 72) Tab.none (s':=?_) ?_ ?_|refine QC (b:=?_) ?_ ?_);rotate_left 1;focus ((with_reducible refine QW ?_);simp only [Zg,seval,if_true,if_false,reduceCtorEq,Nat.reduceEqDiff];with_reducible rfl)))
     rw [htr]
     (refine Ends.mk (by simp) (rs:=?_) (ks:=?_) hres hrts ?_ ?_ ?_;rotate_left 2;(focus (simp only [Ze,Zg,seval,if_true,if_false,reduceCtorEq,Nat.reduceEqDiff,List.map_append,List.map_cons,List.map_nil,eL];with_reducible rfl));(focus simp);focus (first|with_reducible rfl|(simp only [Zv,List.map_append,List.map_cons,List.map_nil,eL];done)))
    ·have hA:(((p + 1:Nat):Int) - 1) = (p:Int):=by omega
     have i1:((p:Int) < 0) = False:=eq_false (by omega)
     obtain ⟨hpn,hq,hqv⟩:p < n∧lastEq t (t.getD p 0 - 1) p < p∧t.getD (lastEq t (t.getD p 0 - 1) p) 0 = t.getD p 0 - 1:=by simpa [and_assoc] using hstep
     generalize hqd:lastEq t (t.getD p 0 - 1) p = q at hq hqv
     have hwp:w64 ((p:Int) - 1) = (p:Int) - 1:=w64_eq (by omega)
     repeat' (first|with_reducible (first|refine Q1 ?_|refine Q2 ?_|refine Q3 ?_|refine Q4 ?_|refine Q5 ?_|refine Q6 ?_|refine Q7 ?_|refine Q8 ?_|refine Q9 ?_|refine Qa ?_|refine Qb ?_|refine Qc ?_|refine Qd ?_|refine Qe ?_|refine Qf ?_)|((with_reducible refine Qo ?_ ?_);focus rfl)|((with_reducible first|refine QT 13 (l:=?_) ?_ ?_|refine QF 13 (l:=?_) ?_ ?_);rotate_left 1;focus (simp only [Zu,Nat.reduceSub,Nat.reduceBEq];with_reducible rfl))|((with_reducible first|refine QS (cfg_ok 72) Tab.none (s':=?_) ?_ ?_|refine QC (b:=?_) ?_ ?_);rotate_left 1;focus ((with_reducible refine QW ?_);simp only [Zg,seval,if_true,if_false,reduceCtorEq,Nat.reduceEqDiff,hA,i1,hwp];with_reducible rfl)))
     have i2:((0:Int) ≤ (p:Int)) = True:=eq_true (by omega)
     have hp:=hget hpn
     have i5:((p:Int) < (n:Int)) = True:=eq_true (by omega)
     have hpb:=hbd hpn
     have hwl:w64 (t.getD p 0 - 1) = t.getD p 0 - 1:=w64_eq (by omega)
     refine RunK.loop (β:=Nat) (γ:=Unit) (fun j => ⟨[(0,.c (.val (.int n))),(3,.c (.own 3 n)),(4,.c (.own 4 (done.length + 1))),(6,.c (.val (.int p))),(7,.c (.val (.int ((j:Int) - 1))))],[(3,.row 1 (t.map eI) true),(4,.row 1 (done.map eL ++ [[.sl 1 (t.map eI)]]) true)]⟩)
      (fun j => j ≤ p∧lastEq t (t.getD p 0 - 1) j = q∧q < j) (fun j => j)
      (fun _ => ⟨[(0,.c (.val (.int n))),(3,.c (.own 3 n)),(4,.c (.own 4 (done.length + 1))),(6,.c (.val (.int p))),(7,.c (.val (.int q)))],[(3,.row 1 (t.map eI) true),(4,.row 1 (done.map eL ++ [[.sl 1 (t.map eI)]]) true)]⟩) (fun _ => True) p ⟨Nat.le_refl _,hqd,hq⟩ ?_ ?_ ?_
     ·(repeat' (first|with_reducible refine Qn|((with_reducible refine Qr ?_ ?_);focus (first|with_reducible rfl|(simp only [Zz,Nat.reduceBEq];done)|rfl))|((with_reducible refine Qj (o':=?_) ?_ ?_ ?_);rotate_left 1;focus rfl)|((with_reducible refine Qw ?_ ?_);(focus (first|with_reducible rfl|(simp only [Zv];done)));focus (first|exact id|exact (fun h => nomatch h)|exact (fun _ => rfl)))))
     ·rintro j ⟨hj,hje,hqj⟩
      rcases j with _|k
      ·exact absurd hqj (Nat.not_lt_zero _)
      ·have hA:(((k + 1:Nat):Int) - 1) = (k:Int):=by omega
       have hje:(if t.getD k 0 = t.getD p 0 - 1 then k else lastEq t (t.getD p 0 - 1) k) = q:=hje
       have hj:k + 1 ≤ p:=hj
       have hqj:q < k + 1:=hqj
       have i3:((0:Int) ≤ (k:Int)) = True:=eq_true (by omega)
       have hk:=hget (k:=k) (by omega)
       have i6:((k:Int) < (n:Int)) = True:=eq_true (by omega)
       have hw:w64 ((k:Int) - 1) = (k:Int) - 1:=w64_eq (by omega)
       by_cases heq:t.getD k 0 = t.getD p 0 - 1
       ·rw [if_pos heq] at hje
        have i4:(t.getD k 0 == t.getD p 0 - 1) = true:=beq_iff_eq.2 heq
        repeat' (first|with_reducible (first|refine Q1 ?_|refine Q2 ?_|refine Q3 ?_|refine Q4 ?_|refine Q5 ?_|refine Q6 ?_|refine Q7 ?_|refine Q8 ?_|refine Q9 ?_|refine Qa ?_|refine Qb ?_|refine Qc ?_|refine Qd ?_|refine Qe ?_|refine Qf ?_)|((with_reducible refine Qo ?_ ?_);focus rfl)|((with_reducible first|refine QT 13 (l:=?_) ?_ ?_|refine QF 13 (l:=?_) ?_ ?_);rotate_left 1;focus (simp only [Zu,Nat.reduceSub,Nat.reduceBEq];with_reducible rfl))|((with_reducible first|refine QS (cfg_ok 72) Tab.none (s':=?_) ?_ ?_|refine QC (b:=?_) ?_ ?_);rotate_left 1;focus ((with_reducible refine QW ?_);simp only [Zg,seval,if_true,if_false,reduceCtorEq,Nat.reduceEqDiff,hA,i2,i3,i5,i6,hk,hp,hwl,hw,htlI,heq,i4,Int.toNat_natCast];with_reducible rfl))|((with_reducible refine QD (cfg_ok 72) Tab.none mixed_ok (tr:=?_) (s':=?_) ?_ ?_ ?_);rotate_left 2;(focus ((with_reducible refine QW ?_);simp only [Zg,Zd,seval,if_true,if_false,reduceCtorEq,Nat.reduceEqDiff,hA,i2,i3,i5,i6,hk,hp,hwl,hw,htlI,heq,i4,Int.toNat_natCast];with_reducible rfl));focus ((with_reducible refine QK ?_);simp only [Zk];kernel_rfl)))
        refine roundK.out () trivial ?_
        (repeat' (first|with_reducible refine Qn|((with_reducible refine Qr ?_ ?_);focus (first|with_reducible rfl|(simp only [Zz,Nat.reduceBEq,hje];done)|rfl))|((with_reducible refine Qj (o':=?_) ?_ ?_ ?_);rotate_left 1;focus rfl)|((with_reducible refine Qw ?_ ?_);(focus (first|with_reducible rfl|(simp only [Zv,hje];done)));focus (first|exact id|exact (fun h => nomatch h)|exact (fun _ => rfl)))))
       ·rw [if_neg heq] at hje
        have i4:(t.getD k 0 != t.getD p 0 - 1) = true:=bne_iff_ne.2 heq
        repeat' (first|with_reducible (first|refine Q1 ?_|refine Q2 ?_|refine Q3 ?_|refine Q4 ?_|refine Q5 ?_|refine Q6 ?_|refine Q7 ?_|refine Q8 ?_|refine Q9 ?_|refine Qa ?_|refine Qb ?_|refine Qc ?_|refine Qd ?_|refine Qe ?_|refine Qf ?_)|((with_reducible refine Qo ?_ ?_);focus rfl)|((with_reducible first|refine QT 13 (l:=?_) ?_ ?_|refine QF 13 (l:=?_) ?_ ?_);rotate_left 1;focus (simp only [Zu,Nat.reduceSub,Nat.reduceBEq];with_reducible rfl))|((with_reducible first|refine QS (cfg_ok 72) Tab.none (s':=?_) ?_ ?_|refine QC (b:=?_) ?_ ?_);rotate_left 1;focus ((with_reducible refine QW ?_);simp only [Zg,seval,if_true,if_false,reduceCtorEq,Nat.reduceEqDiff,hA,i2,i3,i5,i6,hk,hp,hwl,hw,htlI,i4,Int.toNat_natCast];with_reducible rfl))|((with_reducible refine QD (cfg_ok 72) Tab.none mixed_ok (tr:=?_) (s':=?_) ?_ ?_ ?_);rotate_left 2;(focus ((with_reducible refine QW ?_);simp only [Zg,Zd,seval,if_true,if_false,reduceCtorEq,Nat.reduceEqDiff,hA,i2,i3,i5,i6,hk,hp,hwl,hw,htlI,i4,Int.toNat_natCast];with_reducible rfl));focus ((with_reducible refine QK ?_);simp only [Zk];kernel_rfl)))
        refine roundK.on k ⟨⟨by omega,hje,?_⟩,by omega⟩ ?_
        ·rcases Nat.lt_or_ge q k with h|h
         ·exact h
         ·obtain rfl:q = k:=by omega
          exact absurd hqv heq
        ·(repeat' (first|with_reducible refine Qn|((with_reducible refine Qr ?_ ?_);focus (first|with_reducible rfl|(simp only [Zz,Nat.reduceBEq];done)|rfl))|((with_reducible refine Qj (o':=?_) ?_ ?_ ?_);rotate_left 1;focus rfl)|((with_reducible refine Qw ?_ ?_);(focus (first|with_reducible rfl|(simp only [Zv];done)));focus (first|exact id|exact (fun h => nomatch h)|exact (fun _ => rfl)))))
     ·rintro _ _
      repeat' (first|with_reducible (first|refine Q1 ?_|refine Q2 ?_|refine Q3 ?_|refine Q4 ?_|refine Q5 ?_|refine Q6 ?_|refine Q7 ?_|refine Q8 ?_|refine Q9 ?_|refine Qa ?_|refine Qb ?_|refine Qc ?_|refine Qd ?_|refine Qe ?_|refine Qf ?_)|((with_reducible refine Qo ?_ ?_);focus rfl)|((with_reducible first|refine QT 13 (l:=?_) ?_ ?_|refine QF 13 (l:=?_) ?_ ?_);rotate_left 1;focus (simp only [Zu,Nat.reduceSub,Nat.reduceBEq];with_reducible rfl))|((with_reducible first|refine QS (cfg_ok 72) Tab.none (s':=?_) ?_ ?_|refine QC (b:=?_) ?_ ?_);rotate_left 1;focus ((with_reducible refine QW ?_);simp only [Zg,seval,if_true,if_false,reduceCtorEq,Nat.reduceEqDiff];with_reducible rfl)))
      refine RunK.loop (β:=Nat) (γ:=Unit) (fun k => ⟨[(0,.c (.val (.int n))),(3,.c (.own 3 n)),(4,.c (.own 4 (done.length + 1))),(6,.c (.val (.int p))),(7,.c (.val (.int q))),(8,.c (.val (.int (p + k:Nat))))],[(3,.row 1 ((copyFrom p q k t).map eI) true),(4,.row 1 (done.map eL ++ [[.sl 1 (t.map eI)]]) true)]⟩)
       (fun k => p + k ≤ n) (fun k => n - k)
       (fun _ => ⟨[(0,.c (.val (.int n))),(3,.c (.own 3 n)),(4,.c (.own 4 (done.length + 1)))],[(3,.row 1 ((copyFrom p q (n - p) t).map eI) true),(4,.row 1 (done.map eL ++ [[.sl 1 (t.map eI)]]) true)]⟩) (fun _ => True) 0 (Nat.le_of_lt hpn) ?_ ?_ ?_
      ·(repeat' (first|with_reducible refine Qn|((with_reducible refine Qr ?_ ?_);focus (first|with_reducible rfl|(simp only [Zz,Nat.reduceBEq,copyFrom];done)|rfl))|((with_reducible refine Qj (o':=?_) ?_ ?_ ?_);rotate_left 1;focus rfl)|((with_reducible refine Qw ?_ ?_);(focus (first|with_reducible rfl|(simp only [Zv,copyFrom];done)));focus (first|exact id|exact (fun h => nomatch h)|exact (fun _ => rfl)))))
      ·intro k hk
       have hk:p + k ≤ n:=hk
       have hcl':=copyFrom_len p q t k
       have hlI:((copyFrom p q k t).map eI).length = n:=by simp [hcl',htl]
       by_cases h:p + k < n
       ·have j1:(((p + k:Nat):Int) < (n:Int)) = True:=eq_true (by omega)
        have j2:w64 ((p:Int) - (q:Int)) = ((p - q:Nat):Int):=by rw [w64_eq (by omega)];omega
        have j3:w64 (((p + k:Nat):Int) - ((p - q:Nat):Int)) = ((p + k - (p - q):Nat):Int):=by rw [w64_eq (by omega)];omega
        have j4:((copyFrom p q k t).map eI)[p + k - (p - q)]? = some [.int ((copyFrom p q k t).getD (p + k - (p - q)) 0)]:=by
         rw [map_get (by omega)];simp [eI,List.getD_eq_getElem?_getD,List.getElem?_eq_getElem (show p + k - (p - q) < (copyFrom p q k t).length by omega)]
        have j5:((0:Int) ≤ ((p + k - (p - q):Nat):Int)) = True:=eq_true (by omega)
        have j6:((0:Int) ≤ ((p + k:Nat):Int)) = True:=eq_true (by omega)
        have j7:(((p + k - (p - q):Nat):Int) < (n:Int)) = True:=eq_true (by omega)
        have j9:((copyFrom p q k t).map eI)[p + k]? = some [.int ((copyFrom p q k t).getD (p + k) 0)]:=by
         rw [map_get (by omega)];simp [eI,List.getD_eq_getElem?_getD,List.getElem?_eq_getElem (show p + k < (copyFrom p q k t).length by omega)]
        have j8:w64 (((p + k:Nat):Int) + 1) = ((p + k + 1:Nat):Int):=w64_succ (n:=p + k) (by omega)
        repeat' (first|with_reducible (first|refine Q1 ?_|refine Q2 ?_|refine Q3 ?_|refine Q4 ?_|refine Q5 ?_|refine Q6 ?_|refine Q7 ?_|refine Q8 ?_|refine Q9 ?_|refine Qa ?_|refine Qb ?_|refine Qc ?_|refine Qd ?_|refine Qe ?_|refine Qf ?_)|((with_reducible refine Qo ?_ ?_);focus rfl)|((with_reducible first|refine QT 13 (l:=?_) ?_ ?_|refine QF 13 (l:=?_) ?_ ?_);rotate_left 1;focus (simp only [Zu,Nat.reduceSub,Nat.reduceBEq];with_reducible rfl))|((with_reducible first|refine QS (cfg_ok 72) Tab.none (s':=?_) ?_ ?_|refine QC (b:=?_) ?_ ?_);rotate_left 1;focus ((with_reducible refine QW ?_);simp only [Zg,seval,if_true,if_false,reduceCtorEq,Nat.reduceEqDiff,j1,j2,j3,j4,j5,j6,j7,j8,j9,hlI,Int.toNat_natCast];with_reducible rfl)))
        refine roundK.on (k + 1) ⟨by show p + (k + 1) ≤ n;omega,by omega⟩ ?_
        (repeat' (first|with_reducible refine Qn|((with_reducible refine Qr ?_ ?_);focus (first|with_reducible rfl|(simp only [Zz,Nat.reduceBEq,copyFrom,List.map_set,eI];done)|rfl))|((with_reducible refine Qj (o':=?_) ?_ ?_ ?_);rotate_left 1;focus rfl)|((with_reducible refine Qw ?_ ?_);(focus (first|with_reducible rfl|(simp only [Zv,copyFrom,List.map_set,eI];done)));focus (first|exact id|exact (fun h => nomatch h)|exact (fun _ => rfl)))))
       ·have j1:(((p + k:Nat):Int) < (n:Int)) = False:=eq_false (by omega)
        obtain rfl:k = n - p:=by omega
        repeat' (first|with_reducible (first|refine Q1 ?_|refine Q2 ?_|refine Q3 ?_|refine Q4 ?_|refine Q5 ?_|refine Q6 ?_|refine Q7 ?_|refine Q8 ?_|refine Q9 ?_|refine Qa ?_|refine Qb ?_|refine Qc ?_|refine Qd ?_|refine Qe ?_|refine Qf ?_)|((with_reducible refine Qo ?_ ?_);focus rfl)|((with_reducible first|refine QT 13 (l:=?_) ?_ ?_|refine QF 13 (l:=?_) ?_ ?_);rotate_left 1;focus (simp only [Zu,Nat.reduceSub,Nat.reduceBEq];with_reducible rfl))|((with_reducible first|refine QS (cfg_ok 72) Tab.none (s':=?_) ?_ ?_|refine QC (b:=?_) ?_ ?_);rotate_left 1;focus ((with_reducible refine QW ?_);simp only [Zg,seval,if_true,if_false,reduceCtorEq,Nat.reduceEqDiff,j1];with_reducible rfl)))
        refine roundK.out () trivial ?_
        (repeat' (first|with_reducible refine Qn|((with_reducible refine Qr ?_ ?_);focus (first|with_reducible rfl|(simp only [Zz,Nat.reduceBEq];done)|rfl))|((with_reducible refine Qj (o':=?_) ?_ ?_ ?_);rotate_left 1;focus rfl)|((with_reducible refine Qw ?_ ?_);(focus (first|with_reducible rfl|(simp only [Zv];done)));focus (first|exact id|exact (fun h => nomatch h)|exact (fun _ => rfl)))))
      ·rintro _ _
       repeat' (first|with_reducible (first|refine Q1 ?_|refine Q2 ?_|refine Q3 ?_|refine Q4 ?_|refine Q5 ?_|refine Q6 ?_|refine Q7 ?_|refine Q8 ?_|refine Q9 ?_|refine Qa ?_|refine Qb ?_|refine Qc ?_|refine Qd ?_|refine Qe ?_|refine Qf ?_)|((with_reducible refine Qo ?_ ?_);focus rfl)|((with_reducible first|refine QT 13 (l:=?_) ?_ ?_|refine QF 13 (l:=?_) ?_ ?_);rotate_left 1;focus (simp only [Zu,Nat.reduceSub,Nat.reduceBEq];with_reducible rfl))|((with_reducible first|refine QS (cfg_ok 72) Tab.none (s':=?_) ?_ ?_|refine QC (b:=?_) ?_ ?_);rotate_left 1;focus ((with_reducible refine QW ?_);simp only [Zg,seval,if_true,if_false,reduceCtorEq,Nat.reduceEqDiff];with_reducible rfl)))
       have hnx:nextT t = some (copyFrom p q (n - p) t):=by unfold nextT;rw [htl,hm];simp only [hqd]
       have htr:treesN n = (done ++ [t]) ++ treesF f (copyFrom p q (n - p) t):=by
        rw [h1,List.append_assoc]
        conv => lhs;unfold treesF
        rw [hnx];rfl
       refine roundK.on (f,done ++ [t],copyFrom p q (n - p) t) ⟨⟨htr,?_,?_⟩,Nat.lt_succ_self f⟩ ?_
       ·show (done ++ [t]).length + f = 120
        simp;omega
       ·show 0 < f
        omega
       ·(repeat' (first|with_reducible refine Qn|((with_reducible refine Qr ?_ ?_);focus (first|with_reducible rfl|(simp only [Zz,Nat.reduceBEq,List.map_append,List.map_cons,List.map_nil,eL,List.length_append,List.length_cons,List.length_nil];done)|rfl))|((with_reducible refine Qj (o':=?_) ?_ ?_ ?_);rotate_left 1;focus rfl)|((with_reducible refine Qw ?_ ?_);(focus (first|with_reducible rfl|(simp only [Zv,List.map_append,List.map_cons,List.map_nil,eL,List.length_append,List.length_cons,List.length_nil];done)));focus (first|exact id|exact (fun h => nomatch h)|exact (fun _ => rfl)))))
  ·rintro _ h
   exact h.elim
end Go.Proofs.YtfhmonacgmakbaaGreat
namespace Go.Proofs.YtfhmonacgmakbaaGreat
def mP (n:Int):Int:=n % 10007
section
variable {κ:Type} (c:κ→κ→Int)
def coef (L:List (Int × κ)) (x:κ):Int :=
 match L with
 | [] => 0
 | q :: L => (if c q.2 x = 0 then q.1 else 0) + coef L x
def NfS (L:List (Int × κ)):Prop:=L.Pairwise (fun p q => c p.2 q.2 < 0)∧∀ q ∈ L,1 ≤ q.1∧q.1 < 10007
end
section
variable {κ:Type} {c:κ→κ→Int} (hc:Cmp c)
theorem mP_small {n:Int} (h:0 ≤ n) (h':n < 10007):mP n = n:=Int.emod_eq_of_lt h h'
theorem mP_mP_add (a b:Int):mP (mP a + b) = mP (a + b):=by unfold mP;omega
theorem coef_cons (q:Int × κ) (L:List (Int × κ)) (x:κ):coef c (q :: L) x = (if c q.2 x = 0 then q.1 else 0) + coef c L x:=rfl
theorem coef_zero {L:List (Int × κ)} {x:κ} (h:∀ q ∈ L,c q.2 x ≠ 0):coef c L x = 0:=by
 induction L with
 | nil => rfl
 | cons q L ih => rw [coef_cons,if_neg (h q (by simp)),ih (fun p hp => h p (by simp [hp]))];rfl
include hc
theorem Cmp.eq_swap {a b:κ} (h:c a b = 0):c b a = 0:=by rw [hc.zero a b h];exact hc.refl b
theorem Cmp.lt_ne {a b:κ} (h:c a b < 0):c b a ≠ 0:=by
 intro e
 have:=hc.zero b a e
 subst this
 rw [hc.refl] at h;omega
theorem Cmp.lt_tr {a b d:κ} (h1:c a b < 0) (h2:c b d < 0):c a d < 0:=by
 rcases Int.lt_trichotomy (c a d) 0 with h|h|h
 ·exact h
 ·have:=hc.zero a d h
  subst this
  have:=(hc.anti a b).1 h1
  omega
 ·have:=hc.trans a b d (by omega) (by omega)
  omega
theorem NfS.ext:∀ {L M:List (Int × κ)},NfS c L→NfS c M→(∀ x,mP (coef c L x) = mP (coef c M x))→L = M
 | [],[],_,_,_ => rfl
 | [],(b,z) :: M,_,⟨h2,h3⟩,he => by
  exfalso
  rw [List.pairwise_cons] at h2
  have h0:coef c M z = 0:=coef_zero (fun q hq => hc.lt_ne (h2.1 q hq))
  have:=he z
  rw [coef_cons,if_pos (hc.refl z),h0] at this
  have hb:=h3 (b,z) (by simp)
  simp at hb
  simp [coef,mP] at this
  omega
 | (a,y) :: L,[],⟨h2,h3⟩,_,he => by
  exfalso
  rw [List.pairwise_cons] at h2
  have h0:coef c L y = 0:=coef_zero (fun q hq => hc.lt_ne (h2.1 q hq))
  have:=he y
  rw [coef_cons,if_pos (hc.refl y),h0] at this
  have hb:=h3 (a,y) (by simp)
  simp at hb
  simp [coef,mP] at this
  omega
 | (a,y) :: L,(b,z) :: M,⟨h1,h1'⟩,⟨h2,h2'⟩,he => by
  have w1:=h1;have w2:=h2
  rw [List.pairwise_cons] at h1 h2
  have ha:=h1' (a,y) (by simp)
  have hb:=h2' (b,z) (by simp)
  simp only at ha hb
  have hy0:coef c L y = 0:=coef_zero (fun q hq => hc.lt_ne (h1.1 q hq))
  have hz0:coef c M z = 0:=coef_zero (fun q hq => hc.lt_ne (h2.1 q hq))
  rcases Int.lt_trichotomy (c y z) 0 with h|h|h
  ·exfalso
   have h4:coef c ((b,z) :: M) y = 0:=coef_zero (fun q hq => by
    rcases List.mem_cons.1 hq with rfl|hq
    ·exact hc.lt_ne h
    ·exact hc.lt_ne (hc.lt_tr h (h2.1 q hq)))
   have:=he y
   rw [h4,coef_cons,if_pos (hc.refl y),hy0] at this
   simp [mP] at this
   omega
  ·obtain rfl:=hc.zero y z h
   have hab:a = b:=by
    have:=he y
    rw [coef_cons,coef_cons,if_pos (hc.refl y),if_pos (hc.refl y),hy0,hz0] at this
    simp [mP] at this
    omega
   subst hab
   have:=NfS.ext (L:=L) (M:=M) ⟨h1.2,fun q hq => h1' q (by simp [hq])⟩ ⟨h2.2,fun q hq => h2' q (by simp [hq])⟩ (fun x => by
    have:=he x
    rw [coef_cons,coef_cons] at this
    unfold mP at this ⊢
    omega)
   rw [this]
  ·exfalso
   have h:=(hc.anti z y).2 h
   have h4:coef c ((a,y) :: L) z = 0:=coef_zero (fun q hq => by
    rcases List.mem_cons.1 hq with rfl|hq
    ·exact hc.lt_ne h
    ·exact hc.lt_ne (hc.lt_tr h (h1.1 q hq)))
   have:=he z
   rw [h4,coef_cons,if_pos (hc.refl z),hz0] at this
   simp [mP] at this
   omega
omit hc
include hc
end
end Go.Proofs.YtfhmonacgmakbaaGreat
namespace Go.Proofs.YtfhmonacgmakbaaGreat
def thenC {α:Type} (f:α→Int) (c:α→α→Int) (a b:α):Int:=if f a = f b then c a b else f a - f b
def lexC {α:Type} (c:α→α→Int):List α→List α→Int
 | [],[] => 0
 | [],_ :: _ => -1
 | _ :: _,[] => 1
 | a :: xs,b :: bs => if c a b = 0 then lexC c xs bs else c a b
theorem thenC_cmp {α:Type} {f:α→Int} {c:α→α→Int} (h:Cmp c):Cmp (thenC f c) where
 zero a b e:=by
  unfold thenC at e
  split at e
  ·exact h.zero a b e
  ·omega
 refl a:=by unfold thenC;rw [if_pos rfl];exact h.refl a
 anti a b:=by
  unfold thenC
  by_cases e:f a = f b
  ·rw [if_pos e,if_pos e.symm];exact h.anti a b
  ·rw [if_neg e,if_neg (fun k => e k.symm)];omega
 trans a b d h1 h2:=by
  unfold thenC at h1 h2 ⊢
  split at h1 <;> split at h2 <;> split <;> first|omega|(exact h.trans a b d h1 h2)
theorem Cmp.sym0 {α:Type} {c:α→α→Int} (h:Cmp c) {a b:α} (e:c a b = 0):c b a = 0:=by rw [h.zero a b e];exact h.refl b
theorem lexC_cmp {α:Type} {c:α→α→Int} (h:Cmp c):Cmp (lexC c) where
 zero:=by
  intro a
  induction a with
  | nil => intro b e;cases b with
   | nil => rfl
   | cons y bs => simp [lexC] at e
  | cons x xs ih => intro b e;cases b with
   | nil => simp [lexC] at e
   | cons y bs =>
    unfold lexC at e
    split at e
    ·rename_i h1;rw [h.zero x y h1,ih bs e]
    ·rename_i h1;exact absurd e h1
 refl:=by
  intro a
  induction a with
  | nil => rfl
  | cons x xs ih => unfold lexC;rw [if_pos (h.refl x)];exact ih
 anti:=by
  intro a
  induction a with
  | nil => intro b;cases b <;> simp [lexC]
  | cons x xs ih => intro b;cases b with
   | nil => simp [lexC]
   | cons y bs =>
    unfold lexC
    by_cases e:c x y = 0
    ·rw [if_pos e,if_pos (h.sym0 e)];exact ih bs
    ·rw [if_neg e,if_neg (fun k => e (h.sym0 k))];exact h.anti x y
 trans:=by
  intro a
  induction a with
  | nil => intro b d _ h2;cases d with
   | nil => simp [lexC]
   | cons z ds => simp [lexC]
  | cons x xs ih => intro b d h1 h2;cases b with
   | nil => simp [lexC] at h1
   | cons y bs => cases d with
    | nil => simp [lexC] at h2
    | cons z ds =>
     unfold lexC at h1 h2 ⊢
     have l1:c x y ≤ 0:=by split at h1 <;> omega
     have l2:c y z ≤ 0:=by split at h2 <;> omega
     have l3:=h.trans x y z l1 l2
     by_cases e:c x z = 0
     ·rw [if_pos e]
      obtain rfl:=h.zero x z e
      have e1:c x y = 0:=by
       rcases Int.lt_trichotomy (c x y) 0 with k|k|k
       ·have:=(h.anti x y).1 k;omega
       ·exact k
       ·omega
      rw [if_pos e1] at h1
      rw [if_pos (h.sym0 e1)] at h2
      exact ih bs ds h1 h2
     ·rw [if_neg e];exact l3
def cmpF:List (List Int)→List (List Int)→Int:=thenC (fun f => (sumLen f:Int)) (thenC (fun f => (f.length:Int)) (lexC cmpT))
theorem cmpF_cmp:Cmp cmpF:=thenC_cmp (thenC_cmp (lexC_cmp cmpT_cmp))
def sgn (n:Int):Int:=if n < 0 then -1 else if n = 0 then 0 else 1
end Go.Proofs.YtfhmonacgmakbaaGreat
namespace Go.Proofs.YtfhmonacgmakbaaGreat
section
variable {α:Type} {c:α→α→Int} (hc:Cmp c)
include hc
end
def mulF (f g:List (List Int)):List (List Int):=sortC cmpT (f ++ g)
theorem mulF_len (f g:List (List Int)):(mulF f g).length = f.length + g.length:=by unfold mulF;rw [sortC_length,List.length_append]
theorem mulF_sum (f g:List (List Int)):sumLen (mulF f g) = sumLen f + sumLen g:=by
 unfold mulF;rw [sumLen_perm (sortC_perm _)];simp [sumLen]
def cmpN:List (List Int)→List (List Int)→Int:=thenC (fun f => (f.length:Int)) (lexC cmpT)
theorem cmpN_eq (f g:List (List Int)):cmpN f g = if (f.length:Int) = g.length then lexC cmpT f g else (f.length:Int) - g.length:=rfl
theorem cmpF_N (f g:List (List Int)):cmpF f g = if (sumLen f:Int) = sumLen g then cmpN f g else (sumLen f:Int) - sumLen g:=rfl
end Go.Proofs.YtfhmonacgmakbaaGreat
namespace Go.Proofs.YtfhmonacgmakbaaGreat
def canT (t:List Int):Bool:=lev8 t && decide (canon t = t)
theorem all_range {n:Nat} {p:Nat→Bool}:(List.range n).all p = true ↔ ∀ i < n,p i = true:=by
 rw [List.all_eq_true]
 exact ⟨fun h i hi => h i (List.mem_range.2 hi),fun h i hi => h i (List.mem_range.1 hi)⟩
theorem adj_pairwise {α:Type} {r:α→α→Prop} (ht:∀ a b d,r a b→r b d→r a d):∀ {l:List α},(∀ i (h:i + 1 < l.length),r l[i] l[i + 1])→l.Pairwise r
 | [],_ => List.Pairwise.nil
 | [a],_ => List.pairwise_singleton _ _
 | a :: b :: l,h => by
  have ih:=adj_pairwise ht (l:=b :: l) (fun i hi => h (i + 1) (by simp at hi ⊢;omega))
  refine List.pairwise_cons.2 ⟨fun x hx => ?_,ih⟩
  have h0:r a b:=h 0 (by simp)
  rcases List.mem_cons.1 hx with rfl|hx
  ·exact h0
  ·exact ht a b x h0 ((List.pairwise_cons.1 ih).1 x hx)
theorem getD_at {α:Type} {l:List α} {d:α} {i:Nat} (h:i < l.length):l.getD i d = l[i]:=by
 rw [List.getD_eq_getElem?_getD,List.getElem?_eq_getElem h];rfl
end Go.Proofs.YtfhmonacgmakbaaGreat
namespace Go.Proofs.YtfhmonacgmakbaaGreat
open Go.RowKit
end Go.Proofs.YtfhmonacgmakbaaGreat
namespace Go.Proofs.YtfhmonacgmakbaaGreat
def allTo (n:Nat):List (List Int):=(List.range n).flatMap fun k => treesN (k + 1)
theorem allTo_succ (n:Nat):allTo (n + 1) = allTo n ++ treesN (n + 1):=by unfold allTo;rw [List.range_succ,List.flatMap_append];simp
theorem allTo_len:(allTo 8).length = 200:=by decide +kernel
theorem allTo_pre:∀ (d k:Nat),∃ r,allTo (d + k) = allTo d ++ r
 | d,0 => ⟨[],by simp⟩
 | d,k + 1 => by
  obtain ⟨r,e⟩:=allTo_pre d k
  exact ⟨r ++ treesN (d + k + 1),by rw [← Nat.add_assoc,allTo_succ,e,List.append_assoc]⟩
theorem allTo_rise:(List.range 199).all (fun i => decide (cmpT ((allTo 8).getD i []) ((allTo 8).getD (i + 1) []) < 0)) = true:=by decide +kernel
theorem trees_all:lists8.all (fun t => !decide (canon t = t) || (treesN t.length).contains t) = true:=by decide +kernel
theorem canT_mem {t:List Int} (h:canT t = true) {d:Nat} (hd:t.length ≤ d):t ∈ allTo d:=by
 unfold canT at h
 rw [Bool.and_eq_true] at h
 have h1:=lev8_all trees_all h.1
 rw [h.2] at h1
 have h2:t ∈ treesN t.length:=by simpa using h1
 have hp:0 < t.length:=(lev8_lev h.1).pos
 unfold allTo
 rw [List.mem_flatMap]
 exact ⟨t.length - 1,List.mem_range.2 (by omega),by rw [Nat.sub_add_cancel hp];exact h2⟩
def posT (t:List Int):Nat:=(allTo 8).idxOf t
theorem allTo_pair:(allTo 8).Pairwise fun a b => cmpT a b < 0:=by
 refine adj_pairwise (r:=fun a b => cmpT a b < 0) (fun a b d h1 h2 => cmpT_cmp.lt_tr h1 h2) (fun i hi => ?_)
 rw [allTo_len] at hi
 have:=all_range.1 allTo_rise i (by omega)
 rw [getD_at (by rw [allTo_len];omega),getD_at (by rw [allTo_len];omega)] at this
 exact of_decide_eq_true this
theorem pos_at {t:List Int} (h:canT t = true) {d:Nat} (hd:t.length ≤ d) (hd8:d ≤ 8):∃ hi:posT t < (allTo d).length,(allTo d)[posT t] = t∧(∀ k (hk:k < (allTo d).length),k < posT t→cmpT (allTo d)[k] t < 0)∧∀ k (hk:k < (allTo d).length),posT t ≤ k→0 ≤ cmpT (allTo d)[k] t:=by
 obtain ⟨r,e⟩:=allTo_pre d (8 - d)
 rw [Nat.add_sub_cancel' hd8] at e
 have hm:=canT_mem h hd
 have hp:posT t = (allTo d).idxOf t:=by
  unfold posT
  rw [e,List.idxOf_append,if_pos hm]
 have hi:posT t < (allTo d).length:=by rw [hp];exact List.idxOf_lt_length_of_mem hm
 have ht:(allTo d)[posT t] = t:=by
  have:(allTo d)[(allTo d).idxOf t]'(by rw [← hp];exact hi) = t:=List.getElem_idxOf _
  simp [hp]
 have hpw:(allTo d).Pairwise fun a b => cmpT a b < 0:=by
  have:=allTo_pair
  rw [e] at this
  exact (List.pairwise_append.1 this).1
 rw [List.pairwise_iff_getElem] at hpw
 refine ⟨hi,ht,fun k hk hlt => ?_,fun k hk hle => ?_⟩
 ·have:=hpw k (posT t) hk hi hlt
  rwa [ht] at this
 ·by_cases hq:k = posT t
  ·subst hq
   rw [ht,cmpT_cmp.refl]
   exact Int.le_refl _
  ·have:=hpw (posT t) k hi hk (by omega)
   rw [ht] at this
   have:=(cmpT_cmp.anti t (allTo d)[k]).1 this
   omega
theorem mP_bd (n:Int):0 ≤ mP n∧mP n < 10007:=by unfold mP;omega
end Go.Proofs.YtfhmonacgmakbaaGreat
namespace Go.Proofs.YtfhmonacgmakbaaGreat
section
variable {κ:Type} (c:κ→κ→Int)
def putN:List (κ × Int)→Int→κ→List (κ × Int)
 | [],k,x => [(x,k)]
 | p :: L,k,x => if c x p.1 < 0 then (x,k) :: p :: L else if c x p.1 = 0 then (p.1,p.2 + k) :: L else p :: putN L k x
def expN (L:List (κ × Int)):List κ:=L.flatMap fun p => List.replicate p.2.toNat p.1
def NfN (L:List (κ × Int)):Prop:=L.Pairwise (fun p q => c p.1 q.1 < 0)∧∀ q ∈ L,1 ≤ q.2
def IsN (L:List (κ × Int)) (M:List κ):Prop:=NfN c L∧(expN L).Perm M
end
section
variable {κ:Type} {c:κ→κ→Int}
theorem expN_cons (p:κ × Int) (L:List (κ × Int)):expN (p :: L) = List.replicate p.2.toNat p.1 ++ expN L:=rfl
theorem expN_app (L M:List (κ × Int)):expN (L ++ M) = expN L ++ expN M:=by simp [expN]
theorem expN_mem {L:List (κ × Int)} {x:κ} (h:x ∈ expN L):∃ p ∈ L,p.1 = x:=by
 obtain ⟨p,hp,h⟩:=List.mem_flatMap.1 h
 exact ⟨p,hp,(List.eq_of_mem_replicate h).symm⟩
theorem mem_expN {L:List (κ × Int)} {p:κ × Int} (h:p ∈ L) (h1:1 ≤ p.2):p.1 ∈ expN L :=
 List.mem_flatMap.2 ⟨p,h,List.mem_replicate.2 ⟨by omega,rfl⟩⟩
theorem NfN.nil:NfN c []:=⟨List.Pairwise.nil,fun q hq => nomatch hq⟩
theorem IsN.nil:IsN c [] []:=⟨NfN.nil,List.Perm.refl _⟩
theorem IsN.perm {L:List (κ × Int)} {M M':List κ} (h:IsN c L M) (hp:M.Perm M'):IsN c L M':=⟨h.1,h.2.trans hp⟩
theorem NfN.tail {p:κ × Int} {L:List (κ × Int)} (h:NfN c (p :: L)):NfN c L:=⟨(List.pairwise_cons.1 h.1).2,fun q hq => h.2 q (List.mem_cons_of_mem _ hq)⟩
variable (hc:Cmp c)
include hc
theorem NfN.ext:∀ {L L':List (κ × Int)},NfN c L→NfN c L'→(expN L).Perm (expN L')→L = L'
 | [],[],_,_,_ => rfl
 | [],q :: L',_,h',hp => by
  have:=hp.length_eq
  have h1:=h'.2 q (by simp)
  rw [expN_cons,List.length_append,List.length_replicate] at this
  simp [expN] at this;omega
 | p :: L,[],h,_,hp => by
  have:=hp.length_eq
  have h1:=h.2 p (by simp)
  rw [expN_cons,List.length_append,List.length_replicate] at this
  simp [expN] at this;omega
 | p :: L,q :: L',h,h',hp => by
  have hp1:=h.2 p (by simp)
  have hq1:=h'.2 q (by simp)
  have low:∀ {p:κ × Int} {L:List (κ × Int)},NfN c (p :: L)→∀ x ∈ expN (p :: L),c p.1 x ≤ 0:=fun {p L} h x hx => by
   obtain ⟨r,hr,rfl⟩:=expN_mem hx
   rcases List.mem_cons.1 hr with rfl|hr
   ·rw [hc.refl];omega
   ·have:=(List.pairwise_cons.1 h.1).1 r hr;omega
  have e1:=low h q.1 (hp.mem_iff.2 (mem_expN (by simp) hq1))
  have e2:=low h' p.1 (hp.mem_iff.1 (mem_expN (by simp) hp1))
  have ek:p.1 = q.1:=by
   apply hc.zero
   rcases Int.lt_or_eq_of_le e1 with e|e
   ·have:=(hc.anti _ _).1 e;omega
   ·exact e
  have no:∀ {p:κ × Int} {L:List (κ × Int)},NfN c (p :: L)→p.1 ∉ expN L:=fun {p L} h hx => by
   obtain ⟨r,hr,e⟩:=expN_mem hx
   have:=(List.pairwise_cons.1 h.1).1 r hr
   rw [e,hc.refl] at this;omega
  have hcnt:∀ {p:κ × Int} {L:List (κ × Int)},NfN c (p :: L)→(expN (p :: L)).countP (fun x => decide (c p.1 x = 0)) = p.2.toNat:=fun {p L} h => by
   rw [expN_cons,List.countP_append,List.countP_replicate,if_pos (by simp [hc.refl])]
   have:(expN L).countP (fun x => decide (c p.1 x = 0)) = 0:=List.countP_eq_zero.2 fun x hx => by
    have:c p.1 x ≠ 0:=fun e => no h (by rw [hc.zero _ _ e];exact hx)
    simpa using this
   omega
  have c1:=hcnt h
  have c2:=hcnt h'
  rw [← ek,← hp.countP_eq] at c2
  have en:p.2 = q.2:=by omega
  have epq:p = q:=Prod.ext ek en
  subst epq
  rw [expN_cons,expN_cons,List.perm_append_left_iff] at hp
  rw [NfN.ext h.tail h'.tail hp]
theorem IsN.ext {L L':List (κ × Int)} {M M':List κ} (h:IsN c L M) (h':IsN c L' M') (hp:M.Perm M'):L = L' :=
 NfN.ext hc h.1 h'.1 (h.2.trans (hp.trans h'.2.symm))
theorem putN_exp:∀ (L:List (κ × Int)) (k:Int) (x:κ),(∀ q ∈ L,1 ≤ q.2)→1 ≤ k→(expN (putN c L k x)).Perm (expN L ++ List.replicate k.toNat x)
 | [],k,x,_,_ => by simp [putN,expN]
 | p :: L,k,x,h,hk => by
  unfold putN
  split
  ·rw [expN_cons];exact List.perm_append_comm
  ·split
   ·rename_i e
    rw [expN_cons,expN_cons,hc.zero _ _ e]
    have:=h p (by simp)
    show (List.replicate (p.2 + k).toNat p.1 ++ expN L).Perm _
    rw [show (p.2 + k).toNat = p.2.toNat + k.toNat by omega,← List.replicate_append_replicate,List.append_assoc,List.append_assoc]
    exact (List.perm_append_left_iff _).2 List.perm_append_comm
   ·rw [expN_cons,expN_cons,List.append_assoc]
    exact (List.perm_append_left_iff _).2 (putN_exp L k x (fun q hq => h q (by simp [hq])) hk)
omit hc in
theorem putN_mem:∀ (L:List (κ × Int)) (k:Int) (x:κ) {q:κ × Int},q ∈ putN c L k x→q.1 = x ∨ ∃ p ∈ L,p.1 = q.1
 | [],k,x,q,h => by
  obtain rfl:q = (x,k):=by simpa [putN] using h
  exact .inl rfl
 | p :: L,k,x,q,h => by
  unfold putN at h
  split at h
  ·rcases List.mem_cons.1 h with rfl|h
   ·exact .inl rfl
   ·exact .inr ⟨q,h,rfl⟩
  ·split at h
   ·rcases List.mem_cons.1 h with rfl|h
    ·exact .inr ⟨p,by simp,rfl⟩
    ·exact .inr ⟨q,by simp [h],rfl⟩
   ·rcases List.mem_cons.1 h with rfl|h
    ·exact .inr ⟨q,by simp,rfl⟩
    ·rcases putN_mem L k x h with h|⟨r,h1,h2⟩
     ·exact .inl h
     ·exact .inr ⟨r,by simp [h1],h2⟩
theorem putN_nf:∀ {L:List (κ × Int)} {k:Int} {x:κ},NfN c L→1 ≤ k→NfN c (putN c L k x)
 | [],k,x,_,hk => ⟨by simp [putN],fun q hq => by
   have:q = (x,k):=by simpa [putN] using hq
   rw [this];exact hk⟩
 | p :: L,k,x,h,hk => by
  have h1:=List.pairwise_cons.1 h.1
  have h2:=h.2 p (by simp)
  unfold putN
  split
  ·rename_i hlt
   refine ⟨List.pairwise_cons.2 ⟨fun q hq => ?_,h.1⟩,fun q hq => ?_⟩
   ·rcases List.mem_cons.1 hq with rfl|hq
    ·exact hlt
    ·exact hc.lt_tr hlt (h1.1 q hq)
   ·rcases List.mem_cons.1 hq with rfl|hq
    ·exact hk
    ·exact h.2 q hq
  ·split
   ·refine ⟨List.pairwise_cons.2 ⟨h1.1,h1.2⟩,fun q hq => ?_⟩
    rcases List.mem_cons.1 hq with rfl|hq
    ·show 1 ≤ p.2 + k;omega
    ·exact h.2 q (by simp [hq])
   ·rename_i n1 n2
    have ih:=putN_nf (x:=x) h.tail hk
    refine ⟨List.pairwise_cons.2 ⟨fun q hq => ?_,ih.1⟩,fun q hq => ?_⟩
    ·rcases putN_mem L k x hq with e|⟨r,hr,e⟩
     ·rw [e,hc.anti];omega
     ·rw [← e];exact h1.1 r hr
    ·rcases List.mem_cons.1 hq with rfl|hq
     ·exact h2
     ·exact ih.2 q hq
theorem IsN.put {L:List (κ × Int)} {M:List κ} (h:IsN c L M) {k:Int} {x:κ} (hk:1 ≤ k):IsN c (putN c L k x) (M ++ List.replicate k.toNat x) :=
 ⟨putN_nf hc h.1 hk,(putN_exp hc L k x h.1.2 hk).trans ((List.perm_append_right_iff _).2 h.2)⟩
theorem IsN.puts:∀ (P:List (κ × Int)) {L:List (κ × Int)} {M:List κ},IsN c L M→(∀ p ∈ P,1 ≤ p.2)→IsN c (P.foldl (fun s p => putN c s p.2 p.1) L) (M ++ expN P)
 | [],L,M,h,_ => by simpa [expN] using h
 | p :: P,L,M,h,hp => by
  have:=IsN.puts P (h.put hc (hp p (by simp)) (x:=p.1)) (fun q hq => hp q (by simp [hq]))
  rw [expN_cons,← List.append_assoc]
  exact this
omit hc in
theorem rep_flat {β γ:Type} (n:Nat) (L:List β) (f:β→List γ):((List.replicate n L).flatten.flatMap f).Perm (L.flatMap fun b => (List.replicate n (f b)).flatten):=by
 induction L with
 | nil => simp
 | cons b L ih =>
  have key:∀ n,((List.replicate n (b :: L)).flatten.flatMap f).Perm ((List.replicate n (f b)).flatten ++ (List.replicate n L).flatten.flatMap f):=by
   intro n
   induction n with
   | zero => simp
   | succ n ih2 =>
    rw [List.replicate_succ,List.flatten_cons,List.flatMap_append,List.flatMap_cons,List.replicate_succ,List.flatten_cons,List.replicate_succ,List.flatten_cons,List.flatMap_append]
    refine ((List.perm_append_left_iff _).2 ih2).trans ?_
    rw [List.append_assoc,List.append_assoc]
    refine (List.perm_append_left_iff _).2 ?_
    rw [← List.append_assoc,← List.append_assoc]
    exact (List.perm_append_right_iff _).2 List.perm_append_comm
  refine (key n).trans ?_
  rw [List.flatMap_cons]
  exact (List.perm_append_left_iff _).2 ih
omit hc in
theorem rep_map {β γ:Type} (n m:Nat) (a:β) (f:β→γ):(List.replicate n (List.replicate m (f a))).flatten = List.replicate (n * m) (f a):=by
 induction n with
 | zero => simp
 | succ n ih => rw [List.replicate_succ,List.flatten_cons,ih,Nat.succ_mul,Nat.add_comm (n * m),List.replicate_append_replicate]
omit hc in
theorem exp_prod {α β:Type} (f:α→β→κ) (B:List (β × Int)) (hB:∀ q ∈ B,1 ≤ q.2):∀ (A:List (α × Int)),(∀ p ∈ A,1 ≤ p.2) →
  (expN (A.flatMap fun a => B.map fun b => (f a.1 b.1,a.2 * b.2))).Perm ((expN A).flatMap fun a => (expN B).map (f a))
 | [],_ => by simp [expN]
 | a :: A,hA => by
  have ih:=exp_prod f B hB A (fun p hp => hA p (by simp [hp]))
  have ha:=hA a (by simp)
  rw [List.flatMap_cons,expN_app,expN_cons,List.flatMap_append]
  refine List.Perm.append ?_ ih
  have e1:(List.replicate a.2.toNat a.1).flatMap (fun x => (expN B).map (f x)) = ((List.replicate a.2.toNat (expN B)).flatten).flatMap (fun b => [f a.1 b]):=by
   rw [List.flatMap_replicate]
   generalize a.2.toNat = n
   induction n with
   | zero => simp
   | succ n ih => rw [List.replicate_succ,List.flatten_cons,List.replicate_succ,List.flatten_cons,List.flatMap_append,← ih];congr 1;simp [List.map_eq_flatMap]
  rw [e1]
  refine List.Perm.symm ((rep_flat _ _ _).trans ?_)
  clear ih e1
  have e2:∀ (B:List (β × Int)),(∀ q ∈ B,1 ≤ q.2)→((expN B).flatMap fun b => (List.replicate a.2.toNat [f a.1 b]).flatten) = expN (B.map fun b => (f a.1 b.1,a.2 * b.2)):=by
   intro B
   induction B with
   | nil => intro _;rfl
   | cons b B ih =>
    intro hB
    rw [expN_cons,List.flatMap_append,ih (fun q hq => hB q (by simp [hq])),List.map_cons,expN_cons]
    congr 1
    have hb:=hB b (by simp)
    rw [List.flatMap_replicate]
    have:(List.replicate a.2.toNat [f a.1 b.1]).flatten = List.replicate a.2.toNat (f a.1 b.1):=by simp
    rw [this,rep_map (a:=b.1) (f:=fun y => f a.1 y)]
    congr 1
    rw [Int.toNat_mul (by omega) (by omega),Nat.mul_comm]
  rw [e2 B hB]
omit hc in
theorem flat_left {α β:Type} {f g:α→List β}:∀ (l:List α),(∀ a ∈ l,(f a).Perm (g a))→(l.flatMap f).Perm (l.flatMap g)
 | [],_ => .refl _
 | a :: l,h => by
  rw [List.flatMap_cons,List.flatMap_cons]
  exact (h a (by simp)).append (flat_left l fun b hb => h b (by simp [hb]))
omit hc in
theorem perm_prod {α β γ:Type} {A A':List α} {B B':List β} (f:α→β→γ) (h1:A.Perm A') (h2:B.Perm B'):(A.flatMap fun a => B.map (f a)).Perm (A'.flatMap fun a => B'.map (f a)) :=
 (h1.flatMap_right _).trans (flat_left _ fun a _ => h2.map (f a))
def timesN {κ:Type} (c:κ→κ→Int) (f:κ→κ→κ) (A B:List (κ × Int)):List (κ × Int) :=
 (A.flatMap fun a => B.map fun b => (f a.1 b.1,a.2 * b.2)).foldl (fun s p => putN c s p.2 p.1) []
theorem IsN.times (f:κ→κ→κ) {A B:List (κ × Int)} {M N:List κ} (hA:IsN c A M) (hB:IsN c B N):IsN c (timesN c f A B) (M.flatMap fun a => N.map (f a)):=by
 have h:=IsN.puts hc (A.flatMap fun a => B.map fun b => (f a.1 b.1,a.2 * b.2)) (IsN.nil (c:=c)) (fun p hp => by
  obtain ⟨a,ha,hp⟩:=List.mem_flatMap.1 hp
  obtain ⟨b,hb,rfl⟩:=List.mem_map.1 hp
  have h1:=hA.1.2 a ha
  have h2:=hB.1.2 b hb
  exact Int.mul_pos h1 h2)
 rw [List.nil_append] at h
 exact h.perm ((exp_prod f B hB.1.2 A hA.1.2).trans (perm_prod f hA.2 hB.2))
omit hc
theorem putN_skip {k:Int} {x:κ} (M:List (κ × Int)):∀ {L:List (κ × Int)},(∀ q ∈ L,0 < c x q.1)→putN c (L ++ M) k x = L ++ putN c M k x
 | [],_ => rfl
 | p :: L,h => by
  have h1:=h p (by simp)
  rw [List.cons_append]
  conv => lhs;unfold putN
  rw [if_neg (by omega),if_neg (by omega),putN_skip M (fun q hq => h q (by simp [hq]))]
  rfl
theorem IsN.cnt {L:List (κ × Int)} {M:List κ} (h:IsN c L M):∀ p ∈ L,1 ≤ p.2∧p.2 ≤ M.length:=fun p hp => by
 have h1:=h.1.2 p hp
 refine ⟨h1,?_⟩
 have hl:=h.2.length_eq
 obtain ⟨s,t,rfl⟩:=List.append_of_mem hp
 rw [expN_app,expN_cons,List.length_append,List.length_append,List.length_replicate] at hl
 omega
theorem IsN.len {L:List (κ × Int)} {M:List κ} (h:IsN c L M):L.length ≤ M.length:=by
 rw [← h.2.length_eq]
 have key:∀ (L:List (κ × Int)),(∀ p ∈ L,1 ≤ p.2)→L.length ≤ (expN L).length:=by
  intro L
  induction L with
  | nil => intro _;exact Nat.le_refl _
  | cons p L ih =>
   intro hp
   have h1:=hp p (by simp)
   have h2:=ih (fun q hq => hp q (by simp [hq]))
   rw [expN_cons,List.length_append,List.length_replicate,List.length_cons];omega
 exact key L h.1.2
theorem IsN.key {L:List (κ × Int)} {M:List κ} (h:IsN c L M):∀ p ∈ L,p.1 ∈ M:=fun p hp => h.2.mem_iff.1 (mem_expN hp (h.1.2 p hp))
def stepN (c:κ→κ→Int) (out:List (κ × Int)) (x:κ):List (κ × Int):=match out.getLast? with
 | some p => if c p.1 x = 0 then out.dropLast ++ [(p.1,p.2 + 1)] else out ++ [(x,1)]
 | none => [(x,1)]
def runsN (c:κ→κ→Int) (M:List κ):List (κ × Int):=M.foldl (stepN c) []
theorem stepN_eq {c:κ→κ→Int} (out:List (κ × Int)) (p:κ × Int) (x:κ) (h:c p.1 x = 0):stepN c (out ++ [p]) x = out ++ [(p.1,p.2 + 1)]:=by simp [stepN,h]
theorem stepN_ne {c:κ→κ→Int} (out:List (κ × Int)) (p:κ × Int) (x:κ) (h:¬ c p.1 x = 0):stepN c (out ++ [p]) x = out ++ [p] ++ [(x,1)]:=by simp [stepN,h]
theorem runsN_snoc (c:κ→κ→Int) (M:List κ) (x:κ):runsN c (M ++ [x]) = stepN c (runsN c M) x:=by unfold runsN;rw [List.foldl_append];rfl
theorem snocN {α:Type} {l:List α} (h:l ≠ []):∃ p z,l = p ++ [z]:=⟨l.dropLast,l.getLast h,(List.dropLast_concat_getLast h).symm⟩
include hc
theorem runsN_is:∀ (n:Nat) (M:List κ),M.length = n→M.Pairwise (fun a b => c a b ≤ 0)→IsN c (runsN c M) M
 | 0,M,hn,_ => by
  obtain rfl:=List.eq_nil_of_length_eq_zero hn
  exact IsN.nil
 | n + 1,M,hn,hM => by
  obtain ⟨M,x,rfl⟩:=snocN (l:=M) (by rintro rfl;cases hn)
  rw [List.pairwise_append] at hM
  have ih:=runsN_is n M (by simpa using hn) hM.1
  have hx:∀ a ∈ M,c a x ≤ 0:=fun a ha => hM.2.2 a ha x (by simp)
  rw [runsN_snoc]
  by_cases h0:runsN c M = []
  ·rw [h0] at ih ⊢
   obtain rfl:M = []:=List.nil_perm.1 ih.2
   exact ⟨⟨by simp [stepN],fun q hq => by
    have:q = (x,1):=by simpa [stepN] using hq
    rw [this];exact Int.le_refl _⟩,by simp [stepN,expN]⟩
  ·obtain ⟨out,p,e⟩:=snocN h0
   rw [e] at ih ⊢
   obtain ⟨⟨i1,i2⟩,i3⟩:=ih
   rw [List.pairwise_append] at i1
   have hp1:=i2 p (by simp)
   have hpx:=hx p.1 (i3.mem_iff.1 (mem_expN (by simp) hp1))
   by_cases hq:c p.1 x = 0
   ·rw [stepN_eq _ _ _ hq]
    refine ⟨⟨List.pairwise_append.2 ⟨i1.1,by simp,fun a ha b hb => ?_⟩,fun q hq => ?_⟩,?_⟩
    ·obtain rfl:=List.mem_singleton.1 hb
     exact i1.2.2 a ha p (by simp)
    ·rcases List.mem_append.1 hq with hq|hq
     ·exact i2 q (by simp [hq])
     ·obtain rfl:=List.mem_singleton.1 hq
      show 1 ≤ p.2 + 1;omega
    ·obtain rfl:=hc.zero _ _ hq
     rw [expN_app] at i3 ⊢
     have:expN [(p.1,p.2 + 1)] = expN [p] ++ [p.1]:=by
      show List.replicate (p.2 + 1).toNat p.1 ++ [] = (List.replicate p.2.toNat p.1 ++ []) ++ [p.1]
      rw [show (p.2 + 1).toNat = p.2.toNat + 1 by omega,List.replicate_succ'];simp
     rw [this,← List.append_assoc]
     exact (List.perm_append_right_iff _).2 i3
   ·rw [stepN_ne _ _ _ hq]
    refine ⟨⟨List.pairwise_append.2 ⟨List.pairwise_append.2 i1,by simp,fun a ha b hb => ?_⟩,fun q hq => ?_⟩,?_⟩
    ·obtain rfl:=List.mem_singleton.1 hb
     show c a.1 x < 0
     have hpx':c p.1 x < 0:=by omega
     rcases List.mem_append.1 ha with ha|ha
     ·exact hc.lt_tr (i1.2.2 a ha p (by simp)) hpx'
     ·obtain rfl:=List.mem_singleton.1 ha
      exact hpx'
    ·rcases List.mem_append.1 hq with hq|hq
     ·exact i2 q hq
     ·obtain rfl:=List.mem_singleton.1 hq
      exact Int.le_refl _
    ·rw [expN_app]
     exact (List.perm_append_right_iff _).2 i3
theorem runsN_sorted {S M:List κ} (hp:S.Perm M) (hs:S.Pairwise (fun a b => c a b ≤ 0)):IsN c (runsN c S) M:=(runsN_is hc _ S rfl hs).perm hp
end
end Go.Proofs.YtfhmonacgmakbaaGreat
namespace Go.Proofs.YtfhmonacgmakbaaGreat
abbrev Spl:=List (List Int) × List (List Int)
def pairC {α β:Type} (c:α→α→Int) (d:β→β→Int) (a b:α × β):Int:=if c a.1 b.1 = 0 then d a.2 b.2 else c a.1 b.1
theorem pairC_cmp {α β:Type} {c:α→α→Int} {d:β→β→Int} (hc:Cmp c) (hd:Cmp d):Cmp (pairC c d) where
 zero:=by
  intro a b h
  unfold pairC at h
  split at h
  ·rename_i e;exact Prod.ext (hc.zero _ _ e) (hd.zero _ _ h)
  ·omega
 refl:=by intro a;unfold pairC;rw [if_pos (hc.refl _)];exact hd.refl _
 anti:=by
  intro a b
  unfold pairC
  by_cases e:c a.1 b.1 = 0
  ·rw [if_pos e,if_pos (hc.eq_swap e)];exact hd.anti _ _
  ·have e2:c b.1 a.1 ≠ 0:=fun h => e (hc.eq_swap h)
   rw [if_neg e,if_neg e2];exact hc.anti _ _
 trans:=by
  intro a b d' h1 h2
  unfold pairC at h1 h2 ⊢
  by_cases e1:c a.1 b.1 = 0
  ·rw [if_pos e1] at h1
   have eab:=hc.zero _ _ e1
   by_cases e2:c b.1 d'.1 = 0
   ·rw [if_pos e2] at h2
    rw [eab,if_pos e2];exact hd.trans _ _ _ h1 h2
   ·rw [if_neg e2] at h2
    rw [eab,if_neg e2];exact h2
  ·rw [if_neg e1] at h1
   by_cases e2:c b.1 d'.1 = 0
   ·rw [← hc.zero _ _ e2,if_neg e1];exact h1
   ·rw [if_neg e2] at h2
    have:=hc.lt_tr (a:=a.1) (b:=b.1) (d:=d'.1) (by omega) (by omega)
    rw [if_neg (by omega)];omega
theorem cmpN_cmp:Cmp cmpN:=thenC_cmp (lexC_cmp cmpT_cmp)
def cmpS:Spl→Spl→Int:=pairC cmpF cmpN
theorem cmpS_cmp:Cmp cmpS:=pairC_cmp cmpF_cmp cmpN_cmp
def catS (s c:Spl):Spl:=(s.1 ++ c.1,s.2 ++ c.2)
def mulS (s c:Spl):Spl:=(mulF s.1 c.1,mulF s.2 c.2)
def nrmS (s:Spl):Spl:=(sortC cmpT s.1,sortC cmpT s.2)
def prodS (Ls:List (List Spl)):List Spl:=Ls.foldl (fun A L => A.flatMap fun s => L.map (catS s)) [([],[])]
theorem sort_sort (f g:List (List Int)):sortC cmpT (sortC cmpT f ++ sortC cmpT g) = sortC cmpT (f ++ g) :=
 sortC_congr cmpT_cmp ((sortC_perm _).append (sortC_perm _))
theorem nrm_cat (s c:Spl):nrmS (catS s c) = mulS (nrmS s) (nrmS c):=by
 unfold nrmS catS mulS mulF
 simp only [sort_sort]
theorem nrm_flat (A L:List Spl):(A.flatMap fun s => L.map (catS s)).map nrmS = (A.map nrmS).flatMap fun s => (L.map nrmS).map (mulS s):=by
 induction A with
 | nil => rfl
 | cons a A ih =>
  rw [List.flatMap_cons,List.map_append,ih,List.map_cons,List.flatMap_cons]
  congr 1
  rw [List.map_map,List.map_map]
  exact List.map_congr_left fun c _ => nrm_cat a c
theorem nrm_comm (a b d:Spl):nrmS (catS (catS a b) d) = nrmS (catS (catS a d) b):=by
 unfold nrmS catS
 refine Prod.ext (sortC_congr cmpT_cmp ?_) (sortC_congr cmpT_cmp ?_)
 all_goals
  simp only [List.append_assoc]
  exact (List.perm_append_left_iff _).2 List.perm_append_comm
theorem flat_comm {α β γ:Type} (f:α→β→γ):∀ (A:List α) (B:List β),(A.flatMap fun a => B.map (f a)).Perm (B.flatMap fun b => A.map fun a => f a b)
 | [],B => by simp
 | a :: A,B => by
  rw [List.flatMap_cons]
  refine ((List.perm_append_left_iff _).2 (flat_comm f A B)).trans ?_
  clear flat_comm
  induction B with
  | nil => simp
  | cons b B ih =>
   simp only [List.map_cons,List.flatMap_cons,List.cons_append]
   refine List.Perm.cons _ ?_
   refine List.Perm.trans ?_ ((List.perm_append_left_iff _).2 ih)
   rw [← List.append_assoc,← List.append_assoc]
   exact (List.perm_append_right_iff _).2 List.perm_append_comm
def foldS (A:List Spl) (Ls:List (List Spl)):List Spl:=Ls.foldl (fun A L => A.flatMap fun s => L.map (catS s)) A
theorem foldS_perm {A A':List Spl}:∀ (Ls:List (List Spl)),(A.map nrmS).Perm (A'.map nrmS)→((foldS A Ls).map nrmS).Perm ((foldS A' Ls).map nrmS)
 | [],h => h
 | L :: Ls,h => by
  refine foldS_perm Ls (A:=A.flatMap fun s => L.map (catS s)) (A':=A'.flatMap fun s => L.map (catS s)) ?_
  rw [nrm_flat,nrm_flat]
  exact h.flatMap_right _
theorem flat2 (A L M:List Spl):((A.flatMap fun s => L.map (catS s)).flatMap fun s => M.map (catS s)) = A.flatMap fun a => L.flatMap fun b => M.map fun d => catS (catS a b) d:=by
 rw [List.flatMap_assoc]
 congr 1;funext a
 rw [List.flatMap_map]
theorem prodS_perm {Ls Ls':List (List Spl)} (h:Ls.Perm Ls'):∀ A:List Spl,((foldS A Ls).map nrmS).Perm ((foldS A Ls').map nrmS):=by
 induction h with
 | nil => intro A;exact List.Perm.refl _
 | cons L _ ih => intro A;exact ih _
 | swap L M Ls =>
  intro A
  refine foldS_perm Ls (A:=(A.flatMap fun s => M.map (catS s)).flatMap fun s => L.map (catS s)) (A':=(A.flatMap fun s => L.map (catS s)).flatMap fun s => M.map (catS s)) ?_
  rw [flat2,flat2,List.map_flatMap,List.map_flatMap]
  refine flat_left _ fun a _ => ?_
  rw [List.map_flatMap,List.map_flatMap]
  have e:∀ (M L:List Spl),(M.flatMap fun b => (L.map fun d => catS (catS a b) d).map nrmS) = M.flatMap fun b => L.map fun d => nrmS (catS (catS a b) d):=fun M L => by
   congr 1;funext b;rw [List.map_map];rfl
  rw [e,e]
  refine (flat_comm _ M L).trans ?_
  refine flat_left _ fun b _ => ?_
  rw [List.map_congr_left fun d _ => nrm_comm a d b]
 | trans _ _ h1 h2 => intro A;exact (h1 A).trans (h2 A)
def splitF:Nat→List Int→List Spl
 | 0,_ => []
 | n + 1,t => ((prodS ((brs t).map (splitF n))).map fun s => (s.1,[canon (rootOn s.2)])) ++ [([canon t],[])]
def split (t:List Int):List Spl:=splitF t.length t
theorem splitF_eq:∀ (f:Nat) {t:List Int},LevP t→t.length ≤ f→splitF f t = split t:=by
 have key:∀ (n f g:Nat) (t:List Int),LevP t→t.length ≤ n→t.length ≤ f→t.length ≤ g→splitF f t = splitF g t:=by
  intro n
  induction n with
  | zero => intro f g t h hn;have:=h.pos;omega
  | succ n ih =>
   intro f g t h hn hf hg
   have hp:=h.pos
   obtain ⟨f,rfl⟩:∃ f',f = f' + 1:=⟨f - 1,by omega⟩
   obtain ⟨g,rfl⟩:∃ g',g = g' + 1:=⟨g - 1,by omega⟩
   simp only [splitF]
   congr 3
   apply List.map_congr_left
   intro b hb
   have:=brs_short h b hb
   exact ih f g b (brs_lev h b hb) (by omega) (by omega) (by omega)
 intro f t h hf
 exact key t.length f t.length t h (Nat.le_refl _) hf (Nat.le_refl _)
theorem split_eq {t:List Int} (h:LevP t):split t = ((prodS ((brs t).map split)).map fun s => (s.1,[canon (rootOn s.2)])) ++ [([canon t],[])]:=by
 have hp:=h.pos
 obtain ⟨n,hn⟩:∃ n,t.length = n + 1:=⟨t.length - 1,by omega⟩
 conv => lhs;unfold split;rw [hn];simp only [splitF]
 congr 3
 apply List.map_congr_left
 intro b hb
 have:=brs_short h b hb
 exact splitF_eq n (brs_lev h b hb) (by omega)
def GoodS (n:Nat) (s:Spl):Prop:=(∀ t ∈ s.1 ++ s.2,LevP t∧canon t = t)∧sumLen s.1 + sumLen s.2 = n
theorem foldS_good {α:Type} (f:α→List Spl) (m:α→Nat):∀ (bs:List α) (A:List Spl) (n:Nat),(∀ b ∈ bs,∀ s ∈ f b,GoodS (m b) s)→(∀ s ∈ A,GoodS n s)→∀ s ∈ foldS A (bs.map f),GoodS (n + (bs.map m).sum) s
 | [],A,n,_,hA => by simpa [foldS] using hA
 | b :: bs,A,n,hb,hA => by
  intro s hs
  have:=foldS_good f m bs (A.flatMap fun s => (f b).map (catS s)) (n + m b) (fun x hx => hb x (by simp [hx])) (fun s hs => by
   obtain ⟨a,ha,hs⟩:=List.mem_flatMap.1 hs
   obtain ⟨d,hd,rfl⟩:=List.mem_map.1 hs
   obtain ⟨a1,a2⟩:=hA a ha
   obtain ⟨d1,d2⟩:=hb b (by simp) d hd
   refine ⟨fun t ht => ?_,?_⟩
   ·unfold catS at ht
    simp only [List.mem_append] at ht
    rcases ht with (ht|ht)|ht|ht
    ·exact a1 t (by simp [ht])
    ·exact d1 t (by simp [ht])
    ·exact a1 t (by simp [ht])
    ·exact d1 t (by simp [ht])
   ·unfold catS
    simp only [sumLen_append];omega) s hs
  rw [List.map_cons,List.sum_cons,← Nat.add_assoc]
  exact this
theorem split_good:∀ (n:Nat) {t:List Int},t.length ≤ n→LevP t→∀ s ∈ split t,GoodS t.length s
 | 0,t,hn,h => by have:=h.pos;omega
 | n + 1,t,hn,h => by
  intro s hs
  rw [split_eq h] at hs
  rcases List.mem_append.1 hs with hs|hs
  ·obtain ⟨a,ha,rfl⟩:=List.mem_map.1 hs
   have hg:=foldS_good split List.length (brs t) [([],[])] 0 (fun b hb => split_good n (by have:=brs_short h b hb;omega) (brs_lev h b hb)) (fun s hs => by
    obtain rfl:=List.mem_singleton.1 hs
    exact ⟨by simp,rfl⟩) a ha
   rw [Nat.zero_add,show ((brs t).map List.length).sum = sumLen (brs t) from rfl] at hg
   have hb:=sumLen_brs h
   obtain ⟨g1,g2⟩:=hg
   have hl:LevP (rootOn a.2):=rootOn_lev fun b hb => (g1 b (by simp [hb])).1
   refine ⟨fun u hu => ?_,?_⟩
   ·simp only [List.mem_append,List.mem_singleton] at hu
    rcases hu with hu|rfl
    ·exact g1 u (by simp [hu])
    ·exact ⟨canon_lev hl,canon_idem hl⟩
   ·show sumLen a.1 + sumLen [canon (rootOn a.2)] = t.length
    have:sumLen [canon (rootOn a.2)] = sumLen a.2 + 1:=by
     show (canon (rootOn a.2)).length + 0 = _
     rw [canon_len hl,rootOn_len]
    omega
  ·obtain rfl:=List.mem_singleton.1 hs
   refine ⟨fun u hu => ?_,?_⟩
   ·simp only [List.append_nil,List.mem_singleton] at hu
    rw [hu];exact ⟨canon_lev h,canon_idem h⟩
   ·show (canon t).length + 0 + 0 = _
    rw [canon_len h];rfl
theorem canon_root {bs cs:List (List Int)} (h:∀ b ∈ bs,LevP b) (hp:bs.Perm cs):canon (rootOn bs) = canon (rootOn cs):=by
 have h':∀ b ∈ cs,LevP b:=fun b hb => h b (hp.mem_iff.2 hb)
 rw [canon_eq (rootOn_lev h),canon_eq (rootOn_lev h'),brs_rootOn h,brs_rootOn h']
 rw [sortC_congr cmpD_cmp (hp.map canon)]
def rootS (s:Spl):Spl:=(s.1,[canon (rootOn s.2)])
theorem nrm_root {s:Spl} (h:∀ t ∈ s.1 ++ s.2,LevP t):nrmS (rootS s) = rootS (nrmS s):=by
 unfold nrmS rootS
 refine Prod.ext rfl ?_
 show sortC cmpT [canon (rootOn s.2)] = [canon (rootOn (sortC cmpT s.2))]
 rw [canon_root (bs:=s.2) (fun b hb => h b (by simp [hb])) (sortC_perm _).symm]
 rfl
theorem nrm_roots {A B:List Spl} (hA:∀ s ∈ A,∀ t ∈ s.1 ++ s.2,LevP t) (hB:∀ s ∈ B,∀ t ∈ s.1 ++ s.2,LevP t) (h:(A.map nrmS).Perm (B.map nrmS)):((A.map rootS).map nrmS).Perm ((B.map rootS).map nrmS):=by
 have e:∀ {A:List Spl},(∀ s ∈ A,∀ t ∈ s.1 ++ s.2,LevP t)→(A.map rootS).map nrmS = (A.map nrmS).map rootS:=fun {A} hA => by
  rw [List.map_map,List.map_map]
  exact List.map_congr_left fun s hs => nrm_root (hA s hs)
 rw [e hA,e hB]
 exact h.map _
theorem prod_lev {bs:List (List Int)} (h:∀ b ∈ bs,LevP b):∀ s ∈ prodS (bs.map split),∀ t ∈ s.1 ++ s.2,LevP t:=fun s hs t ht =>
 ((foldS_good split List.length bs [([],[])] 0 (fun b hb => split_good _ (Nat.le_refl _) (h b hb)) (fun s hs => by
   obtain rfl:=List.mem_singleton.1 hs
   exact ⟨by simp,rfl⟩) s hs).1 t ht).1
def gathS (L:List Spl):List (Spl × Int):=runsN cmpS (sortC cmpS (L.map nrmS))
theorem gathS_is (L:List Spl):IsN cmpS (gathS L) (L.map nrmS):=runsN_sorted cmpS_cmp (sortC_perm _) (sortC_sorted cmpS_cmp _)
def forS (f:List Int→List (Spl × Int)) (bs:List (List Int)):List (Spl × Int):=bs.foldl (fun out b => timesN cmpS mulS out (f b)) [(([],[]),1)]
def putsS (t:List Int) (below:List (Spl × Int)):List (Spl × Int):=below.foldl (fun s p => putN cmpS s p.2 (rootS p.1)) [(([t],[]),1)]
theorem forS_is (f:List Int→List (Spl × Int)) (g:List Int→List Spl):∀ (bs:List (List Int)),(∀ b ∈ bs,IsN cmpS (f b) ((g b).map nrmS))→∀ (L:List (Spl × Int)) (A:List Spl),IsN cmpS L (A.map nrmS) →
  IsN cmpS (bs.foldl (fun out b => timesN cmpS mulS out (f b)) L) ((foldS A (bs.map g)).map nrmS)
 | [],_,L,A,h => h
 | b :: bs,hb,L,A,h => by
  refine forS_is f g bs (fun x hx => hb x (by simp [hx])) _ (A.flatMap fun s => (g b).map (catS s)) ?_
  rw [nrm_flat]
  exact IsN.times cmpS_cmp mulS h (hb b (by simp))
theorem one_is:IsN cmpS [((([],[]):Spl),1)] ([([],[])].map nrmS):=⟨⟨by simp,by simp⟩,List.Perm.refl _⟩
theorem nrm_one {t:List Int}:nrmS ([t],[]) = ([t],[]):=rfl
theorem spec_tree {t:List Int} (h:LevP t) (hc:canon t = t) (f:List Int→List (Spl × Int)) (hf:∀ b ∈ brs t,IsN cmpS (f b) ((split b).map nrmS)):putsS t (forS f (sortC cmpT (brs t))) = gathS (split t):=by
 refine IsN.ext cmpS_cmp (M:=[nrmS ([t],[])] ++ ((prodS ((sortC cmpT (brs t)).map split)).map nrmS).map rootS) ?_ (gathS_is (split t)) ?_
 ·have h1:=forS_is f split (sortC cmpT (brs t)) (fun b hb => hf b (sortC_mem.1 hb)) _ _ one_is
  unfold putsS
  have h2:=IsN.puts cmpS_cmp ((forS f (sortC cmpT (brs t))).map fun p => (rootS p.1,p.2)) (L:=[(([t],[]),1)]) (M:=[nrmS ([t],[])]) ⟨⟨by simp,by simp⟩,by rw [nrm_one];exact List.Perm.refl _⟩ (fun p hp => by
   obtain ⟨q,hq,rfl⟩:=List.mem_map.1 hp
   exact h1.1.2 q hq)
  rw [List.foldl_map] at h2
  refine h2.perm ((List.perm_append_left_iff _).2 ?_)
  have e:∀ L:List (Spl × Int),expN (L.map fun p => (rootS p.1,p.2)) = (expN L).map rootS:=fun L => by
   unfold expN
   rw [List.flatMap_map,List.map_flatMap]
   congr 1;funext p;simp
  rw [e]
  exact h1.2.map rootS
 ·have hb:=fun b hb => brs_lev h b hb
  have hs:∀ b ∈ sortC cmpT (brs t),LevP b:=fun b hb' => hb b (sortC_mem.1 hb')
  rw [split_eq h,List.map_append,hc]
  refine List.perm_append_comm.trans ?_
  refine List.Perm.append ?_ (List.Perm.refl _)
  have e:((prodS ((sortC cmpT (brs t)).map split)).map nrmS).map rootS = ((prodS ((sortC cmpT (brs t)).map split)).map rootS).map nrmS:=by
   rw [List.map_map,List.map_map]
   exact List.map_congr_left fun s hs' => (nrm_root (prod_lev hs s hs')).symm
  rw [e]
  exact nrm_roots (prod_lev hs) (prod_lev hb) (prodS_perm ((sortC_perm (brs t)).map split) _)
theorem spec_forest (bs:List (List Int)) (f:List Int→List (Spl × Int)) (hf:∀ b ∈ bs,f b = gathS (split b)):forS f bs = gathS (prodS (bs.map split)) :=
 IsN.ext cmpS_cmp (forS_is f split bs (fun b hb => by rw [hf b hb];exact gathS_is _) _ _ one_is) (gathS_is _) (List.Perm.refl _)
end Go.Proofs.YtfhmonacgmakbaaGreat
namespace Go.Proofs.YtfhmonacgmakbaaGreat
open Go.RowKit
theorem a_l03Before (xs ys:List Int):AFn Tryz.prog 100 [eL xs,eL ys] (· = [.val (.bool (decide (cmpT xs ys < 0)))]) :=
 AFn.of_q (v:=.bool _) (enters_of Tryz.func100 rfl rfl) (fun _ _ => rdV_bool.2 rfl) (fun w A vs ⟨v1,_,e1,h1,v2,_,e2,h2,e3⟩ => by subst e3;subst e2;subst e1;exact c_spec_l03Before v1 v2 xs ys w (Rd.of (rd1 h1)) (Rd.of (rd1 h2)))
theorem a_l01Same (xs ys:List Int):AFn Tryz.prog 103 [eL xs,eL ys] (· = [.val (.bool (decide (xs = ys)))]) :=
 AFn.of_q (v:=.bool _) (enters_of Tryz.func103 rfl rfl) (fun _ _ => rdV_bool.2 rfl) (fun w A vs ⟨v1,_,e1,h1,v2,_,e2,h2,e3⟩ => by subst e3;subst e2;subst e1;exact c_spec_l01Same v1 v2 xs ys w (Rd.of (rd1 h1)) (Rd.of (rd1 h2)))
theorem a_l01Own (xs:List Int) (hsz:xs.length ≤ 1000000000):AFn Tryz.prog 155 [eL xs] (· = [.own 1 (xs.map eI) true]) :=
 AFn.of_o encI (enters_of Tryz.func155 rfl rfl) (fun w A vs ⟨v1,_,e1,h1,e2⟩ => by subst e2;subst e1;exact c_spec_l01Own v1 xs w (Rd.of (rd1 h1)) hsz)
theorem getD_in {t:List Int} {i:Nat} (h:i < t.length):t.getD i 0 = t[i]:=by simp [h]
theorem cmpT_in64 {xs ys:List Int} (h1:xs.length ≤ maxLen) (h2:ys.length ≤ maxLen):In64 (cmpT xs ys):=by
 unfold maxLen at h1 h2
 unfold cmpT In64
 have:=cmpL_range ys xs
 split <;> omega
theorem a_spec_l03Is (t:List Int) (hsz:t.length ≤ 1048576):AFn Tryz.prog 150 [eL t] (· = [.val (.bool (lev8 t))]):=afn_L_q (v:=.bool _) (enters_of Tryz.func150 rfl rfl) (fun _ _ => rdV_bool.2 rfl) (fun u w h => c_spec_l03Is u t w h (by omega))
theorem a_impl_inRange (x y z:Int):AFn Tryz.prog 66 [eI x,eI y,eI z] (· = [.val (.bool (inR x y z))]):=afn_III_s (v:=.bool _) (enters_of Tryz.func66 rfl rfl) (fun _ _ => rdV_bool.2 rfl) (fun w => c_impl_inRange x y z w)
theorem a_spec_l01In (x y z:Int):AFn Tryz.prog 64 [eI x,eI y,eI z] (· = [.val (.bool (inR x y z))]):=afn_III_s (v:=.bool _) (enters_of Tryz.func64 rfl rfl) (fun _ _ => rdV_bool.2 rfl) (fun w => c_spec_l01In x y z w)
theorem a_l03Canon (t:List Int) (h:LevP t) (hl:t.length ≤ 8):AFn Tryz.prog 149 [eL t] (· = [.own 1 ((canon t).map eI) true]) :=
 afn_L_o (enters_of Tryz.func149 rfl rfl) (fun u w h' => c_spec_l03Canon 8 u t w h' h hl (by omega))
theorem nodesB_in64 (f:List (List Int)):In64 (nodesB f):=by
 have:∀ (bs:List (List Int)) (a:Int),In64 a→In64 (bs.foldl (fun a b => wrap64 (a + (b.length:Int))) a):=by
  intro bs
  induction bs with
  | nil => intro a h;exact h
  | cons b bs ih => intro a _;exact ih _ (by show In64 (wrap64 (a + (b.length:Int)));unfold In64 wrap64;omega)
 exact this f 0 (by unfold In64;omega)
theorem a_l03Nodes (f:List (List Int)):AFn Tryz.prog 101 [eLL f] (· = [.val (.int (nodesB f))]) :=
 afn_LLL_s (enters_of Tryz.func101 rfl rfl) (fun _ _ => rdV_int.2 ⟨rfl,nodesB_in64 f⟩) (fun u w h => c_spec_l03Nodes u f w h)
end Go.Proofs.YtfhmonacgmakbaaGreat
namespace Go.Proofs.YtfhmonacgmakbaaGreat
open Go.RowKit
set_option maxHeartbeats 2000000 in
theorem a_l01Own2 (f:List (List Int)) (hl:f.length ≤ 1000) (hs:∀ b ∈ f,b.length ≤ 1000):AFn Tryz.prog 134 [eLL f] (· = [.own 1 (f.map eL) false]):=by
 refine AFn.of_runs (cfg_ok 21) Tryz.func134 rfl rfl rfl (by simp only [List.length_cons,List.length_nil];decide) ?_
 have hres:Tryz.f134.results.toList = [.tmp 2]:=rfl
 have hrts:Tryz.f134.resultTypes.toList = [29]:=rfl
 simp only [argRegs,argAV1,eL,eI,eLL,eB,Nat.zero_add,Nat.reduceAdd]
 intro M
 refine RunK.of ?_
 repeat' (first|with_reducible (first|refine Q1 ?_|refine Q2 ?_|refine Q3 ?_|refine Q4 ?_|refine Q5 ?_|refine Q6 ?_|refine Q7 ?_|refine Q8 ?_|refine Q9 ?_|refine Qa ?_|refine Qb ?_|refine Qc ?_|refine Qd ?_|refine Qe ?_|refine Qf ?_)|((with_reducible refine Qo ?_ ?_);focus rfl)|((with_reducible first|refine QT 5 (l:=?_) ?_ ?_|refine QF 5 (l:=?_) ?_ ?_);rotate_left 1;focus (simp only [Zu,Nat.reduceSub,Nat.reduceBEq];with_reducible rfl))|((with_reducible first|refine QS (cfg_ok 21) Tab.none (s':=?_) ?_ ?_|refine QC (b:=?_) ?_ ?_);rotate_left 1;focus ((with_reducible refine QW ?_);simp only [Zg,seval,if_true,if_false,reduceCtorEq,Nat.reduceEqDiff,eL];with_reducible rfl)))
 refine RunK.loop (β:=Nat) (γ:=Unit) (fun i => ⟨[(0,.c (.val (.sl 1 (f.map eL)))),(3,.c (.own 3 (f.take i).length)),(4,.c (.val (.int i)))],[(3,.row 1 ((f.take i).map eL) false)]⟩) (fun i => i ≤ f.length) (fun i => f.length - i)
  (fun _ => ⟨[(3,.c (.own 3 f.length))],[(3,.row 1 (f.map eL) false)]⟩) (fun _ => True) 0 (Nat.zero_le _) ?_ ?_ ?_
 ·(repeat' (first|with_reducible refine Qn|((with_reducible refine Qr ?_ ?_);focus (first|with_reducible rfl|(simp only [Zz,Nat.reduceBEq,List.take_zero,List.map_nil];done)|rfl))|((with_reducible refine Qj (o':=?_) ?_ ?_ ?_);rotate_left 1;focus rfl)|((with_reducible refine Qw ?_ ?_);(focus (first|with_reducible rfl|(simp only [Zv,List.take_zero,List.map_nil];done)));focus (first|exact id|exact (fun h => nomatch h)|exact (fun _ => rfl)))))
 ·intro i hi
  have hi:i ≤ f.length:=hi
  have hw:=w64_succ (n:=i) (by omega)
  by_cases h:i < f.length
  ·have i1:((i:Int) < (f.length:Int)) = True:=eq_true (by omega)
   have i2:((0:Int) ≤ (i:Int)) = True:=eq_true (by omega)
   obtain ⟨t,ht⟩:∃ t,t = f[i]:=⟨_,rfl⟩
   have hg:(f.map eL)[i]? = some [.sl 1 (t.map eI)]:=by rw [map_get h,ht];rfl
   have htl:t.length ≤ 1000:=hs t (by rw [ht];exact List.getElem_mem h)
   have how:=a_l01Own t (by omega)
   simp only [eL] at how
   have htk:f.take (i + 1) = f.take i ++ [t]:=by rw [ht];exact List.take_succ_eq_append_getElem h
   have hil:(f.take i).length = i:=by rw [List.length_take];omega
   have q1:=big_le (n:=(f.take i).length + 1) (by omega)
   have q2:=big_mul (n:=(f.take i).length + 1) (c:=24) (by omega) (by omega)
   repeat' (first|with_reducible (first|refine Q1 ?_|refine Q2 ?_|refine Q3 ?_|refine Q4 ?_|refine Q5 ?_|refine Q6 ?_|refine Q7 ?_|refine Q8 ?_|refine Q9 ?_|refine Qa ?_|refine Qb ?_|refine Qc ?_|refine Qd ?_|refine Qe ?_|refine Qf ?_)|((with_reducible refine Qo ?_ ?_);focus rfl)|((with_reducible first|refine QT 5 (l:=?_) ?_ ?_|refine QF 5 (l:=?_) ?_ ?_);rotate_left 1;focus (simp only [Zu,Nat.reduceSub,Nat.reduceBEq];with_reducible rfl))|((with_reducible first|refine QS (cfg_ok 21) ((Tab.none.at' 155 how)) (s':=?_) ?_ ?_|refine QC (b:=?_) ?_ ?_);rotate_left 1;focus ((with_reducible refine QW ?_);simp only [Zg,seval,if_true,if_false,reduceCtorEq,Nat.reduceEqDiff,i1,i2,hg,hw,q1,q2,Int.toNat_natCast,List.length_map];with_reducible rfl)))
   refine roundK.on (i + 1) ⟨h,by omega⟩ ?_
   rw [htk]
   (repeat' (first|with_reducible refine Qn|((with_reducible refine Qr ?_ ?_);focus (first|with_reducible rfl|(simp only [Zz,Nat.reduceBEq,eL];done)|rfl))|((with_reducible refine Qj (o':=?_) ?_ ?_ ?_);rotate_left 1;focus rfl)|((with_reducible refine Qw ?_ ?_);(focus (first|with_reducible rfl|(simp only [Zv,eL];done)));focus (first|exact id|exact (fun h => nomatch h)|exact (fun _ => rfl)))))
  ·have i1:((i:Int) < (f.length:Int)) = False:=eq_false (by omega)
   obtain rfl:i = f.length:=by omega
   rw [List.take_length]
   repeat' (first|with_reducible (first|refine Q1 ?_|refine Q2 ?_|refine Q3 ?_|refine Q4 ?_|refine Q5 ?_|refine Q6 ?_|refine Q7 ?_|refine Q8 ?_|refine Q9 ?_|refine Qa ?_|refine Qb ?_|refine Qc ?_|refine Qd ?_|refine Qe ?_|refine Qf ?_)|((with_reducible refine Qo ?_ ?_);focus rfl)|((with_reducible first|refine QT 5 (l:=?_) ?_ ?_|refine QF 5 (l:=?_) ?_ ?_);rotate_left 1;focus (simp only [Zu,Nat.reduceSub,Nat.reduceBEq];with_reducible rfl))|((with_reducible first|refine QS (cfg_ok 21) Tab.none (s':=?_) ?_ ?_|refine QC (b:=?_) ?_ ?_);rotate_left 1;focus ((with_reducible refine QW ?_);simp only [Zg,seval,if_true,if_false,reduceCtorEq,Nat.reduceEqDiff,i1,List.length_map];with_reducible rfl)))
   refine roundK.out () trivial ?_
   (repeat' (first|with_reducible refine Qn|((with_reducible refine Qr ?_ ?_);focus (first|with_reducible rfl|(simp only [Zz,Nat.reduceBEq];done)|rfl))|((with_reducible refine Qj (o':=?_) ?_ ?_ ?_);rotate_left 1;focus rfl)|((with_reducible refine Qw ?_ ?_);(focus (first|with_reducible rfl|(simp only [Zv];done)));focus (first|exact id|exact (fun h => nomatch h)|exact (fun _ => rfl)))))
 ·rintro _ _
  repeat' (first|with_reducible (first|refine Q1 ?_|refine Q2 ?_|refine Q3 ?_|refine Q4 ?_|refine Q5 ?_|refine Q6 ?_|refine Q7 ?_|refine Q8 ?_|refine Q9 ?_|refine Qa ?_|refine Qb ?_|refine Qc ?_|refine Qd ?_|refine Qe ?_|refine Qf ?_)|((with_reducible refine Qo ?_ ?_);focus rfl)|((with_reducible first|refine QT 5 (l:=?_) ?_ ?_|refine QF 5 (l:=?_) ?_ ?_);rotate_left 1;focus (simp only [Zu,Nat.reduceSub,Nat.reduceBEq];with_reducible rfl))|((with_reducible first|refine QS (cfg_ok 21) Tab.none (s':=?_) ?_ ?_|refine QC (b:=?_) ?_ ?_);rotate_left 1;focus ((with_reducible refine QW ?_);simp only [Zg,seval,if_true,if_false,reduceCtorEq,Nat.reduceEqDiff];with_reducible rfl)))
  (refine Ends.mk (by simp) (rs:=?_) (ks:=?_) hres hrts ?_ ?_ ?_;rotate_left 2;(focus (simp only [Ze,Zg,seval,if_true,if_false,reduceCtorEq,Nat.reduceEqDiff];with_reducible rfl));(focus simp);focus (first|with_reducible rfl|(simp only [Zv];done)))
end Go.Proofs.YtfhmonacgmakbaaGreat
