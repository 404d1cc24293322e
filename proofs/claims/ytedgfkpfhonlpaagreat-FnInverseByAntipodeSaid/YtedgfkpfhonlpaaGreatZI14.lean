/- Lemmas (14). -/
import Derived.Laws.Shifts
import Derived.WalkArith
import Derived.Test.YtedgfkpfhonlpaaGreatZI5
import Derived.Test.YtedgfkpfhonlpaaGreatZI6
import Derived.Test.YtedgfkpfhonlpaaGreatZI7
import Derived.Test.YtedgfkpfhonlpaaGreatZI8
import Derived.Test.YtedgfkpfhonlpaaGreatZI9
import Derived.Test.YtedgfkpfhonlpaaGreatZI10
import Derived.Test.YtedgfkpfhonlpaaGreatZI11
import Derived.Test.YtedgfkpfhonlpaaGreatZI12
import Derived.Test.YtedgfkpfhonlpaaGreatZI13
set_option maxHeartbeats 16000000
set_option maxRecDepth 100000
set_option linter.unusedSimpArgs false
set_option linter.unusedVariables false
namespace Go.Proofs.YtedgfkpfhonlpaaGreat
open Go.RowKit
def kK (t:List Int):Nat→Nat
 | 0 => 0
 | p + 1 => if t.getD p 0 ≤ 1 then kK t p else p + 1
def lastEq (t:List Int) (l:Int):Nat→Nat
 | 0 => 0
 | q + 1 => if t.getD q 0 = l then q else lastEq t l q
def yY (p q:Nat):Nat→List Int→List Int
 | 0,t => t
 | k + 1,t => (yY p q k t).set (p + k) ((yY p q k t).getD (p + k - (p - q)) 0)
def nextT (t:List Int):Option (List Int) :=
 match kK t t.length with
 | 0 => none
 | p + 1 => some (yY p (lastEq t (t.getD p 0 - 1) p) (t.length - p) t)
def treesF:Nat→List Int→List (List Int)
 | 0,_ => []
 | f + 1,t => t :: match nextT t with
  | none => []
  | some s => treesF f s
def yT (n:Nat):List (List Int):=treesF 120 ((List.range n).map fun (i:Nat) => (i:Int))
def growF:Nat→List Int→Nat→List (List Int)
 | 0,_,_ => []
 | f + 1,t,n => if t.length = n then (if canon t = t then [t] else [])
  else (List.range ((t.getLastD 0 + 1).toNat)).flatMap fun i => growF f (t ++ [t.getLastD 0 + 1 - (i:Nat)]) n
theorem trees_len:[1,2,3,4,5,6,7,8].map (fun n => (yT n).length) = [1,1,2,4,9,20,48,115]:=by decide +kernel
theorem grow_trees:∀ n ∈ [1,2,3,4,5,6,7,8],growF 9 [0] n = yT n:=by decide +kernel
theorem a_slicesClone (xs:List Int) (h:xs.length ≤ 1000000000):AFn Tryz.prog 201 [eL xs] (· = [.own 1 (xs.map eI) true]):=afn_L_o (enters_of Tryz.func201 rfl rfl) (fun u w h' => xL0 u xs w h' h)
def stepOk (n:Nat) (t:List Int):Bool :=
 t.length == n && t.all (fun x => decide (0 ≤ x) && decide (x ≤ 8)) && (match kK t n with
  | 0 => true
  | p + 1 => decide (p < n) && (let q:=lastEq t (t.getD p 0 - 1) p;decide (q < p) && t.getD q 0 == t.getD p 0 - 1))
theorem step_all:∀ n ∈ [1,2,3,4,5,6,7,8],(yT n).all (stepOk n) = true:=by decide +kernel
theorem copyFrom_len (p q:Nat) (t:List Int):∀ k,(yY p q k t).length = t.length
 | 0 => rfl
 | k + 1 => by unfold yY;rw [List.length_set,copyFrom_len p q t k]
theorem a_treesOf (n:Nat) (hn:n ∈ [1,2,3,4,5,6,7,8]):AFn Tryz.prog 176 [eI n] (· = [.own 1 ((yT n).map eL) true]):=by
 have hn8:1 ≤ n∧n ≤ 8:=by simp at hn;omega
 have hlen:(yT n).length ≤ 115:=by
  have:=trees_len
  simp at hn
  rcases hn with rfl|rfl|rfl|rfl|rfl|rfl|rfl|rfl <;> simp at this <;> omega
 have hok:=List.all_eq_true.1 (step_all n hn)
 refine AFn.of_runs (qJ 72) Tryz.func176 rfl rfl rfl gz ?_
 have hres:Tryz.f176.results.toList = [.tmp 2]:=rfl
 have hrts:Tryz.f176.resultTypes.toList = [36]:=rfl
 simp only [qU,qT,eL,eI,eLL,eB,Nat.zero_add,Nat.reduceAdd]
 intro M
 refine qQ.of ?_
 refine gw7 (kk 13) Y0 ?_
 refine qQ.loop (β:=Nat) (γ:=Unit) (fun i => ⟨[(0,.c (.val (.int n))),(3,.c (.own 3 i)),(4,.c (.own 4 0)),(11,.c (.val (.int n))),(12,.c (.val (.int i)))],[(3,.row 1 ((List.range i).map fun (j:Nat) => [.int j]) true),(4,.row 1 [] true)]⟩) (fun i => i ≤ n) (fun i => n - i)
  (fun _ => ⟨[(0,.c (.val (.int n))),(3,.c (.own 3 n)),(4,.c (.own 4 0))],[(3,.row 1 ((List.range n).map fun (j:Nat) => [.int j]) true),(4,.row 1 [] true)]⟩) (fun _ => True) 0 (Nat.zero_le _) ?_ ?_ ?_
 ·exact gw118
 ·intro i hi
  have hw:=qH (n:=i) (by omega)
  have q1:=jV (n:=i + 1) (by omega)
  have q2:=jW (n:=i + 1) (c:=8) (by omega) (by omega)
  by_cases h:i < n
  ·have i1:((i:Int) < (n:Int)) = True:=eq_true (by omega)
   refine gw119 (kk 13) (Y4 i1 hw q1 q2) ?_
   refine qZ.on (i + 1) ⟨h,by omega⟩ ?_
   exact gw120
  ·have i1:((i:Int) < (n:Int)) = False:=eq_false (by omega)
   obtain rfl:i = n:=by omega
   refine gw7 (kk 13) i1 ?_
   refine qZ.out () trivial ?_
   exact gw6 Y0
 ·rintro _ _
  refine gw7 (kk 13) Y0 ?_
  refine qQ.loop (β:=Nat × List (List Int) × List Int) (γ:=Unit) (fun x => ⟨[(0,.c (.val (.int n))),(3,.c (.own 3 n)),(4,.c (.own 4 x.2.1.length))],[(3,.row 1 (x.2.2.map eI) true),(4,.row 1 (x.2.1.map eL) true)]⟩)
   (fun x => yT n = x.2.1 ++ treesF x.1 x.2.2∧x.2.1.length + x.1 = 120∧0 < x.1) (fun x => x.1)
   (fun _ => ⟨[],[]⟩) (fun _ => False) (120,[],(List.range n).map fun (i:Nat) => (i:Int)) ⟨rfl,rfl,by show 0 < 120;omega⟩ ?_ ?_ ?_
  ·exact gw121
  ·rintro ⟨f,done,t⟩ ⟨h1,h2,h3⟩
   have h1:yT n = done ++ treesF f t:=h1
   have h2:done.length + f = 120:=h2
   have h3:0 < f:=h3
   obtain ⟨f,rfl⟩:∃ f',f = f' + 1:=⟨f - 1,by omega⟩
   have hmem:t ∈ yT n:=by rw [h1];exact List.mem_append_right _ (by simp [treesF])
   have hso:=hok t hmem
   unfold stepOk at hso
   simp only [Bool.and_eq_true,beq_iff_eq] at hso
   obtain ⟨⟨htl,htb⟩,hstep⟩:=hso
   have hdl:done.length ≤ 115:=by have:=congrArg List.length h1;simp at this;omega
   have q1:=jV (n:=done.length + 1) (by omega)
   have q2:=jW (n:=done.length + 1) (c:=24) (by omega) (by omega)
   have hcl:=a_slicesClone t (by omega)
   have htlI:((t.map eI).length) = n:=by simp [htl]
   have hwn:w64 ((n:Int) - 1) = (n:Int) - 1:=qN (by omega)
   refine gw122 (kk 13) (Y5 htlI htl q1 q2 hwn) ?_
   have hget:∀ {k:Nat} (hk:k < n),(t.map eI)[k]? = some [.int (t.getD k 0)]:=by
    intro k hk
    rw [qD (by omega)];simp [eI,List.getD_eq_getElem?_getD,List.getElem?_eq_getElem (show k < t.length by omega)]
   have hbd:∀ {k:Nat} (hk:k < n),0 ≤ t.getD k 0∧t.getD k 0 ≤ 8:=by
    intro k hk
    have:=List.all_eq_true.1 htb (t.getD k 0) (by rw [List.getD_eq_getElem?_getD,List.getElem?_eq_getElem (show k < t.length by omega)];exact List.getElem_mem _)
    simpa using this
   refine qQ.loop (β:=Nat) (γ:=Nat) (fun m => ⟨[(0,.c (.val (.int n))),(3,.c (.own 3 n)),(4,.c (.own 4 (done.length + 1))),(6,.c (.val (.int ((m:Int) - 1))))],[(3,.row 1 (t.map eI) true),(4,.row 1 (done.map eL ++ [[.sl 1 (t.map eI)]]) true)]⟩)
    (fun m => m ≤ n∧kK t n = kK t m) (fun m => m)
    (fun m => ⟨[(0,.c (.val (.int n))),(3,.c (.own 3 n)),(4,.c (.own 4 (done.length + 1))),(6,.c (.val (.int ((m:Int) - 1))))],[(3,.row 1 (t.map eI) true),(4,.row 1 (done.map eL ++ [[.sl 1 (t.map eI)]]) true)]⟩) (fun m => kK t n = m) n ⟨Nat.le_refl _,rfl⟩ ?_ ?_ ?_
   ·exact gw6 Y0
   ·rintro m ⟨hm,hlb⟩
    rcases m with _|k
    ·have i1:((((0:Nat):Int) - 1) ≥ 0) = False:=eq_false (by omega)
     refine gw7 (kk 13) i1 ?_
     refine qZ.out 0 hlb ?_
     exact gw6 Y0
    ·have hA:(((k + 1:Nat):Int) - 1) = (k:Int):=by omega
     have i1:((k:Int) ≥ 0) = True:=eq_true (by omega)
     have i2:((0:Int) ≤ (k:Int)) = True:=eq_true (by omega)
     have i5:((k:Int) < (n:Int)) = True:=eq_true (by have:k + 1 ≤ n:=hm;omega)
     have hk:=hget (k:=k) (by have:k + 1 ≤ n:=hm;omega)
     have hw:w64 ((k:Int) - 1) = (k:Int) - 1:=qN (by omega)
     by_cases hle:t.getD k 0 ≤ 1
     ·have i3:(t.getD k 0 ≤ 1) = True:=eq_true hle
      refine gw12 (kk 13) (Y8 hA i1 i2 i5 hk i3 hw htlI) ?_
      refine qZ.on k ⟨⟨by omega,?_⟩,by omega⟩ ?_
      ·rw [hlb]
       show (if t.getD k 0 ≤ 1 then kK t k else k + 1) = kK t k
       rw [if_pos hle]
      ·exact gw6 Y0
     ·have i3:(t.getD k 0 ≤ 1) = False:=eq_false hle
      refine gw12 (kk 13) (Y8 hA i1 i2 i5 hk i3 hw htlI) ?_
      refine qZ.out (k + 1) ?_ ?_
      ·rw [hlb]
       show (if t.getD k 0 ≤ 1 then kK t k else k + 1) = k + 1
       rw [if_neg hle]
      ·exact gw6 hA
   ·intro m hm
    have hm:kK t n = m:=hm
    rw [hm] at hstep
    rcases m with _|p
    ·have i1:((((0:Nat):Int) - 1) < 0) = True:=eq_true (by omega)
     refine gw7 (kk 13) i1 ?_
     have hnx:nextT t = none:=by unfold nextT;rw [htl,hm]
     have htr:yT n = done ++ [t]:=by rw [h1];unfold treesF;rw [hnx]
     refine qZ.ret ?_
     refine gw7 (kk 13) Y0 ?_
     rw [htr]
     exact gw123
    ·have hA:(((p + 1:Nat):Int) - 1) = (p:Int):=by omega
     have i1:((p:Int) < 0) = False:=eq_false (by omega)
     obtain ⟨hpn,hq,hqv⟩:p < n∧lastEq t (t.getD p 0 - 1) p < p∧t.getD (lastEq t (t.getD p 0 - 1) p) 0 = t.getD p 0 - 1:=by simpa [and_assoc] using hstep
     generalize hqd:lastEq t (t.getD p 0 - 1) p = q at hq hqv
     have hwp:w64 ((p:Int) - 1) = (p:Int) - 1:=qN (by omega)
     refine gw7 (kk 13) (Y3 hA i1 hwp) ?_
     have i2:((0:Int) ≤ (p:Int)) = True:=eq_true (by omega)
     have hp:=hget hpn
     have i5:((p:Int) < (n:Int)) = True:=eq_true (by omega)
     have hpb:=hbd hpn
     have hwl:w64 (t.getD p 0 - 1) = t.getD p 0 - 1:=qN (by omega)
     refine qQ.loop (β:=Nat) (γ:=Unit) (fun j => ⟨[(0,.c (.val (.int n))),(3,.c (.own 3 n)),(4,.c (.own 4 (done.length + 1))),(6,.c (.val (.int p))),(7,.c (.val (.int ((j:Int) - 1))))],[(3,.row 1 (t.map eI) true),(4,.row 1 (done.map eL ++ [[.sl 1 (t.map eI)]]) true)]⟩)
      (fun j => j ≤ p∧lastEq t (t.getD p 0 - 1) j = q∧q < j) (fun j => j)
      (fun _ => ⟨[(0,.c (.val (.int n))),(3,.c (.own 3 n)),(4,.c (.own 4 (done.length + 1))),(6,.c (.val (.int p))),(7,.c (.val (.int q)))],[(3,.row 1 (t.map eI) true),(4,.row 1 (done.map eL ++ [[.sl 1 (t.map eI)]]) true)]⟩) (fun _ => True) p ⟨Nat.le_refl _,hqd,hq⟩ ?_ ?_ ?_
     ·exact gw6 Y0
     ·rintro j ⟨hj,hje,hqj⟩
      rcases j with _|k
      ·exact absurd hqj (Nat.not_lt_zero _)
      ·have hA:(((k + 1:Nat):Int) - 1) = (k:Int):=by omega
       have hje:(if t.getD k 0 = t.getD p 0 - 1 then k else lastEq t (t.getD p 0 - 1) k) = q:=hje
       have hj:k + 1 ≤ p:=hj
       have hqj:q < k + 1:=hqj
       have i3:((0:Int) ≤ (k:Int)) = True:=eq_true (by omega)
       have hk:=hget (k:=k) (by omega)
       have i6:((k:Int) < (n:Int)) = True:=eq_true (by omega)
       have hw:w64 ((k:Int) - 1) = (k:Int) - 1:=qN (by omega)
       by_cases heq:t.getD k 0 = t.getD p 0 - 1
       ·rw [if_pos heq] at hje
        have i4:(t.getD k 0 == t.getD p 0 - 1) = true:=beq_iff_eq.2 heq
        refine gw36 (kk 13) (Y12 hA i2 i3 i5 i6 hk hp hwl hw htlI heq i4) ?_
        refine qZ.out () trivial ?_
        exact gw6 hje
       ·rw [if_neg heq] at hje
        have i4:(t.getD k 0 != t.getD p 0 - 1) = true:=bne_iff_ne.2 heq
        refine gw36 (kk 13) (Y11 hA i2 i3 i5 i6 hk hp hwl hw htlI i4) ?_
        refine qZ.on k ⟨⟨by omega,hje,?_⟩,by omega⟩ ?_
        ·rcases Nat.lt_or_ge q k with h|h
         ·exact h
         ·obtain rfl:q = k:=by omega
          exact absurd hqv heq
        ·exact gw6 Y0
     ·rintro _ _
      refine gw7 (kk 13) Y0 ?_
      refine qQ.loop (β:=Nat) (γ:=Unit) (fun k => ⟨[(0,.c (.val (.int n))),(3,.c (.own 3 n)),(4,.c (.own 4 (done.length + 1))),(6,.c (.val (.int p))),(7,.c (.val (.int q))),(8,.c (.val (.int (p + k:Nat))))],[(3,.row 1 ((yY p q k t).map eI) true),(4,.row 1 (done.map eL ++ [[.sl 1 (t.map eI)]]) true)]⟩)
       (fun k => p + k ≤ n) (fun k => n - k)
       (fun _ => ⟨[(0,.c (.val (.int n))),(3,.c (.own 3 n)),(4,.c (.own 4 (done.length + 1)))],[(3,.row 1 ((yY p q (n - p) t).map eI) true),(4,.row 1 (done.map eL ++ [[.sl 1 (t.map eI)]]) true)]⟩) (fun _ => True) 0 (Nat.le_of_lt hpn) ?_ ?_ ?_
      ·exact gw124
      ·intro k hk
       have hk:p + k ≤ n:=hk
       have hcl':=copyFrom_len p q t k
       have hlI:((yY p q k t).map eI).length = n:=by simp [hcl',htl]
       by_cases h:p + k < n
       ·have j1:(((p + k:Nat):Int) < (n:Int)) = True:=eq_true (by omega)
        have j2:w64 ((p:Int) - (q:Int)) = ((p - q:Nat):Int):=by rw [qN (by omega)];omega
        have j3:w64 (((p + k:Nat):Int) - ((p - q:Nat):Int)) = ((p + k - (p - q):Nat):Int):=by rw [qN (by omega)];omega
        have j4:((yY p q k t).map eI)[p + k - (p - q)]? = some [.int ((yY p q k t).getD (p + k - (p - q)) 0)]:=by
         rw [qD (by omega)];simp [eI,List.getD_eq_getElem?_getD,List.getElem?_eq_getElem (show p + k - (p - q) < (yY p q k t).length by omega)]
        have j5:((0:Int) ≤ ((p + k - (p - q):Nat):Int)) = True:=eq_true (by omega)
        have j6:((0:Int) ≤ ((p + k:Nat):Int)) = True:=eq_true (by omega)
        have j7:(((p + k - (p - q):Nat):Int) < (n:Int)) = True:=eq_true (by omega)
        have j9:((yY p q k t).map eI)[p + k]? = some [.int ((yY p q k t).getD (p + k) 0)]:=by
         rw [qD (by omega)];simp [eI,List.getD_eq_getElem?_getD,List.getElem?_eq_getElem (show p + k < (yY p q k t).length by omega)]
        have j8:w64 (((p + k:Nat):Int) + 1) = ((p + k + 1:Nat):Int):=qH (n:=p + k) (by omega)
        refine gw12 (kk 13) (Y10 j1 j2 j3 j4 j5 j6 j7 j8 j9 hlI) ?_
        refine qZ.on (k + 1) ⟨by show p + (k + 1) ≤ n;omega,by omega⟩ ?_
        exact gw125
       ·have j1:(((p + k:Nat):Int) < (n:Int)) = False:=eq_false (by omega)
        obtain rfl:k = n - p:=by omega
        refine gw7 (kk 13) j1 ?_
        refine qZ.out () trivial ?_
        exact gw6 Y0
      ·rintro _ _
       refine gw7 (kk 13) Y0 ?_
       have hnx:nextT t = some (yY p q (n - p) t):=by unfold nextT;rw [htl,hm];simp only [hqd]
       have htr:yT n = (done ++ [t]) ++ treesF f (yY p q (n - p) t):=by
        rw [h1,List.append_assoc]
        conv => lhs;unfold treesF
        rw [hnx];rfl
       refine qZ.on (f,done ++ [t],yY p q (n - p) t) ⟨⟨htr,?_,?_⟩,Nat.lt_succ_self f⟩ ?_
       ·show (done ++ [t]).length + f = 120
        simp;omega
       ·show 0 < f
        omega
       ·exact gw126
  ·rintro _ h
   exact h.elim
def allTo (n:Nat):List (List Int):=(List.range n).flatMap fun k => yT (k + 1)
theorem qE0 (n:Nat):allTo (n + 1) = allTo n ++ yT (n + 1):=by unfold allTo;rw [List.range_succ,List.flatMap_append];simp
theorem vN:(allTo 8).length = 200:=by decide +kernel
theorem jT0:∀ (d k:Nat),∃ r,allTo (d + k) = allTo d ++ r
 | d,0 => ⟨[],by simp⟩
 | d,k + 1 => by
  obtain ⟨r,e⟩:=jT0 d k
  exact ⟨r ++ yT (d + k + 1),by rw [← Nat.add_assoc,qE0,e,List.append_assoc]⟩
theorem allTo_rise:(List.range 199).all (fun i => decide (cmpT ((allTo 8).getD i []) ((allTo 8).getD (i + 1) []) < 0)) = true:=by decide +kernel
theorem trees_all:lists8.all (fun t => !decide (canon t = t) || (yT t.length).contains t) = true:=by decide +kernel
theorem canT_mem {t:List Int} (h:canT t = true) {d:Nat} (hd:t.length ≤ d):t ∈ allTo d:=by
 unfold canT at h
 rw [Bool.and_eq_true] at h
 have h1:=lev8_all trees_all h.1
 rw [h.2] at h1
 have h2:t ∈ yT t.length:=by simpa using h1
 have hp:0 < t.length:=(kE h.1).pos
 unfold allTo
 rw [List.mem_flatMap]
 exact ⟨t.length - 1,List.mem_range.2 (by omega),by rw [Nat.sub_add_cancel hp];exact h2⟩
def posT (t:List Int):Nat:=(allTo 8).idxOf t
theorem allTo_pair:(allTo 8).Pairwise fun a b => cmpT a b < 0:=by
 refine jA0 (r:=fun a b => cmpT a b < 0) (fun a b d h1 h2 => yH.lt_tr h1 h2) (fun i hi => ?_)
 rw [vN] at hi
 have:=vX.1 allTo_rise i (by omega)
 rw [jU (by rw [vN];omega),jU (by rw [vN];omega)] at this
 exact of_decide_eq_true this
theorem pos_at {t:List Int} (h:canT t = true) {d:Nat} (hd:t.length ≤ d) (hd8:d ≤ 8):∃ hi:posT t < (allTo d).length,(allTo d)[posT t] = t∧(∀ k (hk:k < (allTo d).length),k < posT t→cmpT (allTo d)[k] t < 0)∧∀ k (hk:k < (allTo d).length),posT t ≤ k→0 ≤ cmpT (allTo d)[k] t:=by
 obtain ⟨r,e⟩:=jT0 d (8 - d)
 rw [Nat.add_sub_cancel' hd8] at e
 have hm:=canT_mem h hd
 have hp:posT t = (allTo d).idxOf t:=by
  unfold posT
  rw [e,List.idxOf_append,if_pos hm]
 have hi:posT t < (allTo d).length:=by rw [hp];exact List.idxOf_lt_length_of_mem hm
 have ht:(allTo d)[posT t] = t:=by
  have:(allTo d)[(allTo d).idxOf t]'(by rw [← hp];exact hi) = t:=List.getElem_idxOf _
  simp [hp]
 have hpw:(allTo d).Pairwise fun a b => cmpT a b < 0:=by
  have:=allTo_pair
  rw [e] at this
  exact (List.pairwise_append.1 this).1
 rw [List.pairwise_iff_getElem] at hpw
 refine ⟨hi,ht,fun k hk hlt => ?_,fun k hk hle => ?_⟩
 ·have:=hpw k (posT t) hk hi hlt
  rwa [ht] at this
 ·by_cases hq:k = posT t
  ·subst hq
   rw [ht,yH.refl]
   exact Int.le_refl _
  ·have:=hpw (posT t) k hi hk (by omega)
   rw [ht] at this
   have:=(yH.anti t (allTo d)[k]).1 this
   omega
def valF (vs:List Int):List (List Int)→Int→Int
 | [],c => c
 | t :: f,c => valF vs f (mP (c * vs.getD (posT t) 0))
def valE (vs:List Int):Elt→Int
 | [] => 0
 | p :: e => valF vs p.2 p.1 + valE vs e
def posOk (n:Nat) (e:Elt):Bool:=e.all fun p => p.2.all fun t => decide (posT t < n)
def valOf (e:Elt) (vs:List Int):Int × Int :=
 if elB e = true then (if (decide (vs.length ≤ 200) && vs.all isNum) = true then (if posOk vs.length e = true then (mP (valE vs e),0) else (0,2)) else (0,2)) else (0,1)
theorem mP_bd (n:Int):0 ≤ mP n∧mP n < 10007:=by unfold mP;omega
theorem valF_bd (vs:List Int):∀ (f:List (List Int)) (c:Int),0 ≤ c→c < 10007→0 ≤ valF vs f c∧valF vs f c < 10007
 | [],c,h1,h2 => ⟨h1,h2⟩
 | t :: f,c,_,_ => valF_bd vs f _ (mP_bd _).1 (mP_bd _).2
theorem valF_snoc (vs:List Int):∀ (f:List (List Int)) (t:List Int) (c:Int),valF vs (f ++ [t]) c = mP (valF vs f c * vs.getD (posT t) 0)
 | [],t,c => rfl
 | s :: f,t,c => valF_snoc vs f t _
theorem valE_snoc (vs:List Int):∀ (e:Elt) (p:Int × List (List Int)),valE vs (e ++ [p]) = valE vs e + valF vs p.2 p.1
 | [],p => by simp [valE]
 | q :: e,p => by simp only [List.cons_append,valE,valE_snoc vs e p];omega
theorem valE_bd (vs:List Int):∀ (e:Elt),(∀ p ∈ e,0 ≤ p.1∧p.1 < 10007)→0 ≤ valE vs e∧valE vs e ≤ 10007 * e.length
 | [],_ => by simp [valE]
 | p :: e,h => by
  have h1:=valE_bd vs e (fun q hq => h q (by simp [hq]))
  have h2:=h p (by simp)
  have h3:=valF_bd vs p.2 p.1 h2.1 h2.2
  simp only [valE,List.length_cons]
  omega
def plc (t:List Int):Int:=(posT t:Int) + 1
abbrev MC:=Int × List Int × Int
def mcut (c:Cu):MC:=(c.2,c.1.1.map plc,if c.1.2 = [] then 0 else plc c.1.2)
def eM (m:MC):List D:=[.int m.1,.sl 1 (m.2.1.map eI),.int m.2.2]
def cutsM (t:List Int):List MC:=(cutsL t).map mcut
def eMs (L:List MC):List D:=[.sl 3 (L.map eM)]
def T6:List (List Int):=allTo 6
def frmD:List D:=[.sl 1 (T6.map eL),.sl 1 ((T6.map cutsM).map eMs)]
theorem jA:T6.length = 37:=by decide +kernel
theorem T6_ok:∀ t ∈ T6,canT t = true∧t.length ≤ 6:=by
 have h:T6.all (fun t => canT t && decide (t.length ≤ 6)) = true:=by decide +kernel
 intro t ht
 have:=List.all_eq_true.1 h t ht
 simpa using this
theorem vH {t:List Int} (h:canT t = true):qW t∧canon t = t:=by
 unfold canT at h
 rw [Bool.and_eq_true] at h
 exact ⟨kE h.1,of_decide_eq_true h.2⟩
theorem canT_mk {t:List Int} (h:qW t) (hc:canon t = t) (h8:t.length ≤ 8):canT t = true:=by
 unfold canT
 rw [lev8_mk h h8,decide_eq_true hc];rfl
theorem plc_at {t:List Int} (h:canT t = true) (hl:t.length ≤ 6):∃ hi:posT t < T6.length,T6[posT t] = t∧(∀ k (hk:k < T6.length),k < posT t→cmpT T6[k] t < 0)∧∀ k (hk:k < T6.length),posT t ≤ k→0 ≤ cmpT T6[k] t:=pos_at h hl (by decide)
theorem plc_lt {t:List Int} (h:canT t = true) (hl:t.length ≤ 6):1 ≤ plc t∧plc t < 38:=by
 obtain ⟨hi,_⟩:=plc_at h hl
 rw [jA] at hi
 unfold plc;omega
theorem cuts6 {t:List Int} (ht:t ∈ T6):(cutsL t).length ≤ 256∧∀ x ∈ cutsL t,(1 ≤ x.2∧x.2 ≤ 256)∧(∀ c ∈ x.1.1,canT c = true∧c.length ≤ 6)∧x.1.1.length ≤ 8∧(x.1.2 = [] ∨ (canT x.1.2 = true∧x.1.2.length ≤ 6)):=by
 obtain ⟨h0,hl⟩:=T6_ok t ht
 obtain ⟨h,hc⟩:=vH h0
 have h0:=(yB (split t)).len
 rw [List.length_map] at h0
 have h1:=kM _ (Nat.le_refl _) h
 have h2:2 ^ t.length ≤ 2 ^ 8:=Nat.pow_le_pow_right (by decide) (by omega)
 refine ⟨by unfold cutsL;rw [List.length_map];omega,fun x hx => ?_⟩
 obtain ⟨z,hz,rfl⟩:=List.mem_map.1 hx
 obtain ⟨g1,g2,g3⟩:=wG (xO _ (Nat.le_refl _) h) z hz
 have hsum:=g3.2
 have one:∀ c ∈ z.1.1 ++ z.1.2,canT c = true∧c.length ≤ 6:=fun c hcm => by
  obtain ⟨k1,k2⟩:=g3.1 c hcm
  have hcl:c.length ≤ t.length:=by
   rcases List.mem_append.1 hcm with hm|hm
   ·have:=jN hm;omega
   ·have:=jN hm;omega
  exact ⟨canT_mk k1 k2 (by omega),by omega⟩
 refine ⟨⟨g1,by show z.2 ≤ 256;omega⟩,fun c hcm => one c (List.mem_append_left _ hcm),?_,?_⟩
 ·show z.1.1.length ≤ 8
  have:=len_sum (f:=z.1.1) (fun b hb => (g3.1 b (List.mem_append_left _ hb)).1)
  omega
 ·show z.1.2.headD [] = [] ∨ _
  match hz2:z.1.2 with
  | [] => exact .inl rfl
  | tr :: l =>
   have:=one tr (List.mem_append_right _ (by rw [hz2];simp))
   exact .inr (by show canT (z.1.2.headD []) = true∧(z.1.2.headD []).length ≤ 6;rw [hz2];exact this)
theorem c_BinarySearch (v1 v2:Value) (L:List (List Int)) (t:List Int) (i:Nat) (w:World) (h1:Rd (RS (RS RI)) w [v1] L) (h2:Rd (RS RI) w [v2] t) (hsz:L.length ≤ 1000000000) (hi:i < L.length)
  (hlo:∀ k (h:k < L.length),k < i→cmpT L[k] t < 0) (hhi:∀ k (h:k < L.length),i ≤ k→0 ≤ cmpT L[k] t) (heq:cmpT L[i] t = 0) :
  Calls Tryz.prog 179 #[v1,v2,.func (.func 119) #[] #[]] w (jT w (.tuple #[.int .i64 i,.bool true])):=by
 obtain ⟨oa,ca,L1⟩:=h1.lists
 obtain rfl:=L1.val
 have m1:=L1.le;have m2:=L1.capLe
 unfold maxLen at m2
 obtain ⟨ob,cb,rfl,m3,m4⟩:=h2.val
 have HL1:=Lib.hid L1
 have HLO:=Lib.hid hlo
 have HHI:=Lib.hid hhi
 have H2:=Lib.hid h2
 have HEQ:=Lib.hid heq
 clear L1 h1 hlo hhi h2 heq
 go_enter Tryz.func179,Tryz.ntmps179
 go_wp2_with fail
 go_loop [9,10] (fun s9 s10 => ∃ lo hi:Nat,lo ≤ i∧i ≤ hi∧hi ≤ L.length∧s9 = .int .i64 lo∧s10 = .int .i64 hi) (fun s9 s10 => (intOf s10).toNat - (intOf s9).toNat)
 case atStart => exact ⟨0,L.length,Nat.zero_le _,Nat.le_of_lt hi,Nat.le_refl _,rfl,rfl⟩
 case round =>
  obtain ⟨lo,hi',h1,h2,h3,rfl,rfl⟩:=hrel
  by_cases hlt:lo < hi'
  ·have hmn:(lo + hi') / 2 < L.length:=by omega
   obtain ⟨b1,o1,rfl,hb1,hc1⟩:=HL1.out.get hmn
   obtain ⟨oi,ci,g1,hrd1,q1,q2⟩:=hc1 _ hmn
   have hcall:=wK _ _ _ _ w hrd1 H2.out
   obtain ⟨z,hz⟩:∃ z,z = cmpT L[(lo + hi') / 2] t:=⟨_,rfl⟩
   obtain ⟨x1,hx1⟩:∃ x,x = L[(lo + hi') / 2].length:=⟨_,rfl⟩
   rw [← hz] at hcall
   rw [← hx1] at g1 q1 hcall
   have HC:=Lib.hid hcall
   have i1:(0:Int) ≤ ((lo:Int) + (hi':Int)) / 2:=by omega
   have i2:((lo:Int) + (hi':Int)) / 2 < (L.length:Int):=by omega
   by_cases hc:z < 0
   ·have hmi:(lo + hi') / 2 < i:=Nat.lt_of_not_le (fun h => by have:=HHI.out _ hmn h;omega)
    clear hc1 hrd1 hcall hx1 hz
    go_wp2_with (go_at_call 119;refine HC.out.mono ?_;rintro e w' ⟨rfl,rfl⟩)
    go_round
    case rel => exact ⟨(lo + hi') / 2 + 1,hi',by omega,by omega,by omega,by congr 1,rfl⟩
    case measure => simp [intOf];omega
   ·have hmi:i ≤ (lo + hi') / 2:=Nat.le_of_not_lt (fun h => by have:=HLO.out _ hmn h;omega)
    clear hc1 hrd1 hcall hx1 hz
    go_wp2_with (go_at_call 119;refine HC.out.mono ?_;rintro e w' ⟨rfl,rfl⟩)
    go_round
    case rel => exact ⟨lo,(lo + hi') / 2,by omega,by omega,by omega,rfl,by congr 1⟩
    case measure => simp [intOf];omega
  ·obtain rfl:lo = i:=by omega
   obtain ⟨b1,o1,rfl,hb1,hc1⟩:=HL1.out.get hi
   obtain ⟨oi,ci,g1,hrd1,q1,q2⟩:=hc1 _ hi
   have hcall:=wK _ _ _ _ w hrd1 H2.out
   rw [HEQ.out] at hcall
   obtain ⟨x1,hx1⟩:∃ x,x = L[lo].length:=⟨_,rfl⟩
   rw [← hx1] at g1 q1 hcall
   have HC:=Lib.hid hcall
   clear hc1 hrd1 hcall hx1
   go_wp2_with (go_at_call 119;refine HC.out.mono ?_;rintro e w' ⟨rfl,rfl⟩)
   go_ret2
   exact ⟨rfl,rfl⟩
theorem sub_flat {α:Type} {l1 l2:List (List α)} (h:l1.Sublist l2):l1.flatten.Sublist l2.flatten:=by
 induction h with
 | slnil => exact .slnil
 | cons a _ ih => rw [List.flatten_cons];exact ih.trans (List.sublist_append_right _ _)
 | cons_cons a _ ih => rw [List.flatten_cons,List.flatten_cons];exact List.Sublist.append (List.Sublist.refl _) ih
theorem lastD_get:∀ (t:List Int),t.getLastD 0 = t.getD (t.length - 1) 0
 | [] => rfl
 | x :: t => by simp [List.getLastD_eq_getLast?,List.getLast?_eq_getElem?,List.getD_eq_getElem?_getD]
theorem levP_snoc {t:List Int} {x:Int} (h:qW t) (h1:1 ≤ x) (h2:x ≤ t.getD (t.length - 1) 0 + 1):qW (t ++ [x]):=by
 have hp:=h.pos
 have hl:∀ {i:Nat} {d:Int},i < t.length→(t ++ [x]).getD i d = t.getD i d:=fun {i d} hi => by
  rw [List.getD_eq_getElem?_getD,List.getElem?_append_left hi,List.getD_eq_getElem?_getD]
 have hx:(t ++ [x]).getD t.length 0 = x:=by simp [List.getD_eq_getElem?_getD]
 refine ⟨by rw [hl hp];exact h.1,fun i hi hi2 => ?_⟩
 simp at hi hi2
 by_cases h3:i + 1 < t.length
 ·rw [hl h3,hl (by omega)];exact h.2 i (by omega) h3
 ·have e:i + 1 = t.length:=by omega
  rw [hl (show i < t.length by omega),e,hx]
  have e2:t.length - 1 = i:=by omega
  rw [e2] at h2
  exact ⟨h1,h2⟩
theorem flat_le {α:Type} (g:Nat→List α) {i k:Nat} (h:i ≤ k):((List.range i).flatMap g).length ≤ ((List.range k).flatMap g).length:=by
 rw [List.flatMap_def,List.flatMap_def]
 exact (sub_flat ((List.range_sublist.2 h).map g)).length_le
theorem a_l03Grow (n:Nat) (hn:n ≤ 8):∀ (f:Nat) (t:List Int) (out:List (List Int)),qW t→t.length ≤ n→n < t.length + f→out.length + (growF f t n).length ≤ 1000000 →
  AOw Tryz.prog 260 [eL t,eI n] 1 (out.map eL) [] (· = [.own 1 ((out ++ growF f t n).map eL) false])
 | 0,t,out,_,h1,h2,_ => by omega
 | f + 1,t,out,hlev,h1,h2,hsz => by
  have ih:=a_l03Grow n hn f
  have hca:=a_l03Canon t hlev (by omega)
  have hsa:=qL0 (canon t) t
  have how:=a_l01Own t (by omega)
  have hp:=hlev.pos
  refine AOw.of_runs (qJ 42) Tryz.func260 rfl rfl rfl gz ?_
  have hres:Tryz.f260.results.toList = [.tmp 6]:=rfl
  have hrts:Tryz.f260.resultTypes.toList = [36]:=rfl
  simp only [List.length_cons,List.length_nil,List.nil_append,List.cons_append,qU,qT,eL,eI,eLL,eB,Nat.zero_add,Nat.reduceAdd]
  intro M
  refine qQ.of ?_
  by_cases h:t.length = n
  ·have i1:((n:Int) == (n:Int)) = true:=beq_self_eq_true _
   have hg:growF (f + 1) t n = if canon t = t then [t] else []:=by
    conv => lhs;unfold growF
    rw [if_pos h]
   rw [hg] at hsz ⊢
   by_cases hc:canon t = t
   ·rw [if_pos hc] at hsz ⊢
    have hd:decide (canon t = t) = true:=decide_eq_true hc
    simp at hsz
    have q1:=jV (n:=out.length + 1) (by omega)
    have q2:=jW (n:=out.length + 1) (c:=24) (by omega) (by omega)
    refine gw127 (kk 8) (Y5 h i1 hd q1 q2) ?_
    exact gw123
   ·rw [if_neg hc] at hsz ⊢
    have hd:decide (canon t = t) = false:=decide_eq_false hc
    refine gw127 (kk 8) (Y3 h i1 hd) ?_
    (refine Ends.mk (by simp) (rs:=?_) (ks:=?_) hres hrts ?_ ?_ ?_;rotate_left 2;(focus (simp only [Ze,Zg,Zi,seval,List.append_nil];with_reducible rfl));(focus simp);focus (first|with_reducible rfl|(simp only [Zv,List.append_nil];done)))
  ·have i1:((t.length:Int) == (n:Int)) = false:=beq_eq_false_iff_ne.2 (by omega)
   have hg:growF (f + 1) t n = (List.range ((t.getLastD 0 + 1).toNat)).flatMap fun i => growF f (t ++ [t.getLastD 0 + 1 - (i:Nat)]) n:=by
    conv => lhs;unfold growF
    rw [if_neg h]
   rw [hg] at hsz ⊢
   obtain ⟨L,hL⟩:∃ L,L = t.getLastD 0:=⟨_,rfl⟩
   rw [← hL] at hsz ⊢
   have hL2:L = t.getD (t.length - 1) 0:=by rw [hL,lastD_get]
   have hLb:0 ≤ L∧L ≤ 8:=by
    have:=hlev.bd (t.length - 1) (by omega)
    rw [hL2,getD_in (by omega)];omega
   obtain ⟨g,hgd⟩:∃ g:Nat→List (List Int),g = fun i => growF f (t ++ [L + 1 - (i:Nat)]) n:=⟨_,rfl⟩
   rw [← hgd] at hsz ⊢
   have hw1:w64 ((t.length:Int) - 1) = ((t.length - 1:Nat):Int):=by rw [qN (by omega)];omega
   have hw2:w64 (L + 1) = L + 1:=qN (by omega)
   have i2:((0:Int) ≤ ((t.length - 1:Nat):Int)) = True:=eq_true (by omega)
   have i3:(((t.length - 1:Nat):Int) < (t.length:Int)) = True:=eq_true (by omega)
   have hj:(t.map eI)[t.length - 1]? = some [.int L]:=by
    rw [qD (by omega),hL2,getD_in (by omega)];rfl
   refine gw128 (kk 8) (Y6 i1 i2 i3 hw1 hw2 hj) ?_
   refine qQ.loop (β:=Nat) (γ:=Unit) (fun i => ⟨[(0,.c (.val (.sl 1 (t.map eI)))),(1,.c (.val (.int n))),(2,.c (.own 2 (out ++ (List.range i).flatMap g).length)),(7,.c (.val (.int (L + 1 - (i:Nat)))))],[(2,.row 1 ((out ++ (List.range i).flatMap g).map eL) false)]⟩)
    (fun i => i ≤ (L + 1).toNat) (fun i => (L + 1).toNat - i)
    (fun _ => ⟨[(2,.c (.own 2 (out ++ (List.range (L + 1).toNat).flatMap g).length))],[(2,.row 1 ((out ++ (List.range (L + 1).toNat).flatMap g).map eL) false)]⟩) (fun _ => True) 0 (Nat.zero_le _) ?_ ?_ ?_
   ·exact gw129
   ·intro i hi
    have hi:i ≤ (L + 1).toNat:=hi
    by_cases h3:i < (L + 1).toNat
    ·have j1:(L + 1 - (i:Nat) ≥ 1) = True:=eq_true (by omega)
     have hfl:=flat_le g (show i + 1 ≤ (L + 1).toNat by omega)
     have hsn:(List.range (i + 1)).flatMap g = (List.range i).flatMap g ++ g i:=by rw [List.range_succ,List.flatMap_append];simp
     have hih:=ih (t ++ [L + 1 - (i:Nat)]) (out ++ (List.range i).flatMap g) (levP_snoc hlev (by omega) (by rw [← hL2];omega)) (by simp;omega) (by simp;omega) (by
      rw [hsn] at hfl
      have e:(growF f (t ++ [L + 1 - (i:Nat)]) n).length = (g i).length:=by rw [hgd]
      rw [e]
      simp only [List.length_append] at hfl hsz ⊢
      omega)
     rw [show growF f (t ++ [L + 1 - (i:Nat)]) n = g i by rw [hgd],show eL (t ++ [L + 1 - (i:Nat)]) = [.sl 1 (t.map eI ++ [[.int (L + 1 - (i:Nat))]])] by simp [eL,eI],List.append_assoc,← hsn] at hih
     have q1:=jV (n:=t.length + 1) (by omega)
     have q2:=jW (n:=t.length + 1) (c:=8) (by omega) (by omega)
     have hw3:w64 (L + 1 - (i:Nat) - 1) = L + 1 - ((i + 1:Nat)):=by rw [qN (by omega)];omega
     refine gw7 (kk 8) j1 ?_
     refine qQ.regCut (qJ 42) (Tab.none.at' 133 how) 7 (s1:=?_) ?_ ?_
     rotate_left 1
     focus (refine Work.mk ?_;simp only [Zg,Zi,seval,eL,eI,List.length_map,q1,q2];with_reducible rfl)
     simp only [List.toList_toArray,List.drop_succ_cons,List.drop_zero]
     refine qY.frzs [37] ?_
     refine qY.opsT (qJ 42) (T:=Tab.none.own' 260 2 hih) (s':=?_) ?_ ?_
     rotate_left 1
     focus (simp only [Zg,Zi,seval,eL,eI,Tab.own',atOwn_eq];with_reducible rfl)
     refine gw7 (kk 8) hw3 ?_
     refine qZ.on (i + 1) ⟨h3,by omega⟩ ?_
     exact gw50
    ·have j1:(L + 1 - (i:Nat) ≥ 1) = False:=eq_false (by omega)
     obtain rfl:i = (L + 1).toNat:=by omega
     refine gw7 (kk 8) j1 ?_
     refine qZ.out () trivial ?_
     exact gw6 Y0
   ·rintro _ _
    refine gw7 (kk 8) Y0 ?_
    exact gw8
theorem a_l03Trees (n:Nat) (hn:n ∈ [1,2,3,4,5,6,7,8]):AFn Tryz.prog 219 [eI n] (· = [.own 1 ((yT n).map eL) false]):=by
 have hn8:1 ≤ n∧n ≤ 8:=by simp at hn;omega
 have hlen:(yT n).length ≤ 115:=by
  have:=trees_len
  simp at hn
  rcases hn with rfl|rfl|rfl|rfl|rfl|rfl|rfl|rfl <;> simp at this <;> omega
 have hg:=(a_l03Grow n hn8.2 9 [0] [] ⟨rfl,fun i h1 h2 => by simp at h2⟩ (by simp;omega) (by simp;omega) (by rw [grow_trees n hn];simp;omega)).nil (by decide)
 rw [grow_trees n hn,List.nil_append] at hg
 refine AFn.of_runs (qJ 6) Tryz.func219 rfl rfl rfl gz ?_
 have hres:Tryz.f219.results.toList = [.tmp 2]:=rfl
 have hrts:Tryz.f219.resultTypes.toList = [36]:=rfl
 simp only [qU,qT,eL,eI,eLL,eB,Nat.zero_add,Nat.reduceAdd]
 intro M
 refine qQ.of ?_
 refine gw7 (kk 3) Y0 ?_
 refine qQ.regCut (qJ 6) Tab.none 2 (s1:=?_) ?_ ?_
 rotate_left 1
 focus (refine Work.mk ?_;simp only [Zg,Zi,seval];with_reducible rfl)
 simp only [List.toList_toArray,List.drop_succ_cons,List.drop_zero]
 refine qY.frzs [3] ?_
 refine qY.callNil (qJ 6) (d:=5) (g:=260) (xs:=[.tmp 3,.tmp 4]) (tx:=[24,2]) (pre:=[eL [0],eI n]) rfl (by decide) rfl rfl rfl rfl rfl rfl hg rfl ?_
 refine qY.opsT (qJ 6) (T:=Tab.none) (s':=?_) ?_ ?_
 rotate_left 1
 focus (simp only [Zg,Zi,seval];with_reducible rfl)
 refine gw7 (kk 3) Y0 ?_
 exact gw8
theorem allTo_le {d:Nat} (h:d ≤ 8):(allTo d).length ≤ 200:=by
 obtain ⟨r,e⟩:=jT0 d (8 - d)
 rw [Nat.add_sub_cancel' h] at e
 have:=vN
 rw [e,List.length_append] at this
 omega
theorem a_treesTo (n:Nat) (hn:n ≤ 8):AFn Tryz.prog 113 [eI n] (· = [.own 1 ((allTo n).map eL) false]):=by
 refine AFn.of_runs (qJ 16) Tryz.func113 rfl rfl rfl gz ?_
 have hres:Tryz.f113.results.toList = [.tmp 2]:=rfl
 have hrts:Tryz.f113.resultTypes.toList = [36]:=rfl
 simp only [qU,qT,eL,eI,eLL,eB,Nat.zero_add,Nat.reduceAdd]
 intro M
 refine qQ.of ?_
 refine gw7 (kk 5) Y0 ?_
 refine qQ.loop (β:=Nat) (γ:=Unit) (fun i => ⟨[(0,.c (.val (.int n))),(3,.c (.own 3 (allTo i).length)),(4,.c (.val (.int ((i + 1:Nat):Int))))],[(3,.row 1 ((allTo i).map eL) false)]⟩) (fun i => i ≤ n) (fun i => n - i)
  (fun _ => ⟨[(3,.c (.own 3 (allTo n).length))],[(3,.row 1 ((allTo n).map eL) false)]⟩) (fun _ => True) 0 (Nat.zero_le _) ?_ ?_ ?_
 ·exact gw130 (show allTo 0 = [] from rfl)
 ·intro i hi
  have hi:i ≤ n:=hi
  by_cases h:i < n
  ·have j1:(((i + 1:Nat):Int) ≤ (n:Int)) = True:=eq_true (by omega)
   have ht:=a_treesOf (i + 1) (by simp;omega)
   have hw:=qH (n:=i + 1) (by omega)
   have hlen:=allTo_le (show i + 1 ≤ 8 by omega)
   rw [qE0,List.length_append] at hlen
   have q1:=jV (n:=(allTo i).length + (yT (i + 1)).length) (by omega)
   have q2:=jW (n:=(allTo i).length + (yT (i + 1)).length) (c:=24) (by omega) (by omega)
   refine gw131 (kk 5) (Y4 j1 hw q1 q2) ?_
   refine qZ.on (i + 1) ⟨h,by omega⟩ ?_
   rw [qE0]
   exact gw6 Y0
  ·have j1:(((i + 1:Nat):Int) ≤ (n:Int)) = False:=eq_false (by omega)
   obtain rfl:i = n:=by omega
   refine gw7 (kk 5) j1 ?_
   refine qZ.out () trivial ?_
   exact gw6 Y0
 ·rintro _ _
  refine gw7 (kk 5) Y0 ?_
  exact gw8
theorem a_l03All (n:Nat) (hn:n ≤ 8):AFn Tryz.prog 174 [eI n] (· = [.own 1 ((allTo n).map eL) false]):=by
 refine AFn.of_runs (qJ 16) Tryz.func174 rfl rfl rfl gz ?_
 have hres:Tryz.f174.results.toList = [.tmp 2]:=rfl
 have hrts:Tryz.f174.resultTypes.toList = [36]:=rfl
 simp only [qU,qT,eL,eI,eLL,eB,Nat.zero_add,Nat.reduceAdd]
 intro M
 refine qQ.of ?_
 refine gw7 (kk 5) Y0 ?_
 refine qQ.loop (β:=Nat) (γ:=Unit) (fun i => ⟨[(0,.c (.val (.int n))),(3,.c (.own 3 (allTo i).length)),(4,.c (.val (.int ((i + 1:Nat):Int))))],[(3,.row 1 ((allTo i).map eL) false)]⟩) (fun i => i ≤ n) (fun i => n - i)
  (fun _ => ⟨[(3,.c (.own 3 (allTo n).length))],[(3,.row 1 ((allTo n).map eL) false)]⟩) (fun _ => True) 0 (Nat.zero_le _) ?_ ?_ ?_
 ·exact gw130 (show allTo 0 = [] from rfl)
 ·intro i hi
  have hi:i ≤ n:=hi
  by_cases h:i < n
  ·have j1:(((i + 1:Nat):Int) ≤ (n:Int)) = True:=eq_true (by omega)
   have ht:=a_l03Trees (i + 1) (by simp;omega)
   have hw:=qH (n:=i + 1) (by omega)
   have hlen:=allTo_le (show i + 1 ≤ 8 by omega)
   rw [qE0,List.length_append] at hlen
   have q1:=jV (n:=(allTo i).length + (yT (i + 1)).length) (by omega)
   have q2:=jW (n:=(allTo i).length + (yT (i + 1)).length) (c:=24) (by omega) (by omega)
   refine gw132 (kk 5) (Y4 j1 hw q1 q2) ?_
   refine qZ.on (i + 1) ⟨h,by omega⟩ ?_
   rw [qE0]
   exact gw6 Y0
  ·have j1:(((i + 1:Nat):Int) ≤ (n:Int)) = False:=eq_false (by omega)
   obtain rfl:i = n:=by omega
   refine gw7 (kk 5) j1 ?_
   refine qZ.out () trivial ?_
   exact gw6 Y0
 ·rintro _ _
  refine gw7 (kk 5) Y0 ?_
  exact gw8
theorem a_l03Find (L:List (List Int)) (t:List Int) (p:Nat) (hl:L.length ≤ 1000000) (hp:p < L.length) (ht:L[p] = t) (hne:∀ k (h:k < L.length),k < p→L[k] ≠ t):AFn Tryz.prog 175 [eLL L,eL t] (· = [.val (.int p)]):=by
 refine AFn.of_runs (qJ 19) Tryz.func175 rfl rfl rfl gz ?_
 have hres:Tryz.f175.results.toList = [.tmp 4]:=rfl
 have hrts:Tryz.f175.resultTypes.toList = [2]:=rfl
 simp only [qU,qT,eL,eI,eLL,eB,Nat.zero_add,Nat.reduceAdd]
 intro M
 refine qQ.of ?_
 refine gw7 (kk 6) Y0 ?_
 refine qQ.loop (β:=Nat) (γ:=Unit) (fun i => ⟨[(0,.c (.val (.sl 1 (L.map eL)))),(1,.c (.val (.sl 1 (t.map eI)))),(5,.c (.val (.int i)))],[]⟩) (fun i => i ≤ p) (fun i => L.length - i)
  (fun _ => ⟨[],[]⟩) (fun _ => False) 0 (Nat.zero_le _) ?_ ?_ ?_
 ·exact gw6 Y0
 ·intro i hi
  have hi:i ≤ p:=hi
  have i1:((i:Int) < (L.length:Int)) = True:=eq_true (by omega)
  have i2:((0:Int) ≤ (i:Int)) = True:=eq_true (by omega)
  obtain ⟨s,hs⟩:∃ s,s = L[i]:=⟨_,rfl⟩
  have hg:(L.map eL)[i]? = some [.sl 1 (s.map eI)]:=by rw [qD (by omega),hs];rfl
  have ha:=qL0 s t
  by_cases h:i = p
  ·have e:s = t:=by rw [hs,← ht];congr
   rw [decide_eq_true e] at ha
   rw [← h]
   refine gw133 (kk 6) (Y3 i1 i2 hg) ?_
   refine qZ.ret ?_
   refine gw7 (kk 6) Y0 ?_
   exact gw8
  ·have e:¬ s = t:=by rw [hs];exact hne i (by omega) (by omega)
   have hw:=qH (n:=i) (by omega)
   rw [decide_eq_false e] at ha
   refine gw133 (kk 6) (Y4 i1 i2 hg hw) ?_
   refine qZ.on (i + 1) ⟨show i + 1 ≤ p by omega,by omega⟩ ?_
   exact gw6 Y0
 ·rintro _ h
  exact absurd h id
theorem c_indexIn (v1 v2:Value) (L:List (List Int)) (t:List Int) (i:Nat) (w:World) (h1:Rd (RS (RS RI)) w [v1] L) (h2:Rd (RS RI) w [v2] t) (hsz:L.length ≤ 1000000000) (hi:i < L.length)
  (hlo:∀ k (h:k < L.length),k < i→cmpT L[k] t < 0) (hhi:∀ k (h:k < L.length),i ≤ k→0 ≤ cmpT L[k] t) (heq:cmpT L[i] t = 0) :
  Calls Tryz.prog 115 #[v1,v2] w (jT w (.int .i64 i)):=by
 have hb:=Lib.hid (c_BinarySearch v1 v2 L t i w h1 h2 hsz hi hlo hhi heq)
 clear h1 h2 hlo hhi heq
 go_enter Tryz.func115,Tryz.ntmps115
 go_wp2_with (go_at_call 179;refine hb.out.mono ?_;rintro e w' ⟨rfl,rfl⟩)
 go_ret
 exact ⟨rfl,rfl⟩
theorem a_indexIn (L:List (List Int)) (t:List Int) (i:Nat) (hsz:L.length ≤ 1000000000) (hi:i < L.length) (heq:L[i] = t)
  (hlo:∀ k (h:k < L.length),k < i→cmpT L[k] t < 0) (hhi:∀ k (h:k < L.length),i ≤ k→0 ≤ cmpT L[k] t):AFn Tryz.prog 115 [eLL L,eL t] (· = [.val (.int i)]) :=
 AFn.of_s (v:=.int .i64 _) (enters_of Tryz.func115 rfl rfl) (fun _ _ => jZ.2 ⟨rfl,by unfold qC;omega⟩) (fun w A vs ⟨v1,_,e1,h1,v2,_,e2,h2,e3⟩ => by
  subst e3;subst e2;subst e1
  exact c_indexIn v1 v2 L t i w (Rd.of (rdLL h1)) (Rd.of (rd1 h2)) hsz hi hlo hhi (by rw [heq];exact yH.refl t))
theorem a_place (X:List (List D)) (t:List Int) (h:canT t = true) (hl:t.length ≤ 6):AFn Tryz.prog 167 [[.sl 1 (T6.map eL),.sl 1 X],[.sl 1 (t.map eI)]] (· = [.val (.int (plc t))]):=by
 obtain ⟨p1,p2,p3,p4⟩:=plc_at h hl
 have hix:=a_indexIn T6 t (posT t) (by rw [jA];omega) p1 p2 p3 p4
 rw [jA] at p1
 have hw:=qH (n:=posT t) (by omega)
 simp only [eL,eLL] at hix
 refine AFn.of_runs (qJ 10) Tryz.func167 rfl rfl rfl gz ?_
 have hres:Tryz.f167.results.toList = [.tmp 4]:=rfl
 have hrts:Tryz.f167.resultTypes.toList = [3]:=rfl
 simp only [qU,qT,eL,eI,eLL,eB,Nat.zero_add,Nat.reduceAdd]
 intro M
 refine qQ.of ?_
 refine gw134 (kk 5) hw ?_
 exact gw135
theorem s_newForms:AFnS Tryz.prog 108 [] frmD:=by
 have hto:AFn Tryz.prog 113 [[.int 6]] (· = [.val (.sl 1 (T6.map eL))]):=AFn.val1 (a_treesTo 6 (by decide))
 obtain ⟨T,hT⟩:∃ T,T = T6.map eL:=⟨_,rfl⟩
 have hTl:T.length = 37:=by rw [hT,List.length_map,jA]
 rw [← hT] at hto
 have hfin:frmD = [.sl 1 T,.sl 1 ((T6.map cutsM).map eMs)]:=by rw [hT];rfl
 rw [hfin]
 refine AFnS.of_runs (qJ 68) Tryz.func108 rfl rfl rfl gz ?_
 simp only [qU,qT,eL,eI,eLL,eB,Nat.zero_add,Nat.reduceAdd]
 intro M
 refine qQ.of ?_
 ((refine gw74 (kk 34) Y0 ?_);with_reducible (apply QS (qJ 68) Tab.none;refine QW ?_;simp only [Zg,Zi,seval];rfl);(refine gw74 (kk 34) Y0 ?_))
 ((refine gw74 (kk 34) Y0 ?_);(with_reducible refine qQ.regCut (qJ 68) (Tab.none.at' 113 hto) 3 (s1:=?_) ?_ ?_);rotate_left 1;(focus ((with_reducible refine QW ?_);simp only [Zg,Zi,seval];with_reducible rfl));simp only [List.toList_toArray,List.drop_succ_cons,List.drop_zero])
 refine qY.nilOwn 11 5001 (k:=1) (pre:=[.val (.sl 1 T)]) (post:=[]) rfl (by decide) rfl ?_
 refine qY.storeA (qJ 68) (key:=1) (j:=0) rfl rfl rfl rfl rfl rfl (cs:=[.val (.sl 1 T),.own 5001 0]) rfl rfl rfl (r:=[.val (.sl 1 []),.val (.sl 1 [])]) rfl (Nat.le_of_ble_eq_true rfl) ?_
 refine qY.nil ?_
 ((refine gw74 (kk 34) Y0 ?_);(with_reducible refine qQ.regCut (qJ 68) Tab.none 1 (s1:=?_) ?_ ?_);rotate_left 1;(focus ((with_reducible refine QW ?_);simp only [Zg,Zi,seval];with_reducible rfl));simp only [List.toList_toArray,List.drop_succ_cons,List.drop_zero])
 refine qY.loadA (qJ 68) (d:=13) rfl rfl rfl (by decide) rfl rfl (cs:=[.val (.sl 1 T),.own 5001 0]) rfl (av:=.c (.val (.sl 1 T))) rfl ?_
 (refine qY.opsT (qJ 68) (T:=Tab.none) (s':=?_) ?_ ?_;rotate_left 1;focus (simp only [Zg,Zi,seval,hTl];with_reducible rfl))
 refine qQ.loop (β:=Nat) (γ:=Unit) (fun i => ⟨[(0,.optr 0 0 0),(1,.optr 1 0 0),(13,.c (.val (.sl 1 T))),(14,.c (.val (.int 37))),(15,.c (.val (.int i)))],[(0,.row 2 [[.sl 1 [],.sl 1 []]] true),(1,.lit 2 [[.val (.sl 1 T),.own 5001 i]]),(5001,.row 1 (((T6.take i).map cutsM).map eMs) false)]⟩) (fun i => i ≤ 37) (fun i => 37 - i)
  (fun _ => ⟨[(0,.optr 0 0 0),(1,.optr 1 0 0)],[(0,.row 2 [[.sl 1 [],.sl 1 []]] true),(1,.lit 2 [[.val (.sl 1 T),.own 5001 37]]),(5001,.row 1 ((T6.map cutsM).map eMs) false)]⟩) (fun _ => True) 0 (Nat.zero_le _) ?_ ?_ ?_
 ·exact gw136
 ·intro i hi
  have hi:i ≤ 37:=hi
  have hw:=qH (n:=i) (by omega)
  by_cases hi37:i < 37
  ·have i1:((i:Int) < 37) = True:=eq_true (by omega)
   have i2:((0:Int) ≤ (i:Int)) = True:=eq_true (by omega)
   have hiT:i < T6.length:=by rw [jA];exact hi37
   obtain ⟨t,ht⟩:∃ t,t = T6[i]:=⟨_,rfl⟩
   have htm:t ∈ T6:=by rw [ht];exact List.getElem_mem _
   have hg:T[i]? = some [.sl 1 (t.map eI)]:=by rw [hT,qD hiT,ht];rfl
   have htk:((T6.take (i + 1)).map cutsM).map eMs = ((T6.take i).map cutsM).map eMs ++ [[.sl 3 ((cutsM t).map eM)]]:=by
    rw [ht,List.take_succ_eq_append_getElem hiT,List.map_append,List.map_append];rfl
   obtain ⟨R,hR⟩:∃ R,R = ((T6.take i).map cutsM).map eMs:=⟨_,rfl⟩
   have hRl:R.length = i:=by rw [hR,List.length_map,List.length_map,List.length_take];omega
   rw [← hR] at htk ⊢
   obtain ⟨hct,hcl⟩:=T6_ok t htm
   obtain ⟨hlev,_⟩:=vH hct
   have hcu:AFn Tryz.prog 58 [[.sl 1 (t.map eI)]] (· = [.val (.sl 3 ((cutsL t).map eCu))]):=AFn.valT (a_cutsOf t hlev (by omega))
   obtain ⟨hLn,hLok⟩:=cuts6 htm
   obtain ⟨L,hL⟩:∃ L,L = cutsL t:=⟨_,rfl⟩
   have hcm:cutsM t = L.map mcut:=by rw [hL];rfl
   rw [hcm] at htk
   rw [← hL] at hcu hLn hLok
   have hLm:(L.map eCu).length = L.length:=List.length_map _
   refine gw137 (kk 34) (Y4 i1 i2 hg hTl) ?_
   refine qQ.loop (β:=Nat) (γ:=Unit) (fun j => ⟨[(0,.optr 0 0 0),(1,.optr 1 0 0),(4,.c (.own 4 j)),(13,.c (.val (.sl 1 T))),(14,.c (.val (.int 37))),(15,.c (.val (.int i))),(21,.c (.val (.sl 3 (L.map eCu)))),(22,.c (.val (.int L.length))),(23,.c (.val (.int j)))],[(0,.row 2 [[.sl 1 [],.sl 1 []]] true),(1,.lit 2 [[.val (.sl 1 T),.own 5001 i]]),(4,.row 3 (((L.take j).map mcut).map eM) false),(5001,.row 1 R false)]⟩) (fun j => j ≤ L.length) (fun j => L.length - j)
    (fun _ => ⟨[(0,.optr 0 0 0),(1,.optr 1 0 0),(4,.c (.own 4 L.length)),(13,.c (.val (.sl 1 T))),(14,.c (.val (.int 37))),(15,.c (.val (.int i)))],[(0,.row 2 [[.sl 1 [],.sl 1 []]] true),(1,.lit 2 [[.val (.sl 1 T),.own 5001 i]]),(4,.row 3 ((L.map mcut).map eM) false),(5001,.row 1 R false)]⟩) (fun _ => True) 0 (Nat.zero_le _) ?_ ?_ ?_
   ·exact gw136
   ·intro j hj
    have hj:j ≤ L.length:=hj
    have hwj:=qH (n:=j) (by omega)
    by_cases hjL:j < L.length
    ·have j1:((j:Int) < (L.length:Int)) = True:=eq_true (by omega)
     have j2:((0:Int) ≤ (j:Int)) = True:=eq_true (by omega)
     obtain ⟨x,hx⟩:∃ x,x = L[j]:=⟨_,rfl⟩
     have hxg:(L.map eCu)[j]? = some [.sl 1 (x.1.1.map eL),.sl 1 (x.1.2.map eI),.int x.2]:=by rw [qD hjL,hx];rfl
     obtain ⟨hx1,hx2,hx3,hx4⟩:=hLok L[j] (List.getElem_mem _)
     rw [← hx] at hx1 hx2 hx3 hx4
     have hxk:((L.take (j + 1)).map mcut).map eM = ((L.take j).map mcut).map eM ++ [eM (mcut x)]:=by
      rw [hx,List.take_succ_eq_append_getElem hjL,List.map_append,List.map_append];rfl
     have hrl:(((L.take j).map mcut).map eM).length = j:=by rw [List.length_map,List.length_map,List.length_take];omega
     obtain ⟨⟨cr,tr⟩,n⟩:=x
     simp only at hxg hx1 hx2 hx3 hx4
     have q1:=jV (n:=j + 1) (by omega)
     have q2:=jW (n:=j + 1) (c:=40) (by omega) (by omega)
     ((refine gw74 (kk 34) j1 ?_);with_reducible (apply QS (qJ 68) Tab.none;refine QW ?_;simp only [Zg,Zi,seval,j1];rfl);(refine gw74 (kk 34) j1 ?_))
     ((refine gw75 (kk 34) (Y4 j1 j2 hxg hLm) ?_);with_reducible (apply QS (qJ 68) Tab.none;refine QW ?_;simp only [Zg,Zi,seval,j1,j2,hxg,hLm,Int.toNat_natCast];rfl);(refine gw75 (kk 34) (Y4 j1 j2 hxg hLm) ?_))
     ((refine gw74 (kk 34) Y0 ?_);(with_reducible refine qQ.regCut (qJ 68) Tab.none 4 (s1:=?_) ?_ ?_);rotate_left 1;(focus ((with_reducible refine QW ?_);simp only [Zg,Zi,seval];with_reducible rfl));simp only [List.toList_toArray,List.drop_succ_cons,List.drop_zero])
     refine qY.nilOwn 29 5007 (k:=1) (pre:=[.val (.int n)]) (post:=[.val (.int 0)]) rfl (by decide) rfl ?_
     refine qY.storeA (qJ 68) (key:=7) (j:=0) rfl rfl rfl rfl rfl rfl (cs:=[.val (.int n),.own 5007 0,.val (.int 0)]) rfl rfl rfl (r:=[.val (.int 0),.val (.sl 1 []),.val (.int 0)]) rfl (Nat.le_of_ble_eq_true rfl) ?_
     refine qY.nil ?_
     have hcm':(cr.map eL).length = cr.length:=List.length_map _
     refine gw27 (kk 34) hcm' ?_
     refine qQ.loop (β:=Nat) (γ:=Unit) (fun q => ⟨[(0,.optr 0 0 0),(1,.optr 1 0 0),(4,.c (.own 4 j)),(6,.optr 6 0 0),(7,.optr 7 0 0),(13,.c (.val (.sl 1 T))),(14,.c (.val (.int 37))),(15,.c (.val (.int i))),(21,.c (.val (.sl 3 (L.map eCu)))),(22,.c (.val (.int L.length))),(23,.c (.val (.int j))),(31,.c (.val (.sl 1 (cr.map eL)))),(32,.c (.val (.int cr.length))),(33,.c (.val (.int q)))],[(0,.row 2 [[.sl 1 [],.sl 1 []]] true),(1,.lit 2 [[.val (.sl 1 T),.own 5001 i]]),(4,.row 3 (((L.take j).map mcut).map eM) false),(6,.row 3 [[.sl 1 (cr.map eL),.sl 1 (tr.map eI),.int n]] false),(7,.lit 3 [[.val (.int n),.own 5007 q,.val (.int 0)]]),(5001,.row 1 R false),(5007,.row 1 (((cr.take q).map plc).map eI) false)]⟩) (fun q => q ≤ cr.length) (fun q => cr.length - q)
      (fun _ => ⟨[(0,.optr 0 0 0),(1,.optr 1 0 0),(4,.c (.own 4 j)),(6,.optr 6 0 0),(7,.optr 7 0 0),(13,.c (.val (.sl 1 T))),(14,.c (.val (.int 37))),(15,.c (.val (.int i))),(21,.c (.val (.sl 3 (L.map eCu)))),(22,.c (.val (.int L.length))),(23,.c (.val (.int j)))],[(0,.row 2 [[.sl 1 [],.sl 1 []]] true),(1,.lit 2 [[.val (.sl 1 T),.own 5001 i]]),(4,.row 3 (((L.take j).map mcut).map eM) false),(6,.row 3 [[.sl 1 (cr.map eL),.sl 1 (tr.map eI),.int n]] false),(7,.lit 3 [[.val (.int n),.own 5007 cr.length,.val (.int 0)]]),(5001,.row 1 R false),(5007,.row 1 ((cr.map plc).map eI) false)]⟩) (fun _ => True) 0 (Nat.zero_le _) ?_ ?_ ?_
     ·exact gw136
     ·intro q hq
      have hq:q ≤ cr.length:=hq
      have hwq:=qH (n:=q) (by omega)
      by_cases hqc:q < cr.length
      ·have k1:((q:Int) < (cr.length:Int)) = True:=eq_true (by omega)
       have k2:((0:Int) ≤ (q:Int)) = True:=eq_true (by omega)
       obtain ⟨c,hc⟩:∃ c,c = cr[q]:=⟨_,rfl⟩
       have hcg:(cr.map eL)[q]? = some [.sl 1 (c.map eI)]:=by rw [qD hqc,hc];rfl
       have hck:((cr.take (q + 1)).map plc).map eI = ((cr.take q).map plc).map eI ++ [[.int (plc c)]]:=by
        rw [hc,List.take_succ_eq_append_getElem hqc,List.map_append,List.map_append];rfl
       obtain ⟨C,hC⟩:∃ C,C = ((cr.take q).map plc).map eI:=⟨_,rfl⟩
       have hCl:C.length = q:=by rw [hC,List.length_map,List.length_map,List.length_take];omega
       obtain ⟨c1,c2⟩:=hx2 cr[q] (List.getElem_mem _)
       rw [← hc] at c1 c2
       have hpl:=a_place R c c1 c2
       rw [← hT] at hpl
       rw [← hC] at hck ⊢
       have r1:=jV (n:=q + 1) (by omega)
       have r2:=jW (n:=q + 1) (c:=8) (by omega) (by omega)
       have r3:(q ≤ 140737488355327) = True:=eq_true (by omega)
       ((refine gw74 (kk 34) k1 ?_);with_reducible (apply QS (qJ 68) Tab.none;refine QW ?_;simp only [Zg,Zi,seval,k1];rfl);(refine gw74 (kk 34) k1 ?_))
       ((refine gw75 (kk 34) (Y4 k1 k2 hcg hcm') ?_);with_reducible (apply QS (qJ 68) Tab.none;refine QW ?_;simp only [Zg,Zi,seval,k1,k2,hcg,hcm',Int.toNat_natCast];rfl);(refine gw75 (kk 34) (Y4 k1 k2 hcg hcm') ?_))
       ((refine gw74 (kk 34) Y0 ?_);(with_reducible refine qQ.wFl (qJ 68) (Tab.none.at' 167 hpl) qA [42] [38,39] (tr:=?_) (s1:=?_) (rest:=?_) ?_ ?_ ?_);rotate_left 3;(focus ((with_reducible refine QW ?_);simp only [Zg,Zd,Zi,seval,drunL,devalL,devalA,kJ,aloadA,rowA,drunF,xT,xN,valD,kU,List.contains_cons,List.contains_nil];with_reducible rfl));focus ((with_reducible refine QK ?_);simp only [Zk];kernel_rfl))
       refine qY.killL 7 5007 (k:=3) (r:=[.val (.int n),.own 5007 q,.val (.int 0)]) rfl ?_
       ((with_reducible refine qY.cut (qJ 68) Tab.none 1 (s1:=?_) ?_ ?_);rotate_left 1;(focus ((with_reducible refine QW ?_);simp only [Zg,Zi,seval,hCl,r1,r2,r3,List.map_cons,List.map_nil,AC.kill];with_reducible rfl));simp only [List.drop_succ_cons,List.drop_zero])
       refine qY.renR 43 5007 (by decide) rfl rfl rfl ?_
       ((with_reducible refine qY.cut (qJ 68) Tab.none 1 (s1:=?_) ?_ ?_);rotate_left 1;(focus ((with_reducible refine QW ?_);simp only [Zg,Zi,seval];with_reducible rfl));simp only [List.drop_succ_cons,List.drop_zero])
       refine qY.storeA (qJ 68) (key:=7) (j:=1) rfl rfl rfl rfl rfl rfl (cs:=[.own 5007 (q + 1)]) rfl rfl rfl (r:=[.val (.int n),.junk,.val (.int 0)]) rfl (Nat.le_of_ble_eq_true rfl) ?_
       refine qY.nil ?_
       refine gw27 (kk 34) hwq ?_
       refine qZ.on (q + 1) ⟨hqc,by omega⟩ ?_
       rw [hck]
       exact gw111
      ·have k1:((q:Int) < (cr.length:Int)) = False:=eq_false (by omega)
       obtain rfl:q = cr.length:=by omega
       refine gw27 (kk 34) k1 ?_
       refine qZ.out () trivial ?_
       rw [List.take_length]
       exact gw111
     ·rintro _ _
      refine qQ.frz 5007 ?_
      refine qQ.fits (s0:=⟨[(0,.optr 0 0 0),(1,.optr 1 0 0),(4,.c (.own 4 j)),(6,.optr 6 0 0),(7,.optr 7 0 0),(13,.c (.val (.sl 1 T))),(14,.c (.val (.int 37))),(15,.c (.val (.int i))),(21,.c (.val (.sl 3 (L.map eCu)))),(22,.c (.val (.int L.length))),(23,.c (.val (.int j)))],[(0,.row 2 [[.sl 1 [],.sl 1 []]] true),(1,.lit 2 [[.val (.sl 1 T),.own 5001 i]]),(4,.row 3 (((L.take j).map mcut).map eM) false),(6,.row 3 [[.sl 1 (cr.map eL),.sl 1 (tr.map eI),.int n]] false),(7,.lit 3 [[.val (.int n),.val (.sl 1 ((cr.map plc).map eI)),.val (.int 0)]]),(5001,.row 1 R false)]⟩) ?_ ?_
      ·exact gw138
      refine qQ.litRow 7 [.int n,.sl 1 ((cr.map plc).map eI),.int 0] rfl ?_
      by_cases htr:tr = []
      ·subst htr
       have t1:((([]:List Int).length:Int) > 0) = False:=eq_false (by simp)
       have hmc:eM (mcut ((cr,[]),n)) = [.int n,.sl 1 ((cr.map plc).map eI),.int 0]:=rfl
       rw [hmc] at hxk
       refine gw32 (kk 34) (Y5 t1 hrl hwj q1 q2) ?_
       refine qZ.on (j + 1) ⟨hjL,by omega⟩ ?_
       rw [hxk]
       exact gw111
      ·obtain ⟨d1,d2⟩:=hx4.resolve_left htr
       have htl:0 < tr.length:=List.length_pos_iff.2 htr
       have t1:((tr.length:Int) > 0) = True:=eq_true (by omega)
       have hmc:eM (mcut ((cr,tr),n)) = [.int n,.sl 1 ((cr.map plc).map eI),.int (plc tr)]:=by
        unfold mcut eM
        simp only [if_neg htr]
       rw [hmc] at hxk
       have hpl:=a_place R tr d1 d2
       rw [← hT] at hpl
       ((refine gw78 (kk 34) t1 ?_);with_reducible (apply QS (qJ 68) Tab.none;refine QW ?_;simp only [Zg,Zi,seval,t1,List.length_map];rfl);(refine gw78 (kk 34) t1 ?_))
       ((refine gw74 (kk 34) t1 ?_);(with_reducible refine qQ.regCut (qJ 68) Tab.none 0 (s1:=?_) ?_ ?_);rotate_left 1;(focus ((with_reducible refine QW ?_);simp only [Zg,Zi,seval,t1];with_reducible rfl));simp only [List.toList_toArray,List.drop_succ_cons,List.drop_zero])
       refine qY.loadA (qJ 68) (d:=50) rfl rfl rfl (by decide) rfl rfl (cs:=[.val (.sl 1 T),.own 5001 i]) rfl (av:=.agg [.val (.sl 1 T),.own 5001 i]) rfl ?_
       (refine qY.opsT (qJ 68) (T:=Tab.none.at' 167 hpl) (s':=?_) ?_ ?_;rotate_left 1;focus (simp only [Zg,Zi,seval];with_reducible rfl))
       refine gw32 (kk 34) (Y4 hrl hwj q1 q2) ?_
       refine qZ.on (j + 1) ⟨hjL,by omega⟩ ?_
       rw [hxk]
       exact gw111
    ·have j1:((j:Int) < (L.length:Int)) = False:=eq_false (by omega)
     obtain rfl:j = L.length:=by omega
     refine gw27 (kk 34) j1 ?_
     refine qZ.out () trivial ?_
     rw [List.take_length]
     exact gw111
   ·rintro _ _
    refine qQ.frz 4 ?_
    refine qQ.fits (s0:=⟨[(0,.optr 0 0 0),(1,.optr 1 0 0),(4,.c (.val (.sl 3 ((L.map mcut).map eM)))),(13,.c (.val (.sl 1 T))),(14,.c (.val (.int 37))),(15,.c (.val (.int i)))],[(0,.row 2 [[.sl 1 [],.sl 1 []]] true),(1,.lit 2 [[.val (.sl 1 T),.own 5001 i]]),(5001,.row 1 R false)]⟩) ?_ ?_
    ·exact gw138
    have q1:=jV (n:=i + 1) (by omega)
    have q2:=jW (n:=i + 1) (c:=24) (by omega) (by omega)
    ((refine gw74 (kk 34) Y0 ?_);(with_reducible refine qQ.regCut (qJ 68) Tab.none 1 (s1:=?_) ?_ ?_);rotate_left 1;(focus ((with_reducible refine QW ?_);simp only [Zg,Zi,seval];with_reducible rfl));simp only [List.toList_toArray,List.drop_succ_cons,List.drop_zero])
    refine qY.loadA (qJ 68) (d:=61) rfl rfl rfl (by decide) rfl rfl (cs:=[.own 5001 i]) rfl (av:=.c (.own 5001 i)) rfl ?_
    ((with_reducible refine qY.cut (qJ 68) Tab.none 2 (s1:=?_) ?_ ?_);rotate_left 1;(focus ((with_reducible refine QW ?_);simp only [Zg,Zi,seval];with_reducible rfl));simp only [List.drop_succ_cons,List.drop_zero])
    refine qY.killL 1 5001 (k:=2) (r:=[.val (.sl 1 T),.own 5001 i]) rfl ?_
    ((with_reducible refine qY.cut (qJ 68) Tab.none 1 (s1:=?_) ?_ ?_);rotate_left 1;(focus ((with_reducible refine QW ?_);simp only [Zg,Zi,seval,hRl,q1,q2,List.map_cons,List.map_nil,AC.kill];with_reducible rfl));simp only [List.drop_succ_cons,List.drop_zero])
    refine qY.renR 64 5001 (by decide) rfl rfl rfl ?_
    ((with_reducible refine qY.cut (qJ 68) Tab.none 1 (s1:=?_) ?_ ?_);rotate_left 1;(focus ((with_reducible refine QW ?_);simp only [Zg,Zi,seval];with_reducible rfl));simp only [List.drop_succ_cons,List.drop_zero])
    refine qY.storeA (qJ 68) (key:=1) (j:=1) rfl rfl rfl rfl rfl rfl (cs:=[.own 5001 (i + 1)]) rfl rfl rfl (r:=[.val (.sl 1 T),.junk]) rfl (Nat.le_of_ble_eq_true rfl) ?_
    refine qY.nil ?_
    refine gw27 (kk 34) hw ?_
    refine qZ.on (i + 1) ⟨by omega,by omega⟩ ?_
    rw [htk]
    exact gw111
  ·have i1:((i:Int) < 37) = False:=eq_false (by omega)
   obtain rfl:i = 37:=by omega
   refine gw27 (kk 34) i1 ?_
   refine qZ.out () trivial ?_
   rw [List.take_of_length_le (by rw [jA];omega)]
   exact gw111
 ·rintro _ _
  refine qQ.frz 5001 ?_
  refine qQ.fits (s0:=⟨[(0,.optr 0 0 0),(1,.optr 1 0 0)],[(0,.row 2 [[.sl 1 [],.sl 1 []]] true),(1,.lit 2 [[.val (.sl 1 T),.val (.sl 1 ((T6.map cutsM).map eMs))]])]⟩) ?_ ?_
  ·exact gw138
  refine qQ.litRow 1 [.sl 1 T,.sl 1 ((T6.map cutsM).map eMs)] rfl ?_
  refine gw27 (kk 34) Y0 ?_
  exact ⟨by simp,0,_,0,_,_,rfl,rfl,rfl,rfl,rfl,rfl⟩
def valM (a:List Int) (ps:List Int):Int:=ps.foldl (fun o p => mP (o * a.getD p.toNat 0)) 1
theorem valM_snoc (a ps:List Int) (p:Int):valM a (ps ++ [p]) = mP (valM a ps * a.getD p.toNat 0):=by unfold valM;rw [List.foldl_append];rfl
theorem valM_bd (a:List Int) (ps:List Int):0 ≤ valM a ps∧valM a ps < 10007:=by
 rcases List.eq_nil_or_concat ps with rfl|⟨l,x,rfl⟩
 ·exact (by decide:(0:Int) ≤ 1∧(1:Int) < 10007)
 ·rw [List.concat_eq_append,valM_snoc];exact mP_bd _
theorem kR {a:List Int} (h:isMap a = true):a.length = 38∧∀ i,0 ≤ a.getD i 0∧a.getD i 0 < 10007:=by
 unfold isMap at h
 rw [Bool.and_eq_true] at h
 refine ⟨of_decide_eq_true h.1,fun i => ?_⟩
 by_cases hi:i < a.length
 ·rw [jU hi]
  have:=List.all_eq_true.1 h.2 _ (List.getElem_mem hi)
  unfold isNum inR at this
  simp at this
  omega
 ·rw [List.getD_eq_getElem?_getD,List.getElem?_eq_none (by omega)];decide
theorem mul_bdM {a b:Int} (h1:0 ≤ a∧a < 10007) (h2:0 ≤ b∧b < 10007):0 ≤ a * b∧a * b ≤ 100140049:=by
 refine ⟨Int.mul_nonneg h1.1 h2.1,?_⟩
 have:=Int.mul_le_mul (a:=a) (b:=b) (c:=10007) (d:=10007) (by omega) (by omega) h2.1 (by omega)
 omega
theorem a_impl_IsMap (a:List Int):AFn Tryz.prog 164 [eL a] (· = [.val (.bool (isMap a))]) :=
 afn_L_s (v:=.bool _) (enters_of Tryz.func164 rfl rfl) (fun _ _ => jF.2 rfl) (fun u w h => c_impl_IsMap u a w h)
theorem a_spec_l07Is (a:List Int):AFn Tryz.prog 170 [eL a] (· = [.val (.bool (isMap a))]) :=
 afn_L_s (v:=.bool _) (enters_of Tryz.func170 rfl rfl) (fun _ _ => jF.2 rfl) (fun u w h => c_spec_l07Is u a w h)
theorem a_l03FindT (t:List Int) (h:canT t = true) (hl:t.length ≤ 6):AFn Tryz.prog 175 [eLL T6,eL t] (· = [.val (.int (posT t))]):=by
 obtain ⟨p1,p2,p3,p4⟩:=plc_at h hl
 exact a_l03Find T6 t (posT t) (by rw [jA];omega) p1 p2 (fun k hk hlt e => by have:=p3 k hk hlt;rw [e,yH.refl] at this;omega)
theorem mP_mul (a b:Int):mP (mP a * b) = mP (a * b):=by unfold mP;rw [Int.mul_emod,Int.emod_emod_of_dvd _ (Int.dvd_refl _),← Int.mul_emod]
def long6 (f:List (List Int)):Bool:=f.any fun t => decide (6 < t.length)
def vatOf (a:List Int) (f:List (List Int)):Int × Int:=if isMap a = true∧forB f = true then (if long6 f = true then (0,2) else (valM a (f.map plc),0)) else (0,1)
theorem a_l03FindNo (L:List (List Int)) (t:List Int) (hl:L.length ≤ 1000000) (hne:∀ k (h:k < L.length),L[k] ≠ t):AFn Tryz.prog 175 [eLL L,eL t] (· = [.val (.int (-1))]):=by
 refine AFn.of_runs (qJ 19) Tryz.func175 rfl rfl rfl gz ?_
 have hres:Tryz.f175.results.toList = [.tmp 4]:=rfl
 have hrts:Tryz.f175.resultTypes.toList = [2]:=rfl
 simp only [qU,qT,eL,eI,eLL,eB,Nat.zero_add,Nat.reduceAdd]
 intro M
 refine qQ.of ?_
 refine gw7 (kk 6) Y0 ?_
 refine qQ.loop (β:=Nat) (γ:=Unit) (fun i => ⟨[(0,.c (.val (.sl 1 (L.map eL)))),(1,.c (.val (.sl 1 (t.map eI)))),(5,.c (.val (.int i)))],[]⟩) (fun i => i ≤ L.length) (fun i => L.length - i)
  (fun _ => ⟨[],[]⟩) (fun _ => True) 0 (Nat.zero_le _) ?_ ?_ ?_
 ·exact gw6 Y0
 ·intro i hi
  have hi:i ≤ L.length:=hi
  by_cases h:i < L.length
  ·have i1:((i:Int) < (L.length:Int)) = True:=eq_true (by omega)
   have i2:((0:Int) ≤ (i:Int)) = True:=eq_true (by omega)
   obtain ⟨s,hs⟩:∃ s,s = L[i]:=⟨_,rfl⟩
   have hg:(L.map eL)[i]? = some [.sl 1 (s.map eI)]:=by rw [qD (by omega),hs];rfl
   have ha:=qL0 s t
   have e:¬ s = t:=by rw [hs];exact hne i h
   have hw:=qH (n:=i) (by omega)
   rw [decide_eq_false e] at ha
   refine gw133 (kk 6) (Y4 i1 i2 hg hw) ?_
   refine qZ.on (i + 1) ⟨show i + 1 ≤ L.length by omega,by omega⟩ ?_
   exact gw6 Y0
  ·have i1:((i:Int) < (L.length:Int)) = False:=eq_false (by omega)
   refine gw5 (kk 6) i1 ?_
   refine qZ.out () trivial ?_
   exact gw6 Y0
 ·rintro _ _
  refine gw7 (kk 6) Y0 ?_
  exact gw8
theorem a_l07Cuts:AFn Tryz.prog 111 [] (· = [.own 1 ([.sl 3 []] :: (T6.map cutsM).map eMs) false]):=by
 have hto:AFn Tryz.prog 174 [[.int 6]] (· = [.val (.sl 1 (T6.map eL))]):=AFn.val1 (a_l03All 6 (by decide))
 obtain ⟨T,hT⟩:∃ T,T = T6.map eL:=⟨_,rfl⟩
 have hTl:T.length = 37:=by rw [hT,List.length_map,jA]
 rw [← hT] at hto
 refine AFn.of_runs (qJ 80) Tryz.func111 rfl rfl rfl gz ?_
 have hres:Tryz.f111.results.toList = [.tmp 0]:=rfl
 have hrts:Tryz.f111.resultTypes.toList = [135]:=rfl
 simp only [qU,qT,eL,eI,eLL,eB,Nat.zero_add,Nat.reduceAdd]
 intro M
 refine qQ.of ?_
 refine gw139 (kk 9) hTl ?_
 refine qQ.frz 10 ?_
 refine qQ.fits (s0:=⟨[(1,.c (.val (.sl 1 T))),(2,.c (.own 2 1)),(3,.c (.val (.int 0)))],[(2,.lit 1 [[.val (.sl 3 [])]])]⟩) ?_ ?_
 ·exact gw138
 refine qQ.litRow 2 [.sl 3 []] rfl ?_
 refine qQ.loop (β:=Nat) (γ:=Unit) (fun i => ⟨[(1,.c (.val (.sl 1 T))),(2,.c (.own 2 (i + 1))),(3,.c (.val (.int i)))],[(2,.row 1 ([.sl 3 []] :: ((T6.take i).map cutsM).map eMs) false)]⟩) (fun i => i ≤ 37) (fun i => 37 - i)
  (fun _ => ⟨[(2,.c (.own 2 38))],[(2,.row 1 ([.sl 3 []] :: (T6.map cutsM).map eMs) false)]⟩) (fun _ => True) 0 (Nat.zero_le _) ?_ ?_ ?_
 ·exact gw35 Y0
 ·intro i hi
  have hi:i ≤ 37:=hi
  have hw:=qH (n:=i) (by omega)
  by_cases hi37:i < 37
  ·have i1:((i:Int) < 37) = True:=eq_true (by omega)
   have i2:((0:Int) ≤ (i:Int)) = True:=eq_true (by omega)
   have hiT:i < T6.length:=by rw [jA];exact hi37
   obtain ⟨t,ht⟩:∃ t,t = T6[i]:=⟨_,rfl⟩
   have htm:t ∈ T6:=by rw [ht];exact List.getElem_mem _
   have hg:T[i]? = some [.sl 1 (t.map eI)]:=by rw [hT,qD hiT,ht];rfl
   have htk:[D.sl 3 []] :: ((T6.take (i + 1)).map cutsM).map eMs = ([D.sl 3 []] :: ((T6.take i).map cutsM).map eMs) ++ [[.sl 3 ((cutsM t).map eM)]]:=by
    rw [ht,List.take_succ_eq_append_getElem hiT,List.map_append,List.map_append];rfl
   obtain ⟨R,hR⟩:∃ R,R = [D.sl 3 []] :: ((T6.take i).map cutsM).map eMs:=⟨_,rfl⟩
   have hRl:R.length = i + 1:=by rw [hR,List.length_cons,List.length_map,List.length_map,List.length_take];omega
   rw [← hR] at htk ⊢
   obtain ⟨hct,hcl⟩:=T6_ok t htm
   obtain ⟨hlev,hcan⟩:=vH hct
   have hcu:AFn Tryz.prog 138 [[.sl 1 (t.map eI)]] (· = [.val (.sl 3 ((cutsL t).map eCu))]):=AFn.val1 (a_l05Cuts t hlev hcan (by omega))
   obtain ⟨hLn,hLok⟩:=cuts6 htm
   obtain ⟨L,hL⟩:∃ L,L = cutsL t:=⟨_,rfl⟩
   have hcm:cutsM t = L.map mcut:=by rw [hL];rfl
   rw [hcm] at htk
   rw [← hL] at hcu hLn hLok
   have hLm:(L.map eCu).length = L.length:=List.length_map _
   refine gw140 (kk 9) (Y4 i1 i2 hg hTl) ?_
   refine qQ.loop (β:=Nat) (γ:=Unit) (fun j => ⟨[(1,.c (.val (.sl 1 T))),(2,.c (.own 2 (i + 1))),(3,.c (.val (.int i))),(4,.c (.val (.sl 3 (L.map eCu)))),(5,.c (.own 5 j)),(6,.c (.val (.int j)))],[(2,.row 1 R false),(5,.row 3 (((L.take j).map mcut).map eM) false)]⟩) (fun j => j ≤ L.length) (fun j => L.length - j)
    (fun _ => ⟨[(1,.c (.val (.sl 1 T))),(2,.c (.own 2 (i + 1))),(3,.c (.val (.int i))),(5,.c (.own 5 L.length))],[(2,.row 1 R false),(5,.row 3 ((L.map mcut).map eM) false)]⟩) (fun _ => True) 0 (Nat.zero_le _) ?_ ?_ ?_
   ·exact gw35 Y0
   ·intro j hj
    have hj:j ≤ L.length:=hj
    have hwj:=qH (n:=j) (by omega)
    by_cases hjL:j < L.length
    ·have j1:((j:Int) < (L.length:Int)) = True:=eq_true (by omega)
     have j2:((0:Int) ≤ (j:Int)) = True:=eq_true (by omega)
     obtain ⟨x,hx⟩:∃ x,x = L[j]:=⟨_,rfl⟩
     have hxg:(L.map eCu)[j]? = some [.sl 1 (x.1.1.map eL),.sl 1 (x.1.2.map eI),.int x.2]:=by rw [qD hjL,hx];rfl
     obtain ⟨hx1,hx2,hx3,hx4⟩:=hLok L[j] (List.getElem_mem _)
     rw [← hx] at hx1 hx2 hx3 hx4
     have hxk:((L.take (j + 1)).map mcut).map eM = ((L.take j).map mcut).map eM ++ [eM (mcut x)]:=by
      rw [hx,List.take_succ_eq_append_getElem hjL,List.map_append,List.map_append];rfl
     have hrl:(((L.take j).map mcut).map eM).length = j:=by rw [List.length_map,List.length_map,List.length_take];omega
     obtain ⟨⟨cr,tr⟩,n⟩:=x
     simp only at hxg hx1 hx2 hx3 hx4
     have q1:=jV (n:=j + 1) (by omega)
     have q2:=jW (n:=j + 1) (c:=40) (by omega) (by omega)
     have hmod:=wY n
     rw [mP_small (by omega) (by omega)] at hmod
     simp only [eI] at hmod
     obtain ⟨z,hfz,hwz,hmz⟩:∃ z:Int,AFn Tryz.prog 175 [[.sl 1 T],[.sl 1 (tr.map eI)]] (· = [.val (.int z)])∧w64 (z + 1) = (mcut ((cr,tr),n)).2.2∧True:=by
      by_cases htr:tr = []
      ·subst htr
       refine ⟨-1,?_,rfl,trivial⟩
       have:=a_l03FindNo T6 [] (by rw [jA];omega) (fun k hk e => by
        have:=(vH (T6_ok _ (List.getElem_mem hk)).1).1.pos
        rw [e] at this
        simp at this)
       simp only [eLL,eL] at this
       rw [← hT] at this
       exact this
      ·obtain ⟨d1,d2⟩:=hx4.resolve_left htr
       have hpb:=plc_lt d1 d2
       refine ⟨posT tr,?_,?_,trivial⟩
       ·have:=a_l03FindT tr d1 d2
        simp only [eLL,eL] at this
        rw [← hT] at this
        exact this
       ·unfold mcut
        simp only [if_neg htr]
        exact qN (by unfold plc at hpb;omega)
     obtain ⟨tk,htke⟩:∃ tk,tk = (mcut ((cr,tr),n)).2.2:=⟨_,rfl⟩
     have hmc:eM (mcut ((cr,tr),n)) = [.int n,.sl 1 ((cr.map plc).map eI),.int tk]:=by rw [htke];rfl
     rw [← htke] at hwz
     rw [hmc] at hxk
     ((refine gw74 (kk 9) (Yp j1 hLm) ?_);with_reducible (apply QS (qJ 80) Tab.none;refine QW ?_;simp only [Zg,Zi,seval,j1,hLm];rfl);(refine gw74 (kk 9) (Yp j1 hLm) ?_))
     ((refine gw75 (kk 9) (Y5 j1 j2 hxg hLm hwz) ?_);(with_reducible refine qQ.wFl (qJ 80) ((Tab.none.at' 99 hmod).at' 175 hfz) qA [] [] (tr:=?_) (s1:=?_) (rest:=?_) ?_ ?_ ?_);rotate_left 3;(focus ((with_reducible refine QW ?_);simp only [Zg,Zd,Zi,seval,drunL,devalL,devalA,kJ,aloadA,rowA,drunF,xT,xN,valD,kU,List.contains_cons,List.contains_nil,j1,j2,hxg,hLm,hwz,Int.toNat_natCast];with_reducible rfl));focus ((with_reducible refine QK ?_);simp only [Zk];kernel_rfl))
     refine qY.nilOwn 44 5007 (k:=1) (pre:=[.val (.int n)]) (post:=[.val (.int tk)]) rfl (by decide) rfl ?_
     refine qY.storeA (qJ 80) (key:=7) (j:=0) rfl rfl rfl rfl rfl rfl (cs:=[.val (.int n),.own 5007 0,.val (.int tk)]) rfl rfl rfl (r:=[.val (.int 0),.val (.sl 1 []),.val (.int 0)]) rfl (Nat.le_of_ble_eq_true rfl) ?_
     refine qY.nil ?_
     have hcm':(cr.map eL).length = cr.length:=List.length_map _
     refine gw27 (kk 9) hcm' ?_
     refine qQ.loop (β:=Nat) (γ:=Unit) (fun q => ⟨[(1,.c (.val (.sl 1 T))),(2,.c (.own 2 (i + 1))),(3,.c (.val (.int i))),(4,.c (.val (.sl 3 (L.map eCu)))),(5,.c (.own 5 j)),(6,.c (.val (.int j))),(7,.optr 7 0 0),(8,.c (.val (.int q)))],[(2,.row 1 R false),(5,.row 3 (((L.take j).map mcut).map eM) false),(7,.lit 3 [[.val (.int n),.own 5007 q,.val (.int tk)]]),(5007,.row 1 (((cr.take q).map plc).map eI) false)]⟩) (fun q => q ≤ cr.length) (fun q => cr.length - q)
      (fun _ => ⟨[(1,.c (.val (.sl 1 T))),(2,.c (.own 2 (i + 1))),(3,.c (.val (.int i))),(4,.c (.val (.sl 3 (L.map eCu)))),(5,.c (.own 5 j)),(6,.c (.val (.int j))),(7,.optr 7 0 0)],[(2,.row 1 R false),(5,.row 3 (((L.take j).map mcut).map eM) false),(7,.lit 3 [[.val (.int n),.own 5007 cr.length,.val (.int tk)]]),(5007,.row 1 ((cr.map plc).map eI) false)]⟩) (fun _ => True) 0 (Nat.zero_le _) ?_ ?_ ?_
     ·exact gw136
     ·intro q hq
      have hq:q ≤ cr.length:=hq
      have hwq:=qH (n:=q) (by omega)
      by_cases hqc:q < cr.length
      ·have k1:((q:Int) < (cr.length:Int)) = True:=eq_true (by omega)
       have k2:((0:Int) ≤ (q:Int)) = True:=eq_true (by omega)
       obtain ⟨c,hc⟩:∃ c,c = cr[q]:=⟨_,rfl⟩
       have hcg:(cr.map eL)[q]? = some [.sl 1 (c.map eI)]:=by rw [qD hqc,hc];rfl
       have hck:((cr.take (q + 1)).map plc).map eI = ((cr.take q).map plc).map eI ++ [[.int (plc c)]]:=by
        rw [hc,List.take_succ_eq_append_getElem hqc,List.map_append,List.map_append];rfl
       obtain ⟨C,hC⟩:∃ C,C = ((cr.take q).map plc).map eI:=⟨_,rfl⟩
       have hCl:C.length = q:=by rw [hC,List.length_map,List.length_map,List.length_take];omega
       obtain ⟨c1,c2⟩:=hx2 cr[q] (List.getElem_mem _)
       rw [← hc] at c1 c2
       have hfd:=a_l03FindT c c1 c2
       simp only [eLL,eL] at hfd
       rw [← hT] at hfd
       have hpb:=plc_lt c1 c2
       have hwp:w64 ((posT c:Int) + 1) = plc c:=qN (by unfold plc at hpb;omega)
       rw [← hC] at hck ⊢
       have r1:=jV (n:=q + 1) (by omega)
       have r2:=jW (n:=q + 1) (c:=8) (by omega) (by omega)
       have r3:(q ≤ 140737488355327) = True:=eq_true (by omega)
       ((refine gw75 (kk 9) (Y6 j1 j2 k1 hxg hLm hcm') ?_);with_reducible (apply QS (qJ 80) Tab.none;refine QW ?_;simp only [Zg,Zi,seval,j1,j2,k1,hxg,hLm,hcm',Int.toNat_natCast];rfl);(refine gw75 (kk 9) (Y6 j1 j2 k1 hxg hLm hcm') ?_))
       ((refine gw75 (kk 9) (Y9 j1 j2 k1 k2 hxg hcg hLm hcm' hwp) ?_);(with_reducible refine qQ.wFl (qJ 80) (Tab.none.at' 175 hfd) qA [68] [56] (tr:=?_) (s1:=?_) (rest:=?_) ?_ ?_ ?_);rotate_left 3;(focus ((with_reducible refine QW ?_);simp only [Zg,Zd,Zi,seval,drunL,devalL,devalA,kJ,aloadA,rowA,drunF,xT,xN,valD,kU,List.contains_cons,List.contains_nil,j1,j2,k1,k2,hxg,hcg,hLm,hcm',hwp,Int.toNat_natCast];with_reducible rfl));focus ((with_reducible refine QK ?_);simp only [Zk];kernel_rfl))
       refine qY.killL 7 5007 (k:=3) (r:=[.val (.int n),.own 5007 q,.val (.int tk)]) rfl ?_
       ((with_reducible refine qY.cut (qJ 80) Tab.none 1 (s1:=?_) ?_ ?_);rotate_left 1;(focus ((with_reducible refine QW ?_);simp only [Zg,Zi,seval,hCl,r1,r2,r3,List.map_cons,List.map_nil,AC.kill];with_reducible rfl));simp only [List.drop_succ_cons,List.drop_zero])
       refine qY.renR 69 5007 (by decide) rfl rfl rfl ?_
       ((with_reducible refine qY.cut (qJ 80) Tab.none 1 (s1:=?_) ?_ ?_);rotate_left 1;(focus ((with_reducible refine QW ?_);simp only [Zg,Zi,seval];with_reducible rfl));simp only [List.drop_succ_cons,List.drop_zero])
       refine qY.storeA (qJ 80) (key:=7) (j:=1) rfl rfl rfl rfl rfl rfl (cs:=[.own 5007 (q + 1)]) rfl rfl rfl (r:=[.val (.int n),.junk,.val (.int tk)]) rfl (Nat.le_of_ble_eq_true rfl) ?_
       refine qY.nil ?_
       refine gw27 (kk 9) hwq ?_
       refine qZ.on (q + 1) ⟨hqc,by omega⟩ ?_
       rw [hck]
       exact gw111
      ·have k1:((q:Int) < (cr.length:Int)) = False:=eq_false (by omega)
       obtain rfl:q = cr.length:=by omega
       refine gw36 (kk 9) (Y6 j1 j2 k1 hxg hLm hcm') ?_
       refine qZ.out () trivial ?_
       rw [List.take_length]
       exact gw111
     ·rintro _ _
      refine qQ.frz 5007 ?_
      refine qQ.fits (s0:=⟨[(1,.c (.val (.sl 1 T))),(2,.c (.own 2 (i + 1))),(3,.c (.val (.int i))),(4,.c (.val (.sl 3 (L.map eCu)))),(5,.c (.own 5 j)),(6,.c (.val (.int j))),(7,.optr 7 0 0)],[(2,.row 1 R false),(5,.row 3 (((L.take j).map mcut).map eM) false),(7,.lit 3 [[.val (.int n),.val (.sl 1 ((cr.map plc).map eI)),.val (.int tk)]])]⟩) ?_ ?_
      ·exact gw138
      refine qQ.litRow 7 [.int n,.sl 1 ((cr.map plc).map eI),.int tk] rfl ?_
      refine gw32 (kk 9) (Y4 hrl hwj q1 q2) ?_
      refine qZ.on (j + 1) ⟨hjL,by omega⟩ ?_
      rw [hxk]
      exact gw111
    ·have j1:((j:Int) < (L.length:Int)) = False:=eq_false (by omega)
     obtain rfl:j = L.length:=by omega
     refine gw27 (kk 9) (Yp j1 hLm) ?_
     refine qZ.out () trivial ?_
     rw [List.take_length]
     exact gw6 Y0
   ·rintro _ _
    have q1:=jV (n:=i + 1 + 1) (by omega)
    have q2:=jW (n:=i + 1 + 1) (c:=24) (by omega) (by omega)
    have q3:(i ≤ 140737488355326) = True:=eq_true (by omega)
    refine qQ.frz 5 ?_
    refine qQ.fits (s0:=⟨[(1,.c (.val (.sl 1 T))),(2,.c (.own 2 (i + 1))),(3,.c (.val (.int i))),(5,.c (.val (.sl 3 ((L.map mcut).map eM))))],[(2,.row 1 R false)]⟩) ?_ ?_
    ·exact gw138
    refine gw27 (kk 9) (Y5 hRl q1 q2 q3 hw) ?_
    refine qZ.on (i + 1) ⟨by omega,by omega⟩ ?_
    rw [htk]
    exact gw6 Y0
  ·have i1:((i:Int) < 37) = False:=eq_false (by omega)
   obtain rfl:i = 37:=by omega
   refine gw27 (kk 9) (Yp i1 hTl) ?_
   refine qZ.out () trivial ?_
   rw [List.take_of_length_le (by rw [jA];omega)]
   exact gw141
 ·rintro _ _
  refine gw27 (kk 9) Y0 ?_
  exact gw8
def cutV (a b:List Int) (m:MC):Int:=mP (m.1 * mP (valM a m.2.1 * b.getD m.2.2.toNat 0))
def rowV (a b:List Int) (L:List MC):Int:=mP ((L.map (cutV a b)).sum)
theorem cutV_bd (a b:List Int) (m:MC):0 ≤ cutV a b m∧cutV a b m < 10007:=mP_bd _
theorem sumV_snoc (a b:List Int) (L:List MC) (m:MC):((L ++ [m]).map (cutV a b)).sum = (L.map (cutV a b)).sum + cutV a b m:=by
 rw [List.map_append,List.sum_append];simp
theorem cutsM_ok {t:List Int} (ht:t ∈ T6):(cutsM t).length ≤ 256∧∀ m ∈ cutsM t,(1 ≤ m.1∧m.1 ≤ 256)∧(∀ p ∈ m.2.1,1 ≤ p∧p < 38)∧m.2.1.length ≤ 8∧0 ≤ m.2.2∧m.2.2 < 38:=by
 obtain ⟨h1,h2⟩:=cuts6 ht
 refine ⟨by unfold cutsM;rw [List.length_map];exact h1,fun m hm => ?_⟩
 obtain ⟨x,hx,rfl⟩:=List.mem_map.1 hm
 obtain ⟨k1,k2,k3,k4⟩:=h2 x hx
 refine ⟨k1,fun p hp => ?_,by show (x.1.1.map plc).length ≤ 8;rw [List.length_map];exact k3,?_⟩
 ·obtain ⟨c,hc,rfl⟩:=List.mem_map.1 hp
  exact plc_lt (k2 c hc).1 (k2 c hc).2
 ·show 0 ≤ (if x.1.2 = [] then 0 else plc x.1.2)∧(if x.1.2 = [] then 0 else plc x.1.2) < 38
  split
  ·omega
  ·rename_i h
   have:=plc_lt (k4.resolve_left h).1 (k4.resolve_left h).2
   omega
noncomputable def TNm:Tab Tryz.prog:=Tab.none.add 92 (tab1 codI fun n => some [.val (.int (mP n))]) (xD fun n rs h => by cases h;exact a_num n)
theorem wV (a b:Int):mP (a * mP b) = mP (a * b):=by rw [Int.mul_comm,mP_mul,Int.mul_comm]
theorem crown_step (x V y:Int):mP (mP (x * V) * y) = mP (x * mP (V * y)):=by rw [mP_mul,wV,Int.mul_assoc]
theorem cutV_eq (a b:List Int) (n:Int) (ps:List Int) (q:Nat):mP (n * b.getD q 0 * valM a ps) = cutV a b (n,ps,(q:Int)):=by
 show _ = mP (n * mP (valM a ps * b.getD q 0))
 rw [wV,Int.mul_assoc,Int.mul_comm (b.getD q 0)]
theorem a_l07Conv (n:Nat) (hn:n ≤ 37) (a b:List Int) (ha:isMap a = true) (hb:isMap b = true):AFn Tryz.prog 173 [[.sl 1 ([.sl 3 []] :: ((T6.take n).map cutsM).map eMs)],eL a,eL b] (· = [.own 1 ((mP (a.getD 0 0 * b.getD 0 0) :: (T6.take n).map fun t => rowV a b (cutsM t)).map eI) true]):=by
 obtain ⟨hal,hab⟩:=kR ha
 obtain ⟨hbl,hbb⟩:=kR hb
 obtain ⟨T,hT⟩:∃ T,T = T6.take n:=⟨_,rfl⟩
 have hTl:T.length = n:=by rw [hT,List.length_take,jA];omega
 have hT6:∀ t ∈ T,t ∈ T6:=fun t ht => by rw [hT] at ht;exact List.mem_of_mem_take ht
 rw [← hT]
 obtain ⟨Y,hY⟩:∃ Y,Y = [D.sl 3 []] :: (T.map cutsM).map eMs:=⟨_,rfl⟩
 have hYl:Y.length = n + 1:=by rw [hY,List.length_cons,List.length_map,List.length_map,hTl]
 have hbm:(b.map eI).length = 38:=by rw [List.length_map,hbl]
 have ham:(a.map eI).length = 38:=by rw [List.length_map,hal]
 have hb0:(b.map eI)[0]? = some [.int (b.getD 0 0)]:=by rw [qD (by omega),jU (by omega)];rfl
 have ha0:(a.map eI)[0]? = some [.int (a.getD 0 0)]:=by rw [qD (by omega),jU (by omega)];rfl
 have h00:=mul_bdM (hab 0) (hbb 0)
 have hmul0:=vU (a.getD 0 0) (b.getD 0 0) (by omega)
 simp only [eI] at hmul0
 rw [← hY]
 refine AFn.of_runs (qJ 93) Tryz.func173 rfl rfl rfl gz ?_
 have hres:Tryz.f173.results.toList = [.tmp 6]:=rfl
 have hrts:Tryz.f173.resultTypes.toList = [24]:=rfl
 simp only [qU,qT,eL,eI,eLL,eB,Nat.zero_add,Nat.reduceAdd]
 intro M
 refine qQ.of ?_
 refine gw142 (kk 13) (Y4 hbm ham hb0 ha0) ?_
 obtain ⟨r0,hr0⟩:∃ r0,r0 = mP (a.getD 0 0 * b.getD 0 0):=⟨_,rfl⟩
 rw [← hr0]
 refine qQ.loop (β:=Nat) (γ:=Unit) (fun i => ⟨[(0,.c (.val (.sl 1 Y))),(1,.c (.val (.sl 1 (a.map eI)))),(2,.c (.val (.sl 1 (b.map eI)))),(7,.c (.own 7 (i + 1))),(8,.c (.val (.int ((i + 1:Nat):Int))))],[(7,.row 1 ((r0 :: (T.take i).map fun t => rowV a b (cutsM t)).map eI) true)]⟩) (fun i => i ≤ n) (fun i => n - i)
  (fun _ => ⟨[(7,.c (.own 7 (n + 1)))],[(7,.row 1 ((r0 :: T.map fun t => rowV a b (cutsM t)).map eI) true)]⟩) (fun _ => True) 0 (Nat.zero_le _) ?_ ?_ ?_
 ·exact gw143
 ·intro i hi
  have hi:i ≤ n:=hi
  have hw:=qH (n:=i + 1) (by omega)
  by_cases hin:i < n
  ·have i1:(((i + 1:Nat):Int) < ((n + 1:Nat):Int)) = True:=eq_true (by omega)
   have i2:((0:Int) ≤ ((i + 1:Nat):Int)) = True:=eq_true (by omega)
   have hiT:i < T.length:=by omega
   obtain ⟨t,ht⟩:∃ t,t = T[i]:=⟨_,rfl⟩
   have htm:t ∈ T6:=by rw [ht];exact hT6 _ (List.getElem_mem _)
   have hg:Y[i + 1]? = some [.sl 3 ((cutsM t).map eM)]:=by rw [hY,List.getElem?_cons_succ,List.map_map,qD hiT,← ht];rfl
   have hat:(r0 :: (T.take i).map fun t => rowV a b (cutsM t)) ++ [rowV a b (cutsM t)] = r0 :: (T.take (i + 1)).map fun t => rowV a b (cutsM t):=by
    rw [ht,List.take_succ_eq_append_getElem hiT,List.map_append];rfl
   obtain ⟨R,hR⟩:∃ R,R = r0 :: (T.take i).map fun t => rowV a b (cutsM t):=⟨_,rfl⟩
   have hRm:(R.map eI).length = i + 1:=by rw [List.length_map,hR,List.length_cons,List.length_map,List.length_take];omega
   rw [← hR] at hat ⊢
   obtain ⟨hLn,hLok⟩:=cutsM_ok htm
   obtain ⟨L,hL⟩:∃ L,L = cutsM t:=⟨_,rfl⟩
   rw [← hL] at hg hat hLn hLok
   have hLm:(L.map eM).length = L.length:=List.length_map _
   refine gw27 (kk 13) (Yp i1 hYl) ?_
   refine qQ.loop (β:=Nat) (γ:=Unit) (fun j => ⟨[(0,.c (.val (.sl 1 Y))),(1,.c (.val (.sl 1 (a.map eI)))),(2,.c (.val (.sl 1 (b.map eI)))),(7,.c (.own 7 (i + 1))),(8,.c (.val (.int ((i + 1:Nat):Int)))),(9,.c (.val (.int (mP ((L.take j).map (cutV a b)).sum)))),(10,.c (.val (.int j)))],[(7,.row 1 (R.map eI) true)]⟩) (fun j => j ≤ L.length) (fun j => L.length - j)
    (fun _ => ⟨[(0,.c (.val (.sl 1 Y))),(1,.c (.val (.sl 1 (a.map eI)))),(2,.c (.val (.sl 1 (b.map eI)))),(7,.c (.own 7 (i + 1))),(8,.c (.val (.int ((i + 1:Nat):Int)))),(9,.c (.val (.int (mP (L.map (cutV a b)).sum))))],[(7,.row 1 (R.map eI) true)]⟩) (fun _ => True) 0 (Nat.zero_le _) ?_ ?_ ?_
   ·exact gw144 (show mP 0 = 0 from rfl)
   ·intro j hj
    have hj:j ≤ L.length:=hj
    have hwj:=qH (n:=j) (by omega)
    by_cases hjL:j < L.length
    ·have j1:((j:Int) < (L.length:Int)) = True:=eq_true (by omega)
     have j2:((0:Int) ≤ (j:Int)) = True:=eq_true (by omega)
     obtain ⟨m,hm⟩:∃ m,m = L[j]:=⟨_,rfl⟩
     have hmg:(L.map eM)[j]? = some [.int m.1,.sl 1 (m.2.1.map eI),.int m.2.2]:=by rw [qD hjL,hm];rfl
     obtain ⟨m1,m2,m3,m4,m5⟩:=hLok L[j] (List.getElem_mem _)
     rw [← hm] at m1 m2 m3 m4 m5
     have hst:mP ((L.take (j + 1)).map (cutV a b)).sum = mP (mP ((L.take j).map (cutV a b)).sum + cutV a b m):=by
      rw [mP_mP_add,List.take_succ_eq_append_getElem hjL,sumV_snoc,← hm]
     obtain ⟨S,hS⟩:∃ S,S = mP ((L.take j).map (cutV a b)).sum:=⟨_,rfl⟩
     have hSb:0 ≤ S∧S < 10007:=by rw [hS];exact mP_bd _
     rw [← hS] at hst ⊢
     obtain ⟨c,ps,z⟩:=m
     simp only at hmg m1 m2 m3 m4 m5
     obtain ⟨q,rfl⟩:∃ q:Nat,z = q:=⟨z.toNat,by omega⟩
     have hq:q < b.length:=by omega
     have k1:((q:Int) < 38) = True:=eq_true (by omega)
     have k2:((0:Int) ≤ (q:Int)) = True:=eq_true (by omega)
     have hbg:(b.map eI)[q]? = some [.int (b.getD q 0)]:=by rw [qD hq,jU hq];rfl
     have hcb:=mul_bdM (a:=c) (by omega) (hbb q)
     have hmu:=vU c (b.getD q 0) (by omega)
     simp only [eI] at hmu
     have hpm:(ps.map eI).length = ps.length:=List.length_map _
     refine gw145 (kk 13) (Y12 i1 i2 j1 j2 hg hmg hYl hLm hbm hbg k1 k2) ?_
     refine qQ.loop (β:=Nat) (γ:=Unit) (fun u => ⟨[(0,.c (.val (.sl 1 Y))),(1,.c (.val (.sl 1 (a.map eI)))),(2,.c (.val (.sl 1 (b.map eI)))),(7,.c (.own 7 (i + 1))),(8,.c (.val (.int ((i + 1:Nat):Int)))),(9,.c (.val (.int S))),(10,.c (.val (.int j))),(11,.c (.val (.int (mP (c * b.getD q 0 * valM a (ps.take u)))))),(12,.c (.val (.int u)))],[(7,.row 1 (R.map eI) true)]⟩) (fun u => u ≤ ps.length) (fun u => ps.length - u)
      (fun _ => ⟨[(0,.c (.val (.sl 1 Y))),(1,.c (.val (.sl 1 (a.map eI)))),(2,.c (.val (.sl 1 (b.map eI)))),(7,.c (.own 7 (i + 1))),(8,.c (.val (.int ((i + 1:Nat):Int)))),(9,.c (.val (.int S))),(10,.c (.val (.int j))),(11,.c (.val (.int (cutV a b (c,ps,(q:Int))))))],[(7,.row 1 (R.map eI) true)]⟩) (fun _ => True) 0 (Nat.zero_le _) ?_ ?_ ?_
     ·exact gw146 (show valM a [] = 1 from rfl)
     ·intro u hu
      have hu:u ≤ ps.length:=hu
      have hwu:=qH (n:=u) (by omega)
      by_cases hup:u < ps.length
      ·have u1:((u:Int) < (ps.length:Int)) = True:=eq_true (by omega)
       have u2:((0:Int) ≤ (u:Int)) = True:=eq_true (by omega)
       obtain ⟨p,hp⟩:∃ p,p = ps[u]:=⟨_,rfl⟩
       have hp1:=m2 ps[u] (List.getElem_mem _)
       rw [← hp] at hp1
       obtain ⟨p,rfl⟩:∃ p':Nat,p = p':=⟨p.toNat,by omega⟩
       have hpg:(ps.map eI)[u]? = some [.int (p:Int)]:=by rw [qD hup,← hp];rfl
       have hpa:p < a.length:=by omega
       have hag:(a.map eI)[p]? = some [.int (a.getD p 0)]:=by rw [qD hpa,jU hpa];rfl
       have p1:((p:Int) < 38) = True:=eq_true (by omega)
       have p2:((0:Int) ≤ (p:Int)) = True:=eq_true (by omega)
       have hst2:mP (c * b.getD q 0 * valM a (ps.take (u + 1))) = mP (mP (c * b.getD q 0 * valM a (ps.take u)) * a.getD p 0):=by
        rw [List.take_succ_eq_append_getElem hup,valM_snoc,← hp,crown_step];rfl
       obtain ⟨V,hV⟩:∃ V,V = mP (c * b.getD q 0 * valM a (ps.take u)):=⟨_,rfl⟩
       have hVb:0 ≤ V∧V < 10007:=by rw [hV];exact mP_bd _
       rw [← hV] at hst2 ⊢
       have hvb:=mul_bdM hVb (hab p)
       have hmv:=vU V (a.getD p 0) (by omega)
       simp only [eI] at hmv
       refine gw147 (kk 13) (Y12 i1 i2 j1 j2 u1 u2 hg hmg hpg hag hYl (Y6 hLm hpm ham p1 p2 hwu)) ?_
       refine qZ.on (u + 1) ⟨hup,by omega⟩ ?_
       rw [hst2]
       exact gw6 Y0
      ·have u1:((u:Int) < (ps.length:Int)) = False:=eq_false (by omega)
       obtain rfl:u = ps.length:=by omega
       refine gw36 (kk 13) (Y10 i1 i2 j1 j2 u1 hg hmg hYl hLm hpm) ?_
       refine qZ.out () trivial ?_
       rw [List.take_length,cutV_eq]
       exact gw6 Y0
     ·rintro _ _
      have hcv:=cutV_bd a b (c,ps,(q:Int))
      have hadd:=a_l01Add S (cutV a b (c,ps,(q:Int))) (by omega)
      simp only [eI] at hadd
      refine gw148 (kk 13) hwj ?_
      refine qZ.on (j + 1) ⟨hjL,by omega⟩ ?_
      rw [hst]
      exact gw6 Y0
    ·have j1:((j:Int) < (L.length:Int)) = False:=eq_false (by omega)
     obtain rfl:j = L.length:=by omega
     refine gw36 (kk 13) (Y6 i1 i2 j1 hg hYl hLm) ?_
     refine qZ.out () trivial ?_
     rw [List.take_length]
     exact gw6 Y0
   ·rintro _ _
    have q1:=jV (n:=i + 1 + 1) (by omega)
    have q2:=jW (n:=i + 1 + 1) (c:=8) (by omega) (by omega)
    have q3:(i ≤ 140737488355326) = True:=eq_true (by omega)
    refine gw27 (kk 13) (Y5 hRm q1 q2 q3 hw) ?_
    refine qZ.on (i + 1) ⟨by omega,by omega⟩ ?_
    rw [← hat,List.map_append]
    exact gw149
  ·have i1:(((i + 1:Nat):Int) < ((n + 1:Nat):Int)) = False:=eq_false (by omega)
   obtain rfl:i = n:=by omega
   refine gw27 (kk 13) (Yp i1 hYl) ?_
   refine qZ.out () trivial ?_
   rw [List.take_of_length_le (by omega)]
   exact gw141
 ·rintro _ _
  refine gw27 (kk 13) Y0 ?_
  exact gw8
end Go.Proofs.YtedgfkpfhonlpaaGreat
