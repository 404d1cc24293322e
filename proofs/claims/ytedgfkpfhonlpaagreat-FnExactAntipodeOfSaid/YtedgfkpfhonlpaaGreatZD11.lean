/- Lemmas (11). -/
import Derived.Ground.SlsfProg
import Derived.Lib.AppendZeros
import Derived.Shelf.SlSortCmp.NoneTotal
import Derived.Shelf.SlSortCmp.WholeK
import Derived.Test.YtedgfkpfhonlpaaGreatZD3
import Derived.Test.YtedgfkpfhonlpaaGreatZD4
import Derived.Test.YtedgfkpfhonlpaaGreatZD7
import Derived.Test.YtedgfkpfhonlpaaGreatZD8
import Derived.Test.YtedgfkpfhonlpaaGreatZD9
import Derived.Test.YtedgfkpfhonlpaaGreatZD10
set_option maxHeartbeats 16000000
set_option maxRecDepth 100000
set_option linter.unusedSimpArgs false
set_option linter.unusedVariables false
namespace Go.Proofs.YtedgfkpfhonlpaaGreat
open Go.RowKit
noncomputable def TPut:Tab Tryz.prog :=
 ((Tab.none.add 136 (tab2 codLL codLL fun f g => if SmF f∧SmF g then some [.val (.int (sgn (cmpF f g)))] else none) (yS fun f g rs h => by split at h;cases h;rename_i hs;exact a_l06Order f g (by have:=hs.1.2;omega) (by have:=hs.2.2;omega) (by have:=hs.1.1;omega) (by have:=hs.2.1;omega);cases h)).add
   67 (tab1 codLL fun f => if SmF f then some [.own 1 (f.map eL) false] else none) (xY fun f rs h => by split at h;cases h;rename_i hs;exact qU0 f (by have:=hs.1;omega) hs.b;cases h)).add
   162 (tab2 codI codI fun a b => if -9223372036854775808 ≤ a + b∧a + b ≤ 9223372036854775807 then some [.val (.int (mP (a + b)))] else none) (yS fun a b rs h => by split at h;cases h;rename_i hs;exact a_l01Add a b hs;cases h)
theorem sgn_lt {n:Int} (h:n < 0):sgn n = -1:=by unfold sgn;rw [if_pos h]
theorem sgn_eq {n:Int} (h:n = 0):sgn n = 0:=by subst h;rfl
theorem sgn_gt {n:Int} (h:0 < n):sgn n = 1:=by unfold sgn;rw [if_neg (by omega),if_neg (by omega)]
structure PutI (e:Elt) (k:Int) (f:List (List Int)) (x:Nat × Bool × Elt):Prop where
 le:x.1 ≤ e.length
 no:x.2.1 = false→x.2.2 = e.take x.1∧∀ q ∈ e.take x.1,0 < cmpF f q.2
 yes:x.2.1 = true→x.2.2 ++ e.drop x.1 = putS cmpF e k f
 len:x.2.2.length ≤ x.1 + 1
theorem putS_at {e:Elt} {k:Int} {f:List (List Int)} (hk:k ≠ 0) {i:Nat} (h:i < e.length) (hlow:∀ q ∈ e.take i,0 < cmpF f q.2):putS cmpF e k f = e.take i ++ putS cmpF (e[i] :: e.drop (i + 1)) k f:=by
 have h1:=putS_skip hk (e.drop i) hlow
 rw [List.take_append_drop,List.drop_eq_getElem_cons h] at h1
 exact h1
theorem a_l06Put (e:Elt) (k:Int) (f:List (List Int)) (hl:e.length ≤ 1000000) (he:∀ q ∈ e,(1 ≤ q.1∧q.1 < 10007)∧SmF q.2) (hk:0 ≤ k∧k < 10007) (hf:SmF f):AFn Tryz.prog 137 [[.sl 2 (e.map ePt)],eI k,eLL f] (· = [.val (.sl 2 ((putS cmpF e k f).map ePt))]):=by
 by_cases hk0:k = 0
 ·subst hk0
  rw [putS_zero]
  refine AFn.of_runs (qX 68) Tryz.func137 rfl rfl rfl gz ?_
  have hres:Tryz.f137.results.toList = [.tmp 6]:=rfl
  have hrts:Tryz.f137.resultTypes.toList = [50]:=rfl
  simp only [qK,qD,eL,eI,eLL,eB,Nat.zero_add,Nat.reduceAdd]
  intro M
  refine qJ.of ?_
  refine gw69 Y0 ?_
  exact gw8
 refine AFn.val1 ?_
 have hkb:(k == 0) = false:=beq_eq_false_iff_ne.2 hk0
 have hff:=eq_true hf
 refine AFn.of_runs (qX 68) Tryz.func137 rfl rfl rfl gz ?_
 have hres:Tryz.f137.results.toList = [.tmp 6]:=rfl
 have hrts:Tryz.f137.resultTypes.toList = [50]:=rfl
 simp only [qK,qD,eL,eI,eLL,eB,Nat.zero_add,Nat.reduceAdd]
 intro M
 refine qJ.of ?_
 refine gw69 hkb ?_
 refine qJ.loop (β:=Nat × Bool × Elt) (γ:=Bool × Elt) (fun x => ⟨[(0,.c (.val (.sl 2 (e.map ePt)))),(1,.c (.val (.int k))),(2,.c (.val (.sl 1 (f.map eL)))),(7,.c (.own 7 x.2.2.length)),(8,.c (.val (.bool x.2.1))),(9,.c (.val (.int x.1)))],[(7,.row 2 (x.2.2.map ePt) false)]⟩) (PutI e k f) (fun x => e.length - x.1)
  (fun x => ⟨[(0,.c (.val (.sl 2 (e.map ePt)))),(1,.c (.val (.int k))),(2,.c (.val (.sl 1 (f.map eL)))),(7,.c (.own 7 x.2.length)),(8,.c (.val (.bool x.1)))],[(7,.row 2 (x.2.map ePt) false)]⟩) (fun x => PutI e k f (e.length,x)) (0,false,[]) ⟨Nat.zero_le _,fun _ => ⟨rfl,by simp⟩,(fun h => nomatch h),Nat.zero_le _⟩ ?_ ?_ ?_
 ·exact gw36
 ·rintro ⟨i,d,o⟩ ⟨hi,hno,hyes,hlen⟩
  simp only at hi hno hyes hlen ⊢
  have hw:=qL (n:=i) (by omega)
  have q1:=yJ (n:=o.length + 1) (by omega)
  have q2:=yY (n:=o.length + 1) (c:=32) (by omega) (by omega)
  have q3:=yJ (n:=o.length + 1 + 1) (by omega)
  have q4:=yY (n:=o.length + 1 + 1) (c:=32) (by omega) (by omega)
  by_cases h:i < e.length
  ·have i1:((i:Int) < (e.length:Int)) = True:=eq_true (by omega)
   have i2:((0:Int) ≤ (i:Int)) = True:=eq_true (by omega)
   obtain ⟨z,hz⟩:∃ z,z = e[i]:=⟨_,rfl⟩
   obtain ⟨⟨hz1,hz2⟩,hz3⟩:=he e[i] (List.getElem_mem _)
   have hg:(e.map ePt)[i]? = some [.int z.1,.sl 1 (z.2.map eL)]:=by rw [qI h,hz];rfl
   have hdr:e.drop i = z :: e.drop (i + 1):=by rw [hz];exact List.drop_eq_getElem_cons h
   have htk:e.take (i + 1) = e.take i ++ [z]:=by rw [hz];exact List.take_succ_eq_append_getElem h
   rw [← hz] at hz1 hz2 hz3
   have hzz:=eq_true hz3
   have hz0:(z.1 != 0) = true:=bne_iff_ne.2 (by omega)
   cases d with
   | true =>
    refine gw70 (Y7 i1 i2 hg hw hz0 q1 q2) ?_
    refine qV.on (i + 1,true,o ++ [z]) ?_ ?_
    refine ⟨⟨h,(fun h => nomatch h),fun _ => ?_,?_⟩,?_⟩
    ·rw [← hyes rfl,hdr];simp
    ·simp;omega
    ·show e.length - (i + 1) < e.length - i;omega
    ·exact gw71
   | false =>
    obtain ⟨ho,hlow⟩:=hno rfl
    have hpa:=putS_at hk0 h hlow
    rw [← hz] at hpa
    rcases Int.lt_trichotomy (cmpF f z.2) 0 with hc|hc|hc
    ·have hs:=sgn_lt hc
     have hp:putS cmpF e k f = o ++ [(k,f)] ++ [z] ++ e.drop (i + 1):=by
      rw [hpa,ho];unfold putS;rw [if_neg hk0,if_pos hc];simp
     refine gw72 (Y12 i1 i2 hg hw hz0 hs hff hzz q1 q2 q3 q4) ?_
     refine qV.on (i + 1,true,o ++ [(k,f)] ++ [z]) ?_ ?_
     refine ⟨⟨h,(fun h => nomatch h),fun _ => hp.symm,?_⟩,?_⟩
     ·have:o.length = i:=by rw [ho,List.length_take];omega
      simp;omega
     ·show e.length - (i + 1) < e.length - i;omega
     ·exact gw71
    ·have hs:=sgn_eq hc
     have hab:(-9223372036854775808 ≤ z.1 + k∧z.1 + k ≤ 9223372036854775807) = True:=eq_true (by omega)
     by_cases hm:mP (z.1 + k) = 0
     ·have hmb:(mP (z.1 + k) == 0) = true:=beq_iff_eq.2 hm
      have hp:putS cmpF e k f = o ++ e.drop (i + 1):=by
       rw [hpa,ho];unfold putS;rw [if_neg hk0,if_neg (by omega),if_pos hc,if_pos hm]
      refine gw70 (Y11 i1 i2 hg hw hm hs hff hzz hab q1 q2) ?_
      refine qV.on (i + 1,true,o) ?_ ?_
      refine ⟨⟨h,(fun h => nomatch h),fun _ => hp.symm,?_⟩,?_⟩
      ·show o.length ≤ i + 1 + 1;omega
      ·show e.length - (i + 1) < e.length - i;omega
      ·exact gw73 Y0
     ·have hmb:(mP (z.1 + k) != 0) = true:=bne_iff_ne.2 hm
      have hp:putS cmpF e k f = o ++ [(mP (z.1 + k),z.2)] ++ e.drop (i + 1):=by
       rw [hpa,ho];unfold putS;rw [if_neg hk0,if_neg (by omega),if_pos hc,if_neg hm];simp
      refine gw70 (Y11 i1 i2 hg hw hmb hs hff hzz hab q1 q2) ?_
      refine qV.on (i + 1,true,o ++ [(mP (z.1 + k),z.2)]) ?_ ?_
      refine ⟨⟨h,(fun h => nomatch h),fun _ => hp.symm,?_⟩,?_⟩
      ·simp;omega
      ·show e.length - (i + 1) < e.length - i;omega
      ·exact gw71
    ·have hs:=sgn_gt hc
     refine gw70 (Y10 i1 i2 hg hw hz0 hs hff hzz q1 q2) ?_
     refine qV.on (i + 1,false,o ++ [z]) ?_ ?_
     refine ⟨⟨h,fun _ => ⟨by rw [htk,ho],?_⟩,(fun h => nomatch h),?_⟩,?_⟩
     ·intro q hq
      have hq:q ∈ e.take (i + 1):=hq
      rw [htk,List.mem_append,List.mem_singleton] at hq
      rcases hq with hq|rfl
      ·exact hlow q hq
      ·exact hc
     ·simp;omega
     ·show e.length - (i + 1) < e.length - i;omega
     ·exact gw71
  ·have i1:((i:Int) < (e.length:Int)) = False:=eq_false (by omega)
   obtain rfl:i = e.length:=by omega
   refine gw74 i1 ?_
   refine qV.out (d,o) ⟨Nat.le_refl _,hno,hyes,hlen⟩ ?_
   exact gw6 Y0
 ·rintro ⟨d,o⟩ ⟨_,hno,hyes,hlen⟩
  simp only at hno hyes hlen ⊢
  have q1:=yJ (n:=o.length + 1) (by omega)
  have q2:=yY (n:=o.length + 1) (c:=32) (by omega) (by omega)
  cases d with
  | true =>
   have hp:putS cmpF e k f = o:=by rw [← hyes rfl];simp
   rw [hp]
   refine gw69 Y0 ?_
   exact gw8
  | false =>
   obtain ⟨ho,hlow⟩:=hno rfl
   have hp:putS cmpF e k f = o ++ [(k,f)]:=by
    have h1:=putS_skip hk0 [] hlow
    rw [List.append_nil,List.take_length] at h1
    rw [h1,ho,List.take_length]
    unfold putS;rw [if_neg hk0]
   rw [hp]
   refine gw75 (Y3 hff q1 q2) ?_
   (refine Ends.mk (by simp) (rs:=?_) (ks:=?_) hres hrts ?_ ?_ ?_;rotate_left 2;(focus (simp only [Ze,Zg,Zi,seval,reduceCtorEq,Nat.reduceEqDiff,ePt];with_reducible rfl));(focus simp);focus (first|with_reducible rfl|(simp only [Zv,ePt];done)))
end Go.Proofs.YtedgfkpfhonlpaaGreat
namespace Go.Proofs.YtedgfkpfhonlpaaGreat
open Go.RowKit
def OkE (e:Elt):Prop:=∀ q ∈ e,(1 ≤ q.1∧q.1 < 10007)∧SmF q.2
theorem OkE.nil:OkE []:=fun q hq => nomatch hq
theorem putS_okE {k:Int} {f:List (List Int)} (hk:0 ≤ k∧k < 10007) (hf:SmF f):∀ {e:Elt},OkE e→OkE (putS cmpF e k f)
 | [],_ => by
  unfold putS
  split
  ·exact OkE.nil
  ·intro q hq
   simp only [List.mem_singleton] at hq
   subst hq
   exact ⟨⟨by simp only;omega,hk.2⟩,hf⟩
 | (a,y) :: L,he => by
  obtain ⟨⟨ha1,ha2⟩,hy⟩:=he (a,y) (by simp)
  have hL:OkE L:=fun q hq => he q (by simp [hq])
  unfold putS
  split
  ·exact he
  ·split
   ·intro q hq
    rcases List.mem_cons.1 hq with rfl|hq
    ·exact ⟨⟨by simp only;omega,hk.2⟩,hf⟩
    ·exact he q hq
   ·split
    ·split
     ·exact hL
     ·rename_i h0
      intro q hq
      rcases List.mem_cons.1 hq with rfl|hq
      ·have:=jM (a + k)
       exact ⟨⟨by simp only;omega,this.2⟩,hy⟩
      ·exact hL q hq
    ·intro q hq
     rcases List.mem_cons.1 hq with rfl|hq
     ·exact ⟨⟨ha1,ha2⟩,hy⟩
     ·exact putS_okE hk hf hL q hq
theorem putS_len (k:Int) (f:List (List Int)):∀ (e:Elt),(putS cmpF e k f).length ≤ e.length + 1
 | [] => by unfold putS;split <;> simp
 | (a,y) :: L => by
  have ih:=putS_len k f L
  unfold putS
  repeat' split
  all_goals simp only [List.length_cons] at ih ⊢
  all_goals omega
theorem addS_snoc (d M:Elt) (q:Int × List (List Int)):addS cmpF d (M ++ [q]) = putS cmpF (addS cmpF d M) q.1 q.2:=by
 unfold addS;rw [List.foldl_append];rfl
theorem kR:∀ {M d:Elt},OkE d→(∀ q ∈ M,(0 ≤ q.1∧q.1 < 10007)∧SmF q.2)→OkE (addS cmpF d M)
 | [],d,hd,_ => hd
 | q :: M,d,hd,hM => by
  obtain ⟨h1,h2⟩:=hM q (by simp)
  exact kR (M:=M) (putS_okE h1 h2 hd) (fun z hz => hM z (by simp [hz]))
theorem vQ:∀ (M d:Elt),(addS cmpF d M).length ≤ d.length + M.length
 | [],d => Nat.le_refl _
 | q :: M,d => by
  have h1:=vQ M (putS cmpF d q.1 q.2)
  have h2:=putS_len q.1 q.2 d
  show (addS cmpF (putS cmpF d q.1 q.2) M).length ≤ _
  simp only [List.length_cons];omega
def mulE (k:Int) (e:Elt):Elt:=e.map fun p => (mP (k * p.1),p.2)
theorem mulE_ok {k:Int} {e:Elt} (he:OkE e):∀ q ∈ mulE k e,(0 ≤ q.1∧q.1 < 10007)∧SmF q.2:=fun q hq => by
 obtain ⟨p,hp,rfl⟩:=List.mem_map.1 hq
 exact ⟨jM _,(he p hp).2⟩
theorem qM0 {a b:Int} (ha:0 ≤ a∧a < 10007) (hb:0 ≤ b∧b < 10007):0 ≤ a * b∧a * b ≤ 100140049:=by
 refine ⟨Int.mul_nonneg ha.1 hb.1,?_⟩
 have h1:=Int.mul_le_mul (show a ≤ 10007 by omega) (show b ≤ 10007 by omega) hb.1 (by decide)
 omega
theorem a_l06Add (d e:Elt) (k:Int) (hd:OkE d) (he:OkE e) (hk:0 ≤ k∧k < 10007) (hl:d.length + e.length ≤ 1000000):AFn Tryz.prog 71 [[.sl 2 (d.map ePt)],[.sl 2 (e.map ePt)],eI k] (· = [.val (.sl 2 ((addS cmpF d (mulE k e)).map ePt))]):=by
 have hml:(mulE k e).length = e.length:=by unfold mulE;simp
 refine AFn.of_runs (qX 31) Tryz.func71 rfl rfl rfl gz ?_
 have hres:Tryz.f71.results.toList = [.tmp 6]:=rfl
 have hrts:Tryz.f71.resultTypes.toList = [50]:=rfl
 simp only [qK,qD,eL,eI,eLL,eB,Nat.zero_add,Nat.reduceAdd]
 intro M
 refine qJ.of ?_
 refine gw76 ?_
 refine qJ.loop (β:=Nat) (γ:=Unit) (fun i => ⟨[(1,.c (.val (.sl 2 (e.map ePt)))),(2,.c (.val (.int k))),(7,.c (.val (.sl 2 ((addS cmpF d ((mulE k e).take i)).map ePt)))),(8,.c (.val (.int i)))],[]⟩) (fun i => i ≤ e.length) (fun i => e.length - i)
  (fun _ => ⟨[(7,.c (.val (.sl 2 ((addS cmpF d (mulE k e)).map ePt))))],[]⟩) (fun _ => True) 0 (Nat.zero_le _) ?_ ?_ ?_
 ·rw [List.take_zero,show addS cmpF d [] = d from rfl]
  exact gw6 Y0
 ·intro i hi
  have hi:i ≤ e.length:=hi
  have hw:=qL (n:=i) (by omega)
  by_cases h:i < e.length
  ·have i1:((i:Int) < (e.length:Int)) = True:=eq_true (by omega)
   have i2:((0:Int) ≤ (i:Int)) = True:=eq_true (by omega)
   obtain ⟨z,hz⟩:∃ z,z = e[i]:=⟨_,rfl⟩
   obtain ⟨⟨hz1,hz2⟩,hz3⟩:=he e[i] (List.getElem_mem _)
   have hg:(e.map ePt)[i]? = some [.int z.1,.sl 1 (z.2.map eL)]:=by rw [qI h,hz];rfl
   rw [← hz] at hz1 hz2 hz3
   have hm:=a_l01Mul k z.1 (by have:=qM0 hk ⟨show 0 ≤ z.1 by omega,hz2⟩;omega)
   have hsub:∀ q ∈ (mulE k e).take i,(0 ≤ q.1∧q.1 < 10007)∧SmF q.2:=fun q hq => mulE_ok he q (List.mem_of_mem_take hq)
   have hput:=a_l06Put (addS cmpF d ((mulE k e).take i)) (mP (k * z.1)) z.2 (by
    have:=vQ ((mulE k e).take i) d
    rw [List.length_take] at this;omega) (kR hd hsub) (jM _) hz3
   have hst:addS cmpF d ((mulE k e).take (i + 1)) = putS cmpF (addS cmpF d ((mulE k e).take i)) (mP (k * z.1)) z.2:=by
    have hi':i < (mulE k e).length:=by rw [hml];exact h
    have hgm:(mulE k e)[i]'hi' = (mP (k * z.1),z.2):=by rw [hz];exact List.getElem_map _
    rw [List.take_succ_eq_append_getElem hi',addS_snoc,hgm]
   simp only [eI,eLL] at hm hput
   refine gw77 (Y4 i1 i2 hg hw) ?_
   refine qV.on (i + 1) ⟨h,by omega⟩ ?_
   rw [hst]
   exact gw6 Y0
  ·have i1:((i:Int) < (e.length:Int)) = False:=eq_false (by omega)
   obtain rfl:i = e.length:=by omega
   rw [← hml,List.take_length,hml]
   refine gw78 i1 ?_
   refine qV.out () trivial ?_
   exact gw6 Y0
 ·rintro _ _
  refine gw76 ?_
  exact gw8
def limB (L:Elt):Bool:=decide (L.length ≤ 300∧∀ p ∈ L,qQ p.2 ≤ 8)
noncomputable def TOwn:Tab Tryz.prog :=
 (Tab.none.add 130 (tab1 codLL fun f => some [.val (.int (jA f))]) (xY fun f rs h => by cases h;exact a_l03Nodes f)).add
  67 (tab1 codLL fun f => if SmF f then some [.own 1 (f.map eL) false] else none) (xY fun f rs h => by split at h;cases h;rename_i hs;exact qU0 f (by have:=hs.1;omega) hs.b;cases h)
theorem a_l06Own (e:Elt) (he:OkE e) (hl:e.length ≤ 1000000):∃ b,AFn Tryz.prog 73 [[.sl 2 (e.map ePt)]] (· = [.own 2 ((limS e).1.map ePt) b,.val (.int (limS e).2)]):=by
 refine ⟨!limB e,?_⟩
 unfold limS
 refine AFn.of_runs (qX 41) Tryz.func73 rfl rfl rfl gz ?_
 have hres:Tryz.f73.results.toList = [.tmp 2,.tmp 3]:=rfl
 have hrts:Tryz.f73.resultTypes.toList = [50,2]:=rfl
 simp only [qK,qD,eL,eI,eLL,eB,Nat.zero_add,Nat.reduceAdd]
 intro M
 refine qJ.of ?_
 refine gw54 ?_
 refine qJ.loop (β:=Nat) (γ:=Unit) (fun i => ⟨[(0,.c (.val (.sl 2 (e.map ePt)))),(4,.c (.own 4 i)),(5,.c (.val (.int i)))],[(4,.row 2 ((e.take i).map ePt) false)]⟩) (fun i => i ≤ e.length∧(0 < i→e.length ≤ 300)∧∀ p ∈ e.take i,qQ p.2 ≤ 8) (fun i => e.length - i)
  (fun _ => ⟨[(4,.c (.own 4 e.length))],[(4,.row 2 (e.map ePt) false)]⟩) (fun _ => limB e = true) 0 ⟨Nat.zero_le _,by omega,by simp⟩ ?_ ?_ ?_
 ·exact gw2
 ·rintro i ⟨hi,h3,h8⟩
  have hw:=qL (n:=i) (by omega)
  have hlt:((e.take i).map ePt).length = i:=by rw [List.length_map,List.length_take];omega
  have q1:=yJ (n:=i + 1) (by omega)
  have q2:=yY (n:=i + 1) (c:=32) (by omega) (by omega)
  by_cases h:i < e.length
  ·have i1:((i:Int) < (e.length:Int)) = True:=eq_true (by omega)
   have i2:((0:Int) ≤ (i:Int)) = True:=eq_true (by omega)
   obtain ⟨z,hz⟩:∃ z,z = e[i]:=⟨_,rfl⟩
   have hg:(e.map ePt)[i]? = some [.int z.1,.sl 1 (z.2.map eL)]:=by rw [qI h,hz];rfl
   have hz3:=(he e[i] (List.getElem_mem _)).2
   rw [← hz] at hz3
   have hzz:=eq_true hz3
   have hnb:jA z.2 = qQ z.2:=xL z.2 (by have:=hz3.2;omega)
   have htk:e.take (i + 1) = e.take i ++ [z]:=by rw [hz];exact List.take_succ_eq_append_getElem h
   by_cases hs:qQ z.2 ≤ 8
   ·have j1:((qQ z.2:Int) > 8) = False:=eq_false (by omega)
    by_cases hn:e.length ≤ 300
    ·have j2:((e.length:Int) > 300) = False:=eq_false (by omega)
     refine gw79 (Y11 i1 i2 hg hnb hzz hw j1 j2 q1 q2 hlt) ?_
     refine qV.on (i + 1) ⟨⟨h,fun _ => hn,fun p hp => ?_⟩,by omega⟩ ?_
     ·rw [htk,List.mem_append,List.mem_singleton] at hp
      rcases hp with hp|rfl
      ·exact h8 p hp
      ·exact hs
     ·rw [htk]
      exact gw73 Y0
    ·have j2:((e.length:Int) > 300) = True:=eq_true (by omega)
     have hno:limB e = false:=decide_eq_false (fun h => hn h.1)
     refine gw79 (Y11 i1 i2 hg hnb hzz hw j1 j2 q1 q2 hlt) ?_
     refine qV.ret ?_
     rw [hno,if_neg (fun h => hn h.1)]
     refine gw54 ?_
     exact gw80
   ·have j1:((qQ z.2:Int) > 8) = True:=eq_true (by omega)
    have hno':¬ (e.length ≤ 300∧∀ p ∈ e,qQ p.2 ≤ 8):=fun h' => hs (by have:=h'.2 e[i] (List.getElem_mem _);rw [hz];exact this)
    have hno:limB e = false:=decide_eq_false hno'
    refine gw79 (Y10 i1 i2 hg hnb hzz hw j1 q1 q2 hlt) ?_
    refine qV.ret ?_
    rw [hno,if_neg hno']
    refine gw54 ?_
    exact gw80
  ·have i1:((i:Int) < (e.length:Int)) = False:=eq_false (by omega)
   obtain rfl:i = e.length:=by omega
   rw [List.take_length] at h8 ⊢
   refine gw58 i1 ?_
   refine qV.out () (decide_eq_true ⟨?_,h8⟩) ?_
   ·by_cases h0:0 < e.length
    ·exact h3 h0
    ·omega
   ·exact gw6 Y0
 ·intro _ hyes
  have hyes:limB e = true:=hyes
  rw [hyes,if_pos (of_decide_eq_true hyes)]
  refine gw54 ?_
  (refine Ends.mk (by simp) (rs:=?_) (ks:=?_) hres hrts ?_ ?_ ?_;rotate_left 2;(focus (simp only [Ze,Zg,Zi,seval,reduceCtorEq,Nat.reduceEqDiff,Bool.not_true];with_reducible rfl));(focus simp);focus (first|with_reducible rfl|(simp only [Zv,Bool.not_true];done)))
end Go.Proofs.YtedgfkpfhonlpaaGreat
namespace Go.Proofs.YtedgfkpfhonlpaaGreat
open Go.RowKit
theorem szP.at {e:List (Int × List (List Int))} (h:szP e) {i:Nat} (hi:i < e.length):qQ e[i].2 ≤ 1048576∧e[i].2.length ≤ 1048576:=by
 have:=szN_mem (List.getElem_mem hi)
 unfold szP at h
 omega
theorem okP_no1 {e:Elt} {i:Nat} {c:Int} {f:List (List Int)} (h:e.getD i (0,[]) = (c,f)) (hc:isNum c = false ∨ c = 0):okP e i = false:=by
 unfold okP
 rw [h]
 unfold isNum inR at hc
 by_cases h1:1 ≤ c
 ·have h2:¬ c < 10007:=by simp at hc;omega
  rw [decide_eq_false h2,Bool.and_false,Bool.false_and,Bool.false_and]
 ·rw [decide_eq_false h1,Bool.false_and,Bool.false_and,Bool.false_and]
theorem okP_no2 {e:Elt} {i:Nat} {c:Int} {f:List (List Int)} (h:e.getD i (0,[]) = (c,f)) (hc:forB f = false):okP e i = false:=by
 unfold okP;rw [h,hc,Bool.and_false,Bool.false_and]
theorem okP_no3 {e:Elt} {i:Nat} {c:Int} {f g:List (List Int)} {k:Int} (h:e.getD i (0,[]) = (c,f)) (h2:e.getD (i - 1) (0,[]) = (k,g)) (h0:i ≠ 0) (hc:¬ cmpF g f < 0):okP e i = false:=by
 unfold okP;rw [h,h2,decide_eq_false h0,decide_eq_false hc,Bool.or_self,Bool.and_false]
theorem okP_yes {e:Elt} {i:Nat} {c:Int} {f g:List (List Int)} {k:Int} (h:e.getD i (0,[]) = (c,f)) (h2:e.getD (i - 1) (0,[]) = (k,g)) (hn:isNum c = true) (h1:c ≠ 0) (hf:forB f = true) (h0:i = 0 ∨ cmpF g f < 0):okP e i = true:=by
 unfold isNum inR at hn
 simp at hn
 unfold okP
 rw [h,h2,decide_eq_true (show 1 ≤ c by omega),decide_eq_true (show c < 10007 by omega),hf]
 rcases h0 with h0|h0
 ·rw [decide_eq_true h0];rfl
 ·rw [decide_eq_true h0,Bool.or_true];rfl
end Go.Proofs.YtedgfkpfhonlpaaGreat
namespace Go.Proofs.YtedgfkpfhonlpaaGreat
open Go.RowKit
theorem a_impl_IsNumber (n:Int):AFn Tryz.prog 86 [eI n] (· = [.val (.bool (isNum n))]):=afn_I_s (v:=.bool _) (enters_of Tryz.func86 rfl rfl) (fun _ _ => jL.2 rfl) (fun w => c_impl_IsNumber n w)
noncomputable def TEl:Tab Tryz.prog :=
 ((Tab.none.add 86 (tab1 codI fun n => some [.val (.bool (isNum n))]) (xY fun n rs h => by cases h;exact a_impl_IsNumber n)).add
   59 (tab1 codLL fun f => if qQ f ≤ 1048576∧f.length ≤ 1048576 then some [.val (.bool (forB f))] else none) (xY fun f rs h => by split at h;cases h;rename_i hs;exact a_impl_IsForest f (by omega) (by omega);cases h)).add
   87 (tab2 codLL codLL fun f g => if qQ f ≤ 1048576∧qQ g ≤ 1048576 then some [.val (.int (cmpF f g))] else none) (yS fun f g rs h => by split at h;cases h;rename_i hs;exact yQ0 f g (by omega) (by omega);cases h)
theorem a_impl_IsElement (e:Elt) (hsz:szP e):AFn Tryz.prog 32 [[.sl 2 (e.map ePt)]] (· = [.val (.bool (elB e))]):=by
 refine AFn.of_runs (qX 47) Tryz.func32 rfl rfl rfl gz ?_
 have hres:Tryz.f32.results.toList = [.tmp 2]:=rfl
 have hrts:Tryz.f32.resultTypes.toList = [4]:=rfl
 simp only [qK,qD,eL,eI,eLL,eB,Nat.zero_add,Nat.reduceAdd]
 intro M
 refine qJ.of ?_
 have hln:e.length ≤ 1048576:=by unfold szP at hsz;omega
 by_cases h3:e.length ≤ 300
 ·have i8:((e.length:Int) > 300) = False:=eq_false (by omega)
  refine gw81 i8 ?_
  refine qJ.loop (β:=Nat) (γ:=Unit) (fun i => ⟨[(0,.c (.val (.sl 2 (e.map ePt)))),(8,.c (.val (.sl 2 (e.map ePt)))),(9,.c (.val (.int e.length))),(10,.c (.val (.int i)))],[]⟩) (fun i => i ≤ e.length∧(List.range i).all (okP e) = true) (fun i => e.length - i)
   (fun _ => ⟨[],[]⟩) (fun _ => (List.range e.length).all (okP e) = true) 0 ⟨Nat.zero_le _,rfl⟩ ?_ ?_ ?_
  ·exact gw82
  ·rintro i ⟨hi,hall⟩
   have hw:=qL (n:=i) (by omega)
   by_cases h:i < e.length
   ·have i1:((i:Int) < (e.length:Int)) = True:=eq_true (by omega)
    have i2:((0:Int) ≤ (i:Int)) = True:=eq_true (by omega)
    have hs1:=hsz.at h
    obtain ⟨c,f,ht⟩:∃ c f,(c,f) = e[i]:=⟨_,_,rfl⟩
    have hg:(e.map ePt)[i]? = some [.int c,.sl 1 (f.map eL)]:=by rw [qI h,← ht];rfl
    have hgd:e.getD i (0,[]) = (c,f):=by rw [xV h,ht]
    rw [← ht] at hs1
    simp only at hs1
    have s1:=eq_true hs1
    have s1':=eq_true hs1.1
    by_cases hc0:c = 0
    ·have e0:(c == 0) = true:=by rw [hc0];rfl
     have hB:elB e = false:=by unfold elB;rw [xO h (okP_no1 hgd (.inr hc0)),Bool.and_false]
     rw [hB]
     refine gw83 (Y5 i1 i2 hg hw e0) ?_
     refine qV.ret ?_
     refine gw84 Y0 ?_
     exact gw8
    ·have e0:(c == 0) = false:=beq_eq_false_iff_ne.2 hc0
     by_cases hn:isNum c = true
     ·by_cases hf:forB f = true
      ·by_cases h0:i = 0
       ·have j1:((i:Int) > 0) = False:=eq_false (by omega)
        have hok:okP e i = true:=okP_yes hgd rfl hn hc0 hf (.inl h0)
        refine gw83 (Y9 i1 i2 hg hw e0 hn hf s1 j1) ?_
        refine qV.on (i + 1) ⟨⟨h,kP hall hok⟩,by omega⟩ ?_
        exact gw6 Y0
       ·have j1:((i:Int) > 0) = True:=eq_true (by omega)
        have hw1:w64 ((i:Int) - 1) = ((i - 1:Nat):Int):=by rw [jN (by omega)];omega
        have i3:((0:Int) ≤ ((i - 1:Nat):Int)) = True:=eq_true (by omega)
        have i4:(((i - 1:Nat):Int) < (e.length:Int)) = True:=eq_true (by omega)
        have hs2:=hsz.at (show i - 1 < e.length by omega)
        obtain ⟨k,g,ht2⟩:∃ k g,(k,g) = e[i - 1]:=⟨_,_,rfl⟩
        have hg2:(e.map ePt)[i - 1]? = some [.int k,.sl 1 (g.map eL)]:=by rw [qI (by omega),← ht2];rfl
        have hgd2:e.getD (i - 1) (0,[]) = (k,g):=by rw [xV (by omega),ht2]
        rw [← ht2] at hs2
        simp only at hs2
        have s2:(qQ g ≤ 1048576∧qQ f ≤ 1048576) = True:=eq_true ⟨hs2.1,hs1.1⟩
        by_cases hk:cmpF g f < 0
        ·have hok:okP e i = true:=okP_yes hgd hgd2 hn hc0 hf (.inr hk)
         have k1:(cmpF g f ≥ 0) = False:=eq_false (by omega)
         refine gw83 (Y12 i1 i2 i3 i4 hg hg2 hw hw1 e0 hn hf (Y4 s1 s2 j1 k1)) ?_
         refine qV.on (i + 1) ⟨⟨h,kP hall hok⟩,by omega⟩ ?_
         exact gw6 Y0
        ·have hB:elB e = false:=by unfold elB;rw [xO h (okP_no3 hgd hgd2 h0 hk),Bool.and_false]
         have k1:(cmpF g f ≥ 0) = True:=eq_true (by omega)
         rw [hB]
         refine gw83 (Y12 i1 i2 i3 i4 hg hg2 hw hw1 e0 hn hf (Y4 s1 s2 j1 k1)) ?_
         refine qV.ret ?_
         refine gw84 Y0 ?_
         exact gw8
      ·have hf:forB f = false:=by simpa using hf
       have hB:elB e = false:=by unfold elB;rw [xO h (okP_no2 hgd hf),Bool.and_false]
       rw [hB]
       refine gw83 (Y8 i1 i2 hg hw e0 hn hf s1) ?_
       refine qV.ret ?_
       refine gw84 Y0 ?_
       exact gw8
     ·have hn:isNum c = false:=by simpa using hn
      have hB:elB e = false:=by unfold elB;rw [xO h (okP_no1 hgd (.inl hn)),Bool.and_false]
      rw [hB]
      refine gw83 (Y6 i1 i2 hg hw e0 hn) ?_
      refine qV.ret ?_
      refine gw84 Y0 ?_
      exact gw8
   ·have i1:((i:Int) < (e.length:Int)) = False:=eq_false (by omega)
    obtain rfl:i = e.length:=by omega
    refine gw84 i1 ?_
    refine qV.out () hall ?_
    exact gw6 Y0
  ·rintro _ hall
   have hB:elB e = true:=by unfold elB;rw [hall,decide_eq_true h3];rfl
   rw [hB]
   refine gw84 Y0 ?_
   exact gw8
 ·have i8:((e.length:Int) > 300) = True:=eq_true (by omega)
  have hB:elB e = false:=by unfold elB;rw [decide_eq_false h3,Bool.false_and]
  rw [hB]
  refine gw81 i8 ?_
  exact gw8
end Go.Proofs.YtedgfkpfhonlpaaGreat
namespace Go.Proofs.YtedgfkpfhonlpaaGreat
open Go.RowKit
noncomputable def TElS:Tab Tryz.prog :=
 ((Tab.none.add 135 (tab3 codI codI codI fun x y z => some [.val (.bool (inR x y z))]) (tab3_ok fun x y z rs h => by cases h;exact a_spec_l01In x y z)).add
   65 (tab1 codLL fun f => if qQ f ≤ 1048576∧f.length ≤ 1048576 then some [.val (.bool (forB f))] else none) (xY fun f rs h => by split at h;cases h;rename_i hs;exact a_l03Forest f (by omega) (by omega);cases h)).add
   136 (tab2 codLL codLL fun f g => if (qQ f ≤ 1048576∧qQ g ≤ 1048576)∧(f.length ≤ 1048576∧g.length ≤ 1048576) then some [.val (.int (sgn (cmpF f g)))] else none) (yS fun f g rs h => by split at h;cases h;rename_i hs;exact a_l06Order f g (by omega) (by omega) (by omega) (by omega);cases h)
theorem sgn_ge {n:Int}:(sgn n ≥ 0) = (¬ n < 0):=by
 unfold sgn
 by_cases h:n < 0
 ·rw [if_pos h];exact propext ⟨fun h => absurd h (by decide),fun k => absurd h k⟩
 ·rw [if_neg h];split <;> exact propext ⟨fun _ => h,fun _ => by decide⟩
theorem a_l06Is (e:Elt) (hsz:szP e):AFn Tryz.prog 70 [[.sl 2 (e.map ePt)]] (· = [.val (.bool (elB e))]):=by
 refine AFn.of_runs (qX 48) Tryz.func70 rfl rfl rfl gz ?_
 have hres:Tryz.f70.results.toList = [.tmp 2]:=rfl
 have hrts:Tryz.f70.resultTypes.toList = [4]:=rfl
 simp only [qK,qD,eL,eI,eLL,eB,Nat.zero_add,Nat.reduceAdd]
 intro M
 refine qJ.of ?_
 have hln:e.length ≤ 1048576:=by unfold szP at hsz;omega
 refine gw85 Y0 ?_
 refine qJ.loop (β:=Nat) (γ:=Unit) (fun i => ⟨[(0,.c (.val (.sl 2 (e.map ePt)))),(3,.c (.val (.int i)))],[]⟩) (fun i => i ≤ e.length∧(List.range i).all (okP e) = true) (fun i => e.length - i)
  (fun _ => ⟨[(0,.c (.val (.sl 2 (e.map ePt))))],[]⟩) (fun _ => (List.range e.length).all (okP e) = true) 0 ⟨Nat.zero_le _,rfl⟩ ?_ ?_ ?_
 ·exact gw6 Y0
 ·rintro i ⟨hi,hall⟩
  have hw:=qL (n:=i) (by omega)
  by_cases h:i < e.length
  ·have i1:((i:Int) < (e.length:Int)) = True:=eq_true (by omega)
   have i2:((0:Int) ≤ (i:Int)) = True:=eq_true (by omega)
   have hs1:=hsz.at h
   obtain ⟨c,f,ht⟩:∃ c f,(c,f) = e[i]:=⟨_,_,rfl⟩
   have hg:(e.map ePt)[i]? = some [.int c,.sl 1 (f.map eL)]:=by rw [qI h,← ht];rfl
   have hgd:e.getD i (0,[]) = (c,f):=by rw [xV h,ht]
   rw [← ht] at hs1
   simp only at hs1
   have s1:=eq_true hs1
   by_cases hn:inR c 1 10006 = true
   ·have hn1:isNum c = true∧c ≠ 0:=by unfold inR at hn;unfold isNum inR;simp at hn ⊢;omega
    by_cases hf:forB f = true
    ·by_cases h0:i = 0
     ·have j1:((i:Int) > 0) = False:=eq_false (by omega)
      have hok:okP e i = true:=okP_yes hgd rfl hn1.1 hn1.2 hf (.inl h0)
      refine gw86 (Y8 i1 i2 hg hw hn hf s1 j1) ?_
      refine qV.on (i + 1) ⟨⟨h,kP hall hok⟩,by omega⟩ ?_
      exact gw6 Y0
     ·have j1:((i:Int) > 0) = True:=eq_true (by omega)
      have hw1:w64 ((i:Int) - 1) = ((i - 1:Nat):Int):=by rw [jN (by omega)];omega
      have i3:((0:Int) ≤ ((i - 1:Nat):Int)) = True:=eq_true (by omega)
      have i4:(((i - 1:Nat):Int) < (e.length:Int)) = True:=eq_true (by omega)
      have hs2:=hsz.at (show i - 1 < e.length by omega)
      obtain ⟨k,g,ht2⟩:∃ k g,(k,g) = e[i - 1]:=⟨_,_,rfl⟩
      have hg2:(e.map ePt)[i - 1]? = some [.int k,.sl 1 (g.map eL)]:=by rw [qI (by omega),← ht2];rfl
      have hgd2:e.getD (i - 1) (0,[]) = (k,g):=by rw [xV (by omega),ht2]
      rw [← ht2] at hs2
      simp only at hs2
      have s2:((qQ g ≤ 1048576∧qQ f ≤ 1048576)∧(g.length ≤ 1048576∧f.length ≤ 1048576)) = True:=eq_true ⟨⟨hs2.1,hs1.1⟩,hs2.2,hs1.2⟩
      by_cases hk:cmpF g f < 0
      ·have hok:okP e i = true:=okP_yes hgd hgd2 hn1.1 hn1.2 hf (.inr hk)
       have k1:(sgn (cmpF g f) ≥ 0) = False:=by rw [sgn_ge];exact eq_false (fun k => k hk)
       refine gw86 (Y12 i1 i2 i3 i4 hg hg2 hw hw1 hn hf s1 (Y3 s2 j1 k1)) ?_
       refine qV.on (i + 1) ⟨⟨h,kP hall hok⟩,by omega⟩ ?_
       exact gw6 Y0
      ·have hB:elB e = false:=by unfold elB;rw [xO h (okP_no3 hgd hgd2 h0 hk),Bool.and_false]
       have k1:(sgn (cmpF g f) ≥ 0) = True:=by rw [sgn_ge];exact eq_true hk
       rw [hB]
       refine gw86 (Y12 i1 i2 i3 i4 hg hg2 hw hw1 hn hf s1 (Y3 s2 j1 k1)) ?_
       refine qV.ret ?_
       refine gw87 ?_
       exact gw8
    ·have hf:forB f = false:=by simpa using hf
     have hB:elB e = false:=by unfold elB;rw [xO h (okP_no2 hgd hf),Bool.and_false]
     rw [hB]
     refine gw86 (Y7 i1 i2 hg hw hn hf s1) ?_
     refine qV.ret ?_
     refine gw87 ?_
     exact gw8
   ·have hn:inR c 1 10006 = false:=by simpa using hn
    have hB:elB e = false:=by
     unfold elB
     rw [xO h (okP_no1 hgd ?_),Bool.and_false]
     unfold inR at hn
     unfold isNum inR
     simp at hn ⊢
     omega
    rw [hB]
    refine gw86 (Y5 i1 i2 hg hw hn) ?_
    refine qV.ret ?_
    refine gw87 ?_
    exact gw8
  ·have i1:((i:Int) < (e.length:Int)) = False:=eq_false (by omega)
   obtain rfl:i = e.length:=by omega
   refine gw85 i1 ?_
   refine qV.out () hall ?_
   exact gw6 Y0
 ·rintro _ hall
  have hB:elB e = decide ((e.length:Int) ≤ 300):=by
   unfold elB;rw [hall,Bool.and_true]
   exact decide_eq_decide.2 (by omega)
  rw [hB]
  refine gw85 Y0 ?_
  exact gw8
end Go.Proofs.YtedgfkpfhonlpaaGreat
namespace Go.Proofs.YtedgfkpfhonlpaaGreat
open Go.RowKit
def cmpTe:Spl→Spl→Int:=pairC cmpF cmpF
def OkT (L:List (Int × Spl)):Prop:=∀ q ∈ L,(1 ≤ q.1∧q.1 < 10007)∧SmS q.2
theorem OkT.nil:OkT []:=fun q hq => nomatch hq
structure PutTI (e:List (Int × Spl)) (k:Int) (x:Spl) (y:Nat × Bool × List (Int × Spl)):Prop where
 le:y.1 ≤ e.length
 no:y.2.1 = false→k ≠ 0∧y.2.2 = e.take y.1∧∀ q ∈ e.take y.1,0 < cmpTe x q.2
 yes:y.2.1 = true→y.2.2 ++ e.drop y.1 = putS cmpTe e k x
 len:y.2.2.length ≤ y.1 + 1
end Go.Proofs.YtedgfkpfhonlpaaGreat
namespace Go.Proofs.YtedgfkpfhonlpaaGreat
def Eqm (a b:Int):Prop:=∃ k,a = b + 10007 * k
theorem Eqm.refl (a:Int):Eqm a a:=⟨0,by omega⟩
theorem Eqm.of {a b:Int} (h:a = b):Eqm a b:=h ▸ Eqm.refl a
theorem Eqm.symm {a b:Int}:Eqm a b→Eqm b a:=fun ⟨k,h⟩ => ⟨-k,by omega⟩
theorem Eqm.trans {a b d:Int}:Eqm a b→Eqm b d→Eqm a d:=fun ⟨k,h⟩ ⟨m,h'⟩ => ⟨k + m,by omega⟩
theorem Eqm.add {a b d e:Int}:Eqm a b→Eqm d e→Eqm (a + d) (b + e):=fun ⟨k,h⟩ ⟨m,h'⟩ => ⟨k + m,by omega⟩
theorem Eqm.mulL {a b:Int} (d:Int):Eqm a b→Eqm (d * a) (d * b):=fun ⟨k,h⟩ => ⟨d * k,by rw [h,Int.mul_add,Int.mul_left_comm]⟩
theorem Eqm.mulR {a b:Int} (d:Int):Eqm a b→Eqm (a * d) (b * d):=fun h => by rw [Int.mul_comm a,Int.mul_comm b];exact h.mulL d
theorem Eqm.mul {a b d e:Int} (h:Eqm a b) (h':Eqm d e):Eqm (a * d) (b * e):=(h.mulR d).trans (h'.mulL b)
theorem eqm_mP (a:Int):Eqm (mP a) a:=⟨-(a / 10007),by unfold mP;omega⟩
theorem Eqm.mP {a b:Int}:Eqm a b→mP a = mP b:=fun ⟨k,h⟩ => by unfold Go.Proofs.YtedgfkpfhonlpaaGreat.mP;omega
section
variable {κ:Type}
def lin (F:κ→Int):List (Int × κ)→Int
 | [] => 0
 | q :: L => q.1 * F q.2 + lin F L
theorem kD (F:κ→Int) (q:Int × κ) (L:List (Int × κ)):lin F (q :: L) = q.1 * F q.2 + lin F L:=rfl
theorem lin_append (F:κ→Int):∀ (L M:List (Int × κ)),lin F (L ++ M) = lin F L + lin F M
 | [],M => by simp [lin]
 | q :: L,M => by rw [List.cons_append,kD,kD,lin_append F L M];omega
theorem jG0 {α:Type} (F:κ→Int) (g:α→List (Int × κ)):∀ (L:List α),lin F (L.flatMap g) = (L.map fun a => lin F (g a)).sum
 | [] => rfl
 | a :: L => by rw [List.flatMap_cons,lin_append,jG0 F g L,List.map_cons,List.sum_cons]
theorem sum_eqm {α:Type} {f g:α→Int}:∀ {L:List α},(∀ a ∈ L,Eqm (f a) (g a))→Eqm (L.map f).sum (L.map g).sum
 | [],_ => Eqm.refl _
 | a :: L,h => by
  rw [List.map_cons,List.map_cons,List.sum_cons,List.sum_cons]
  exact (h a (by simp)).add (sum_eqm fun b hb => h b (by simp [hb]))
theorem lin_scale (F:κ→Int) (k:Int):∀ (L:List (Int × κ)),lin (fun x => k * F x) L = k * lin F L
 | [] => by simp [lin]
 | q :: L => by rw [kD,kD,lin_scale F k L,Int.mul_add,Int.mul_left_comm]
theorem lin_map {α:Type} (F:κ→Int) (g:α→κ) (k:Int):∀ (L:List (Int × α)),Eqm (lin F (L.map fun q => (mP (q.1 * k),g q.2))) (k * lin (fun a => F (g a)) L)
 | [] => by simp [lin];exact Eqm.refl _
 | q :: L => by
  rw [List.map_cons,kD,kD,Int.mul_add]
  refine Eqm.add ?_ (lin_map F g k L)
  have h:=(eqm_mP (q.1 * k)).mulR (F (g q.2))
  rw [show q.1 * k * F (g q.2) = k * (q.1 * F (g q.2)) by rw [Int.mul_comm q.1 k,Int.mul_assoc]] at h
  exact h
variable {c:κ→κ→Int} (hc:Cmp c)
def oneS (c:κ→κ→Int) (z x:κ):Int:=if c x z = 0 then 1 else 0
theorem coef_lin (z:κ):∀ (L:List (Int × κ)),coef c L z = lin (oneS c z) L
 | [] => rfl
 | q :: L => by
  rw [jI,kD,coef_lin z L]
  unfold oneS
  split <;> omega
include hc
theorem lin_putS (F:κ→Int):∀ (L:List (Int × κ)) (k:Int) (x:κ),Eqm (lin F (putS c L k x)) (lin F L + k * F x)
 | [],k,x => by
  unfold putS
  split
  ·rename_i h;subst h;simp [lin];exact Eqm.refl _
  ·refine Eqm.of ?_
   simp only [lin];omega
 | (a,y) :: L,k,x => by
  unfold putS
  split
  ·rename_i h;subst h
   refine Eqm.of ?_
   simp
  ·split
   ·refine Eqm.of ?_
    simp only [lin];omega
   ·split
    ·rename_i h
     obtain rfl:=hc.zero x y h
     have e:Eqm (mP (a + k) * F x) (a * F x + k * F x):=by
      have:=(eqm_mP (a + k)).mulR (F x)
      rwa [Int.add_mul] at this
     obtain ⟨j,hj⟩:=e
     split
     ·rename_i h4
      rw [h4,Int.zero_mul] at hj
      refine ⟨j,?_⟩
      simp only [lin];omega
     ·refine ⟨j,?_⟩
      simp only [lin];omega
    ·have ih:=lin_putS F L k x
     obtain ⟨j,hj⟩:=ih
     refine ⟨j,?_⟩
     simp only [lin];omega
theorem lin_addS (F:κ→Int):∀ (M L:List (Int × κ)),Eqm (lin F (addS c L M)) (lin F L + lin F M)
 | [],L => Eqm.of (by simp [addS,lin])
 | q :: M,L => by
  have h1:=lin_addS F M (putS c L q.1 q.2)
  have h2:=lin_putS hc F L q.1 q.2
  obtain ⟨j,hj⟩:=h1
  obtain ⟨i,hi⟩:=h2
  refine ⟨i + j,?_⟩
  show lin F (addS c (putS c L q.1 q.2) M) = _
  rw [kD];omega
theorem lin_sumS (F:κ→Int) (M:List (Int × κ)):Eqm (lin F (sumS c M)) (lin F M):=by
 have:=lin_addS hc F M []
 rwa [show lin F [] = 0 from rfl,Int.zero_add] at this
theorem nf_lin {L M:List (Int × κ)} (hL:NfS c L) (hM:NfS c M) (h:∀ F:κ→Int,Eqm (lin F L) (lin F M)):L = M :=
 NfS.ext hc hL hM (fun z => by rw [coef_lin,coef_lin];exact (h _).mP)
theorem sum_lin {L M:List (Int × κ)} (hL:∀ q ∈ L,0 ≤ q.1∧q.1 < 10007) (hM:∀ q ∈ M,0 ≤ q.1∧q.1 < 10007) (h:∀ F:κ→Int,Eqm (lin F L) (lin F M)):sumS c L = sumS c M :=
 nf_lin hc (vF hc hL) (vF hc hM) (fun F => (lin_sumS hc F L).trans ((h F).trans (lin_sumS hc F M).symm))
omit hc
theorem addS_memL:∀ (M L:List (Int × κ)) {q:Int × κ},q ∈ addS c L M→(∃ p ∈ L,p.2 = q.2) ∨ ∃ p ∈ M,p.2 = q.2
 | [],L,q,h => .inl ⟨q,h,rfl⟩
 | r :: M,L,q,h => by
  rcases addS_memL M (putS c L r.1 r.2) h with ⟨p,h1,h2⟩|⟨p,h1,h2⟩
  ·rcases putS_mem L r.1 r.2 h1 with h3|⟨p',h3,h4⟩
   ·exact .inr ⟨r,by simp,by rw [← h2,h3]⟩
   ·exact .inl ⟨p',h3,by rw [h4,h2]⟩
  ·exact .inr ⟨p,by simp [h1],h2⟩
theorem sumS_mem {M:List (Int × κ)} {q:Int × κ} (h:q ∈ sumS c M):∃ p ∈ M,p.2 = q.2:=by
 rcases addS_memL M [] h with ⟨p,h1,_⟩|h
 ·cases h1
 ·exact h
end
theorem lin_prodL (F:List (List Int)→Int) (d e:Elt):Eqm (lin F (prodL d e)) (lin (fun x => lin (fun y => F (mulF x y)) e) d):=by
 induction d with
 | nil => exact Eqm.refl _
 | cons p d ih =>
  have e1:prodL (p :: d) e = (e.map fun q => (mP (p.1 * q.1),mulF p.2 q.2)) ++ prodL d e:=by unfold prodL;rw [List.flatMap_cons]
  rw [e1,lin_append,kD]
  refine Eqm.add ?_ ih
  have h:=lin_map F (mulF p.2) p.1 e
  refine Eqm.trans (Eqm.of ?_) h
  congr 1
  exact List.map_congr_left fun q _ => by rw [Int.mul_comm]
end Go.Proofs.YtedgfkpfhonlpaaGreat
namespace Go.Proofs.YtedgfkpfhonlpaaGreat
open Go.RowKit Go.Shelf
theorem flatMap_getG {α β:Type} (enc:α→List β) (k:Nat) (hk:∀ x,(enc x).length = k) (hp:0 < k):∀ (l:List α) (t:Nat),(l.flatMap enc)[t]? = (l[t / k]?).bind fun x => (enc x)[t % k]?
 | [],t => by simp
 | x :: l,t => by
  rw [List.flatMap_cons]
  by_cases h:t < k
  ·rw [List.getElem?_append_left (by rw [hk];exact h),Nat.div_eq_of_lt h,Nat.mod_eq_of_lt h];rfl
  ·rw [List.getElem?_append_right (by rw [hk];omega),hk,flatMap_getG enc k hk hp l (t - k)]
   have e1:t / k = (t - k) / k + 1:=by rw [Nat.div_eq_sub_div hp (by omega)]
   have e2:t % k = (t - k) % k:=Nat.mod_eq_sub_mod (by omega)
   rw [e1,e2,List.getElem?_cons_succ]
theorem flatK_listG {α:Type} [Inhabited α] (enc:α→List Value) (k:Nat) (hk:∀ x,(enc x).length = k) (hp:0 < k) (d:Array α):(Go.Sort.flatK enc k d).toList = d.toList.flatMap enc:=by
 have hl:∀ (l:List α),(l.flatMap enc).length = l.length * k:=by
  intro l
  induction l with
  | nil => simp
  | cons x l ih => rw [List.flatMap_cons,List.length_append,hk,ih,List.length_cons,Nat.succ_mul];omega
 refine List.ext_getElem? fun t => ?_
 by_cases h:t < d.size * k
 ·have hs:t < (Go.Sort.flatK enc k d).toList.length:=by simpa using h
  have hq:t / k < d.size:=Nat.div_lt_of_lt_mul (by rw [Nat.mul_comm];exact h)
  rw [flatMap_getG enc k hk hp,List.getElem?_eq_getElem hs]
  have e1:=Go.Sort.get_flatK enc k d t h
  rw [getElem!_pos (Go.Sort.flatK enc k d) t (by simpa using h),getElem!_pos d (t / k) hq] at e1
  have hm:t % k < (enc d[t / k]).length:=by rw [hk];exact Nat.mod_lt _ hp
  rw [getElem!_pos (enc d[t / k]) (t % k) hm] at e1
  rw [List.getElem?_eq_getElem (by simpa using hq),Option.bind_some]
  simp only [Array.getElem_toList]
  rw [List.getElem?_eq_getElem hm,e1]
 ·rw [List.getElem?_eq_none (by simpa using h),List.getElem?_eq_none (by rw [hl];simpa using h)]
section
variable {α:Type} [Inhabited α] (enc:α→List Value) (k:Nat) (w:World) (blk m:Nat) (dk:Array α) (os:Array Go.Obj)
theorem sg_block {b:Nat} (hne:b ≠ blk) (hb:b < w.heap.size):(sortWorldK enc k w blk 0 m dk os).heap[b]? = w.heap[b]?:=by
 show ((w.heap.modify blk _) ++ os)[b]? = _
 rw [Array.getElem?_append_left (by simpa using hb),Array.getElem?_modify,if_neg (fun e => hne e.symm)]
theorem sg_size:w.heap.size ≤ (sortWorldK enc k w blk 0 m dk os).heap.size:=by
 show _ ≤ ((w.heap.modify blk _) ++ os).size
 simp
theorem sg_row {n cap:Nat} {ds:List Value} (h:Row w (slv (some blk) n cap) k n ds (some blk)) (hs:dk.size = n) (hlt:blk < w.heap.size) :
  Row (sortWorldK enc k w blk 0 m dk os) (slv (some blk) n cap) k n (Go.Sort.flatK enc k dk).toList (some blk):=by
 obtain ⟨h0,h⟩:=h
 rcases h with ⟨_,_,h⟩|⟨g,cap',cur,e,hv,hg,hh,hc1,hc2,hc3,hc4⟩
 ·cases h
 ·cases hg
  refine ⟨by simp [hs],.inr ⟨blk,cap',Sort.putCells id 0 (Go.Sort.flatK enc k dk) cur,e,hv,rfl,?_,hc1,hc2,by simpa [Sort.putCells] using hc3,?_⟩⟩
  ·show ((w.heap.modify blk _) ++ os)[blk]? = _
   rw [Array.getElem?_append_left (by simpa using hlt),Array.getElem?_modify,if_pos rfl,hh]
   rfl
  ·have hle:n * k ≤ cap' * k:=Nat.mul_le_mul_right k hc1
   refine List.ext_getElem? fun t => ?_
   by_cases ht:t < n * k
   ·rw [List.getElem?_take_of_lt ht,List.getElem?_eq_getElem (by simp [Sort.putCells];omega),List.getElem?_eq_getElem (by simp [hs];omega)]
    simp only [Array.getElem_toList,Sort.putCells,Array.getElem_mapIdx,id]
    rw [if_pos ⟨Nat.zero_le _,by simp [hs];omega⟩,Nat.sub_zero,getElem!_pos _ t (by simp [hs];omega)]
   ·rw [List.getElem?_eq_none (by simp;omega),List.getElem?_eq_none (by simp [hs];omega)]
end
abbrev ElC {β:Type} (e:β→List D) (ok:β→Prop) (A:Nat→Prop) (w:World):Type:={ x:List Value × β // rdCs A w x.1 (e x.2)∧ok x.2 }
theorem elc_of {β:Type} {e:β→List D} {ok:β→Prop} {A:Nat→Prop} {w:World} {k:Nat}:∀ {zs:List β} {ds:List Value},rdR k A w ds (zs.map e)→(∀ z ∈ zs,ok z)→∃ xs:List (ElC e ok A w),ds = xs.flatMap (·.1.1)∧zs = xs.map (·.1.2)
 | [],ds,h,_ => ⟨[],by have:=h.len;simpa using this,rfl⟩
 | z :: zs,ds,h,hz => by
  obtain ⟨c,e',rfl,hy,hc,k1,k2⟩:=h.cons_inv
  obtain ⟨xs,e1,e2⟩:=elc_of k2 (fun z hz' => hz z (by simp [hz']))
  exact ⟨⟨(c,z),k1,hz z (by simp)⟩ :: xs,by rw [e1];rfl,congrArg (z :: ·) e2⟩
theorem elc_to {β:Type} {e:β→List D} {ok:β→Prop} {A:Nat→Prop} {w w':World} {k:Nat} (hkp:0 < k) (hk:∀ z,(e z).length = k) (hf:∀ b,A b→b < w.heap.size→w'.heap[b]? = w.heap[b]?):∀ (xs:List (ElC e ok A w)),rdR k A w' (xs.flatMap (·.1.1)) ((xs.map (·.1.2)).map e)
 | [] => rdR.nil hkp
 | x :: xs => by
  have h1:=x.2.1.frame hf
  have h2:=elc_to hkp hk hf xs
  rw [List.flatMap_cons]
  exact (rdR.single hkp (hk x.1.2) h1).append h2
section
variable {P:Program} {ρ:Ren} (L:SlLaysF0.n6 P ρ) {β κ:Type} (e:β→List D) {k:Nat} (hkp:0 < k) (hk:∀ z,(e z).length = k) (aE:∀ w,(isAgg (ρ.t 24)).run P w = .ok true w) (zE:∀ w,(Go.sizeOf (ρ.t 24)).run P w = .ok k w)
 {c:κ→κ→Int} (hc:Cmp c) (key:β→κ) (ok:β→Prop) (z0:β) (u0:List Value) (h0:∀ A w,rdCs A w u0 (e z0)) (hz0:ok z0) (g:Nat) (eg:∀ args w,(callFunc g args).run P w = .ok (.enter g args) w)
 (hcmp:∀ (W:World) (A:Nat→Prop) (x y:β) (us vs:List Value),(∀ b,A b→b < W.heap.size)→ok x→ok y→rdCs A W us (e x)→rdCs A W vs (e y) →
   Calls P g #[.agg us.toArray,.agg vs.toArray] W fun e w' => e = .returned (.int .i64 (c (key x) (key y)))∧∃ q os',w' = Sort.grow (W.drewN q) os')
include L hkp hk aE zE hc h0 hz0 eg hcmp
theorem a_SortG (call:∀ args w,(callFunc (ρ.f 6) args).run P w = .ok (.enter (ρ.f 6) args) w) (zs:List β) (hok:∀ z ∈ zs,ok z) (hn:zs.length ≤ 1000000000) :
  AEf P (ρ.f 6) false [] k (zs.map e) [[.raw (.func (.func g) #[] #[])]] (fun rs oc => rs = []∧∃ zs':List β,oc = some (zs'.map e)∧zs'.Perm zs∧zs'.Pairwise (fun a b => c (key a) (key b) ≤ 0)):=by
 refine ⟨call,fun A w vs us og cap ds hA hv hu hrow _ hel hog => ?_⟩
 have hv:vs = []:=hv
 subst hv
 obtain ⟨u,us',rfl,hu1,hu2⟩:=hu
 have hu2:us' = []:=hu2
 subst hu2
 have hu1:u = .func (.func g) #[] #[]:=(yU.1 hu1).1
 subst hu1
 have fin:∀ w' (zs':List β) ds',zs'.Perm zs→zs'.Pairwise (fun a b => c (key a) (key b) ≤ 0)→Row w' (slv og zs.length cap) k zs.length ds' og→rdR k A w' ds' (zs'.map e)→Bel ⟨w,fun b => og = some b⟩ w' →
   ∃ v rs oc,(Ending.returned (.tuple #[]):Ending) = .returned v∧(rs = []∧∃ zs':List β,oc = some (zs'.map e)∧zs'.Perm zs∧zs'.Pairwise (fun a b => c (key a) (key b) ≤ 0))∧Bel ⟨w,fun b => og = some b⟩ w' ∧
    kJ A (fun b => w.heap.size ≤ b ∨ (oc = none∧og = some b)) w' rs v∧Left A w' og cap k oc∧∀ ys,oc = some ys→ys.length = zs.length:=by
  intro w' zs' ds' hp hso hrow' hrd' hb
  have hl:(zs'.map e).length = (zs.map e).length:=by rw [List.length_map,List.length_map,hp.length_eq]
  refine ⟨.tuple #[],[],some (zs'.map e),rfl,⟨rfl,zs',rfl,hp,hso⟩,hb,⟨[],[],[],rfl,List.nodup_nil,by simp,rfl,rfl,rfl⟩,⟨ds',?_,hrd'⟩,fun ys e => by cases e;rw [hl,List.length_map]⟩
  rw [hl,List.length_map]
  exact hrow'
 rw [List.length_map] at hrow ⊢
 cases og with
 | none =>
  have hz:zs = []:=List.eq_nil_of_length_eq_zero hrow.len0
  subst hz
  refine (AnyF.slices_SortFunc_none L none 0 _ w).mono ?_
  rintro e' w' ⟨rfl,rfl⟩
  exact fin w' [] ds (List.Perm.refl _) List.Pairwise.nil hrow hel ⟨rfl,rfl,rfl,Nat.le_refl _,fun _ _ _ _ => rfl⟩
 | some blk =>
  haveI:Inhabited (ElC e ok A w):=⟨⟨(u0,z0),h0 A w,hz0⟩⟩
  obtain ⟨xs,e1,e2⟩:=elc_of hel hok
  have hlen:xs.toArray.size = zs.length:=by rw [e2];simp
  have hlt:=hrow.lt blk rfl
  have hek:∀ x:ElC e ok A w,x.1.1.length = k:=fun x => by rw [x.2.1.len,hk]
  have hH:Go.Sort.HoldsK (fun x:ElC e ok A w => x.1.1) k w blk 0 xs.toArray:=fun j hj => by
   rw [Nat.zero_add]
   refine ⟨?_,hrow.frozen j⟩
   have hf:=flatK_listG (fun x:ElC e ok A w => x.1.1) k hek hkp xs.toArray
   rw [List.toList_toArray] at hf
   rw [getElem!_pos _ j hj]
   refine hrow.cells j _ ?_
   rw [e1,← hf,List.getElem?_eq_getElem (by simpa using hj)]
   simp
  have hswo:Go.Sort.SWO (ltOf fun x y:ElC e ok A w => c (key x.1.2) (key y.1.2)) :=
   { irrefl:=fun x => decide_eq_false (by show ¬ c _ _ < 0;rw [hc.refl];omega)
     trans:=fun x y z h1 h2 => decide_eq_true (by
     have h1:c (key x.1.2) (key y.1.2) < 0:=of_decide_eq_true h1
     have h2:c (key y.1.2) (key z.1.2) < 0:=of_decide_eq_true h2
     have a1:=hc.anti (key x.1.2) (key y.1.2)
     have a2:=hc.anti (key y.1.2) (key z.1.2)
     have a3:=hc.anti (key z.1.2) (key x.1.2)
     have a4:=hc.anti (key x.1.2) (key z.1.2)
     have t1:=hc.trans (key x.1.2) (key y.1.2) (key z.1.2) (by omega) (by omega)
     rcases Int.lt_or_eq_of_le t1 with t|t
     ·exact t
     ·have e3:=hc.zero _ _ t
      rw [e3] at h1
      omega)
     ntrans:=fun x y z h1 h2 => decide_eq_false (by
     have h1:¬ c (key x.1.2) (key y.1.2) < 0:=of_decide_eq_false h1
     have h2:¬ c (key y.1.2) (key z.1.2) < 0:=of_decide_eq_false h2
     show ¬ c (key x.1.2) (key z.1.2) < 0
     intro h
     have a1:=hc.anti (key x.1.2) (key y.1.2)
     have a2:=hc.anti (key y.1.2) (key z.1.2)
     have:=hc.trans (key z.1.2) (key y.1.2) (key x.1.2) (by have:=hc.anti (key y.1.2) (key z.1.2);omega) (by have:=hc.anti (key x.1.2) (key y.1.2);omega)
     have a3:=hc.anti (key x.1.2) (key z.1.2)
     omega) }
  have hC:CmpLays P g #[] (fun x:ElC e ok A w => x.1.1) k (fun x y:ElC e ok A w => c (key x.1.2) (key y.1.2)) blk 0 xs.toArray.size w:=fun m os dk _ x y => by
   have hfr:∀ b,A b→b < w.heap.size→(sortWorldK (fun x:ElC e ok A w => x.1.1) k w blk 0 m dk os).heap[b]? = w.heap[b]?:=fun b hb hl => sg_block _ k w blk m dk os (fun e => hog b (by rw [e]) hb) hl
   exact hcmp _ A x.1.2 y.1.2 _ _ (fun b hb => Nat.lt_of_lt_of_le (hA b hb) (sg_size _ k w blk m dk os)) x.2.2 y.2.2 (x.2.1.frame hfr) (y.2.1.frame hfr)
  have hs:=AnyQ.slices_SortFunc L k aE zE (fun x:ElC e ok A w => x.1.1) hek (fun x v hv => x.2.1.one v hv) (fun x y:ElC e ok A w => c (key x.1.2) (key y.1.2)) hswo g #[] blk 0 cap xs.toArray w eg hC hH hlt (by rw [hlen];omega)
  rw [hlen] at hs
  have hm:=Calls.mono hs (R':=fun e' w' => ∃ v rs oc,e' = .returned v∧(rs = []∧∃ zs':List β,oc = some (zs'.map e)∧zs'.Perm zs∧zs'.Pairwise (fun a b => c (key a) (key b) ≤ 0))∧Bel ⟨w,fun b => some blk = some b⟩ w' ∧
    kJ A (fun b => w.heap.size ≤ b ∨ (oc = none∧some blk = some b)) w' rs v∧Left A w' (some blk) cap k oc∧∀ ys,oc = some ys→ys.length = zs.length) ?_
  ·exact hm
  rintro e' w' ⟨rfl,d',n,os,⟨hp1,_,hp3⟩,hsd,rfl⟩
  have hd:d'.size = zs.length:=by rw [hp1,hlen]
  refine fin _ (d'.toList.map (·.1.2)) _ ?_ ?_ (sg_row _ k w blk n d' os hrow hd hlt) ?_ ⟨rfl,rfl,rfl,sg_size _ k w blk n d' os,fun b hb hne _ => sg_block _ k w blk n d' os (fun e => hne (by rw [e])) hb⟩
  ·rw [e2]
   refine List.Perm.map _ ?_
   rw [← hlen] at hp3
   rw [show d'.extract 0 xs.toArray.size = d' by rw [← hp1];simp,show xs.toArray.extract 0 xs.toArray.size = xs.toArray by simp,List.toList_toArray] at hp3
   exact hp3
  ·rw [List.pairwise_iff_getElem]
   intro i j hi hj hij
   have hi':i < d'.size:=by simpa using hi
   have hj':j < d'.size:=by simpa using hj
   have h1:=hsd i j (Nat.zero_le _) hij (by omega)
   rw [getElem!_pos d' i hi',getElem!_pos d' j hj'] at h1
   have h1:¬ c (key d'[j].1.2) (key d'[i].1.2) < 0:=of_decide_eq_false h1
   have h2:=hc.anti (key d'[j].1.2) (key d'[i].1.2)
   simp only [List.getElem_map,Array.getElem_toList]
   omega
  ·rw [flatK_listG _ k hek hkp]
   exact elc_to hkp hk (fun b hb hl => sg_block _ k w blk n d' os (fun e => hog b (by rw [e]) hb) hl) d'.toList
end
end Go.Proofs.YtedgfkpfhonlpaaGreat
namespace Go.Proofs
open Go.Shelf
def Tryz.sortSp_ren:Go.Shelf.Ren:=⟨fun|6 => 122|15 => 160|14 => 182|28 => 212|29 => 213|20 => 221|21 => 222|22 => 223|23 => 224|24 => 225|25 => 226|26 => 227|27 => 228|46 => 261|47 => 251|48 => 252|49 => 262|50 => 263|57 => 276|n => n,fun|22 => 33|24 => 42|25 => 144|3 => 3|39 => 137|0 => 0|53 => 214|55 => 28|4 => 4|46 => 208|45 => 207|50 => 185|5 => 5|9 => 9|66 => 236|70 => 240|76 => 252|77 => 253|n => n,fun|n => n⟩
theorem Tryz.sortSp:Go.Proofs.SlLaysF0.n6 Tryz.prog Tryz.sortSp_ren:={
 mixed:=by kernel_rfl
 f6:=⟨Tryz.f122.name,by decide,Tryz.func122.trans (congrArg some (by kernel_rfl))⟩
 f14:=⟨Tryz.f182.name,by decide,Tryz.func182.trans (congrArg some (by kernel_rfl))⟩
 f15:=Tryz.func160.trans (congrArg some (by kernel_rfl))
 f20:=⟨Tryz.f221.name,by decide,Tryz.func221.trans (congrArg some (by kernel_rfl))⟩
 f21:=⟨Tryz.f222.name,by decide,Tryz.func222.trans (congrArg some (by kernel_rfl))⟩
 f22:=⟨Tryz.f223.name,by decide,Tryz.func223.trans (congrArg some (by kernel_rfl))⟩
 f23:=⟨Tryz.f224.name,by decide,Tryz.func224.trans (congrArg some (by kernel_rfl))⟩
 f24:=⟨Tryz.f225.name,by decide,Tryz.func225.trans (congrArg some (by kernel_rfl))⟩
 f25:=⟨Tryz.f226.name,by decide,Tryz.func226.trans (congrArg some (by kernel_rfl))⟩
 f26:=⟨Tryz.f227.name,by decide,Tryz.func227.trans (congrArg some (by kernel_rfl))⟩
 f27:=⟨Tryz.f228.name,by decide,Tryz.func228.trans (congrArg some (by kernel_rfl))⟩
 f28:=Tryz.func212.trans (congrArg some (by kernel_rfl))
 f29:=Tryz.func213.trans (congrArg some (by kernel_rfl))
 f46:=⟨Tryz.f261.name,by decide,Tryz.func261.trans (congrArg some (by kernel_rfl))⟩
 f47:=Tryz.func251.trans (congrArg some (by kernel_rfl))
 f48:=Tryz.func252.trans (congrArg some (by kernel_rfl))
 f49:=⟨Tryz.f262.name,by decide,Tryz.func262.trans (congrArg some (by kernel_rfl))⟩
 f50:=⟨Tryz.f263.name,by decide,Tryz.func263.trans (congrArg some (by kernel_rfl))⟩
 f57:=⟨Tryz.f276.name,by decide,Tryz.func276.trans (congrArg some (by kernel_rfl))⟩
 t0:=Tryz.underlying0
 a0:=Tryz.isAgg0
 z0:=Tryz.sizeOf0
 v0:=Tryz.zeroValue0
 t3:=Tryz.underlying3
 a3:=Tryz.isAgg3
 z3:=Tryz.sizeOf3
 v3:=Tryz.zeroValue3
 t4:=Tryz.underlying4
 a4:=Tryz.isAgg4
 z4:=Tryz.sizeOf4
 v4:=Tryz.zeroValue4
 t5:=Tryz.underlying5
 a5:=Tryz.isAgg5
 z5:=Tryz.sizeOf5
 v5:=Tryz.zeroValue5
 t9:=Tryz.underlying9
 a9:=Tryz.isAgg9
 z9:=Tryz.sizeOf9
 v9:=Tryz.zeroValue9
 t22:=Tryz.underlying33
 a22:=Tryz.isAgg33
 z22:=Tryz.sizeOf33
 v22:=Tryz.zeroValue33
 t25:=Tryz.underlying144
 a25:=Tryz.isAgg144
 z25:=Tryz.sizeOf144
 v25:=Tryz.zeroValue144
 t39:=Tryz.underlying137
 a39:=Tryz.isAgg137
 z39:=Tryz.sizeOf137
 v39:=Tryz.zeroValue137
 t45:=Tryz.underlying207
 a45:=Tryz.isAgg207
 z45:=Tryz.sizeOf207
 v45:=Tryz.zeroValue207
 t46:=Tryz.underlying208
 a46:=Tryz.isAgg208
 z46:=Tryz.sizeOf208
 v46:=Tryz.zeroValue208
 t50:=Tryz.underlying185
 a50:=Tryz.isAgg185
 z50:=Tryz.sizeOf185
 v50:=Tryz.zeroValue185
 t53:=Tryz.underlying214
 a53:=Tryz.isAgg214
 z53:=Tryz.sizeOf214
 v53:=Tryz.zeroValue214
 t55:=Tryz.underlying28
 a55:=Tryz.isAgg28
 z55:=Tryz.sizeOf28
 v55:=Tryz.zeroValue28
 t66:=Tryz.underlying236
 a66:=Tryz.isAgg236
 z66:=Tryz.sizeOf236
 v66:=Tryz.zeroValue236
 t70:=Tryz.underlying240
 a70:=Tryz.isAgg240
 z70:=Tryz.sizeOf240
 v70:=Tryz.zeroValue240
 t76:=Tryz.underlying252
 a76:=Tryz.isAgg252
 z76:=Tryz.sizeOf252
 v76:=Tryz.zeroValue252
 t77:=Tryz.underlying253
 a77:=Tryz.isAgg253
 z77:=Tryz.sizeOf253
 v77:=Tryz.zeroValue253 }
end Go.Proofs
namespace Go.Proofs.YtedgfkpfhonlpaaGreat
open Go.RowKit
section
variable {P:Program} {cfg:Cfg} {M:Nat→Prop} {ops:Array Oper} {s:St} {w0:W0} {w:World} {Ok:Nat→Prop} {N:Nat} {σ:Asg} {a:Act} {fs:List Fr} {Q:Exit→St→Prop}
theorem relCs_repl {H:List (Nat × Obj)} {x y:AC} {post:List AC}:∀ {pre:List AC} {us:List Value},relCs σ H w (pre ++ x :: post) us→(∀ v,us[pre.length]? = some v→relAC σ H w x v→relAC σ H w y v)→relCs σ H w (pre ++ y :: post) us
 | [],us,h,hy => by
  obtain ⟨v,us',rfl,h1,h2,h3⟩:=h
  exact ⟨v,us',rfl,h1,hy v rfl h2,h3⟩
 | p :: pre,us,h,hy => by
  obtain ⟨v,us',rfl,h1,h2,h3⟩:=h
  exact ⟨v,us',rfl,h1,h2,relCs_repl h3 (fun u hu hx => hy u (by simpa using hu) hx)⟩
theorem relCs_at {H:List (Nat × Obj)} {x:AC} {post:List AC}:∀ {pre:List AC} {us:List Value},relCs σ H w (pre ++ x :: post) us→∀ v,us[pre.length]? = some v→relAC σ H w x v
 | [],us,h,v,hv => by
  obtain ⟨u,us',rfl,h1,h2,h3⟩:=h
  have:u = v:=by simpa using hv
  subst this;exact h2
 | p :: pre,us,h,v,hv => by
  obtain ⟨u,us',rfl,h1,h2,h3⟩:=h
  exact relCs_at h3 v (by simpa using hv)
theorem Sim.markA (h:Sim w0 Ok N σ s a w) {r key k n:Nat} {xs:List (List D)} {pre post:List AC} (hr:look r s.regs = some (.agg (pre ++ .own key n :: post))) (hk:look key s.heap = some (.row k xs true)) :
  Sim w0 Ok N σ ⟨insR r (.agg (pre ++ .val (.tag (fp σ key (.row k xs true)) (.sl k xs)) :: post)) s.regs,drop key s.heap⟩ a w:=by
 have hro:=h.rows key _ hk
 obtain ⟨ds,hrow,hkp,hel⟩:=hro.row
 have hel:ownR k w ds xs (σ.F key):=hel
 have hrow:Row w (slv (σ.g key) xs.length (σ.cap key)) k xs.length ds (σ.g key):=hrow
 have hs:∀ q o,look q (drop key s.heap) = some o→q ≠ key∧look q s.heap = some o:=fun q o hq => by
  rw [yX] at hq
  by_cases e:q = key
  ·rw [if_pos e] at hq;cases hq
  ·rw [if_neg e] at hq;exact ⟨e,hq⟩
 have h1:=h.forget (regs':=s.regs) (H':=drop key s.heap) (fun _ _ h => h) (fun q o hq => (hs q o hq).2)
 refine ⟨h1.below,h1.ok1,h1.ok2,h1.defers,h1.size,fun q av hq => ?_,h1.rows,h1.disj,h1.inv,h1.hid⟩
 rw [jV] at hq
 by_cases e:r = q
 ·rw [if_pos e] at hq
  subst e
  cases hq
  obtain ⟨us,hv1,hv2⟩:=h.regs r _ hr
  obtain ⟨us',hv1',hv2'⟩:=h1.regs r _ hr
  have eu:us' = us:=by rw [hv1] at hv1';simpa using hv1'.symm
  subst eu
  refine ⟨us',hv1,relCs_repl hv2' (fun v hv _ => ?_)⟩
  obtain ⟨e1,e2⟩:=relCs_at hv2 v hv _ hk
  have e1:n = xs.length:=e1
  show rdV _ w v (.tag _ (.sl k xs))
  rw [e2,e1]
  refine xM.2 ⟨fun b hb => ⟨?_,?_,fun q o hq e => ?_⟩,kV.2 ⟨σ.g key,ds,σ.F key,hrow,hel,rfl⟩⟩
  ·rcases List.mem_append.1 hb with hb|hb
   ·exact hrow.lt b (by simpa using hb)
   ·exact hel.lt b hb
  ·exact h.ok1 b (hro.fresh b hb)
  ·obtain ⟨hne,hq⟩:=hs q o hq
   exact h.disj key _ q o hk hq (fun e => hne e.symm) b hb (qE e)
 ·rw [if_neg e] at hq
  exact h1.regs q av hq
theorem qW.markA2 {l:List Oper} {Q:St→Prop} {r key1 key2 k1 k2 n1 n2:Nat} {xs ys:List (List D)} {z:List AC} (hr:look r s.regs = some (.agg (.own key1 n1 :: .own key2 n2 :: z))) (hk1:look key1 s.heap = some (.row k1 xs true))
  (hk2:look key2 s.heap = some (.row k2 ys true)) (hk:key1 ≠ key2)
  (h:∀ F G,(F ++ G).Nodup→(∀ b ∈ F ++ G,M b)→qW P cfg M ops l Q ⟨insR r (.agg (.val (.tag F (.sl k1 xs)) :: .val (.tag G (.sl k2 ys)) :: z)) (insR r (.agg (.val (.tag F (.sl k1 xs)) :: .own key2 n2 :: z)) s.regs),drop key2 (drop key1 s.heap)⟩):qW P cfg M ops l Q s:=by
 intro w0 Ok σ a w Q' hM hS hQ
 have h1:=hS.markA (r:=r) (pre:=[]) hr hk1
 have hk2':look key2 (drop key1 s.heap) = some (.row k2 ys true):=by rw [yX,if_neg (fun e => hk e.symm)];exact hk2
 have h2:=h1.markA (r:=r) (key:=key2) (n:=n2) (k:=k2) (xs:=ys) (pre:=[.val (.tag (fp σ key1 (.row k1 xs true)) (.sl k1 xs))]) (post:=z) (by rw [jV,if_pos rfl];rfl) hk2'
 have f1:=hS.rows key1 _ hk1
 have f2:=hS.rows key2 _ hk2
 refine h (fp σ key1 (.row k1 xs true)) (fp σ key2 (.row k2 ys true)) ?_ (fun b hb => ?_) w0 Ok σ a w Q' hM h2 hQ
 ·refine List.nodup_append.2 ⟨f1.nodup,f2.nodup,fun b hb c hc e => ?_⟩
  subst e
  exact hS.disj key1 _ key2 _ hk1 hk2 hk b hb hc
 ·rcases List.mem_append.1 hb with hb|hb
  ·exact hM.1 ▸ f1.fresh b hb
  ·exact hM.1 ▸ f2.fresh b hb
end
abbrev SpT:=(Spl × Int) × (List Nat × List Nat)
def eSpT (q:SpT):List D:=[.tag q.2.1 (.sl 1 (q.1.1.1.map eL)),.tag q.2.2 (.sl 1 (q.1.1.2.map eL)),.int q.1.2]
def SpT.bl (q:SpT):List Nat:=q.2.1 ++ q.2.2
theorem tag_mkS:∀ (zs:List SpT),TagL ((zs.map (·.1)).map eSp) (zs.map eSpT) ((zs.map SpT.bl).flatten)
 | [] => ⟨rfl,rfl⟩
 | z :: zs => ⟨_,_,SpT.bl z,_,rfl,rfl,⟨_,_,z.2.1,z.2.2,rfl,rfl,.inl rfl,⟨_,_,z.2.2,[],rfl,(List.append_nil _).symm,.inl rfl,⟨_,[],[],[],rfl,rfl,.inr ⟨rfl,rfl,rfl⟩,rfl,rfl⟩⟩⟩,tag_mkS zs⟩
theorem c_gathered1 (W:World) (n m:Int) (u1 u2 v1 v2:Value) (f g h k:List (List Int)) (h1:Rd (RS (RS RI)) W [u1] f) (h2:Rd (RS (RS RI)) W [u2] g) (h3:Rd (RS (RS RI)) W [v1] h) (h4:Rd (RS (RS RI)) W [v2] k) (s1:qQ f ≤ 1000000) (s2:qQ h ≤ 1000000) :
  Calls Tryz.prog 120 #[.agg #[u1,u2,.int .i64 n],.agg #[v1,v2,.int .i64 m]] W fun e w' => e = .returned (.int .i64 (cmpS (f,g) (h,k)))∧∃ q os',w' = Sort.grow (W.drewN q) os':=by
 obtain ⟨o1,c1,rfl,_,_⟩:=h1.val
 obtain ⟨o2,c2,rfl,_,_⟩:=h2.val
 obtain ⟨o3,c3,rfl,_,_⟩:=h3.val
 obtain ⟨o4,c4,rfl,_,_⟩:=h4.val
 have b1:Below W.heap.size W (W.alloc (.cells #[.slice o1 f.length c1,.slice o2 g.length c2,.int .i64 n] 42)):=(Below.refl _ _).alloc (Nat.le_refl _) _
 have b2:Below W.heap.size W ((W.alloc (.cells #[.slice o1 f.length c1,.slice o2 g.length c2,.int .i64 n] 42)).alloc (.cells #[.slice o3 h.length c3,.slice o4 k.length c4,.int .i64 m] 42)):=b1.alloc (by simp) _
 have hc:=jV0 _ _ f h _ (h1.below b2 (Nat.le_refl _)) (h3.below b2 (Nat.le_refl _)) (by omega) (by omega)
 have hd:=jF0 _ _ g k _ (h2.below b2 (Nat.le_refl _)) (h4.below b2 (Nat.le_refl _))
 have HC:=Lib.hid hc
 have HD:=Lib.hid hd
 have hcs:cmpS (f,g) (h,k) = if cmpF f h = 0 then cmpN g k else cmpF f h:=rfl
 by_cases hz:cmpF f h = 0
 ·have hb:(cmpF f h != 0) = false:=by simp [hz]
  rw [if_pos hz] at hcs
  have HS:=Lib.hid hcs
  clear hc hd b1 b2 h1 h2 h3 h4 hcs
  go_enter Tryz.func120,Tryz.ntmps120
  go_wp2_with (first|(go_at_call 87;refine HC.out.mono ?_;rintro e w' ⟨rfl,rfl⟩)|(go_at_call 121;refine HD.out.mono ?_;rintro e w' ⟨rfl,rfl⟩))
  go_ret
  exact ⟨by rw [HS.out] <;> rfl,0,_,by rw [Sort.alloc_eq_grow,Sort.alloc_eq_grow,Sort.grow_grow];rfl⟩
 ·have hb:(cmpF f h != 0) = true:=bne_iff_ne.2 hz
  rw [if_neg hz] at hcs
  have HS:=Lib.hid hcs
  clear hc hd b1 b2 h1 h2 h3 h4 hcs
  go_enter Tryz.func120,Tryz.ntmps120
  go_wp2_with (first|(go_at_call 87;refine HC.out.mono ?_;rintro e w' ⟨rfl,rfl⟩)|(go_at_call 121;refine HD.out.mono ?_;rintro e w' ⟨rfl,rfl⟩))
  go_ret
  exact ⟨by rw [HS.out] <;> rfl,0,_,by rw [Sort.alloc_eq_grow,Sort.alloc_eq_grow,Sort.grow_grow];rfl⟩
theorem a_compareTrunks (f g:List (List Int)) (hf:SmF f) (hg:SmF g):AFn Tryz.prog 121 [eLL f,eLL g] (· = [.val (.int (cmpN f g))]):=by
 refine ⟨enters_of Tryz.func121 rfl rfl,fun A w vs hA ⟨v1,_,e1,h1,v2,_,e2,h2,e3⟩ => ?_⟩
 subst e3;subst e2;subst e1
 have r1:=Rd.of (rdLL h1)
 have r2:=Rd.of (rdLL h2)
 obtain ⟨oa,c1,k1,m1,m2⟩:=r1.val
 obtain ⟨ob,c2,k2,m3,m4⟩:=r2.val
 refine (jF0 v1 v2 f g w r1 r2).mono ?_
 rintro e w' ⟨rfl,rfl⟩
 have hle:∀ {f:List (List Int)},SmF f→∀ t ∈ f,t.length ≤ maxLen:=fun h t ht => Nat.le_trans (jF ht) (Nat.le_trans h.2 (by decide))
 have hin:qC (cmpN f g):=by
  rw [cmpN_eq]
  have h3:=cmpF_in64 (f:=f) (g:=g) (by have:=hf.2;omega) (by have:=hg.2;omega) (by omega) (by omega) (hle hf) (hle hg)
  have hf1:=hf.1
  have hg1:=hg.1
  split
  ·rename_i e
   by_cases hs:(qQ f:Int) = qQ g
   ·rw [cmpF_N,if_pos hs,cmpN_eq,if_pos e] at h3;exact h3
   ·exact lexC_in64 f g (hle hf) (hle hg)
  ·unfold qC;omega
 exact ⟨_,_,rfl,rfl,Below.refl _ _,[_],[],[],rfl,List.nodup_nil,by simp,_,[],[],[],[],[],rfl,rfl,rfl,rfl,⟨jW.2 ⟨rfl,hin⟩,rfl,rfl⟩,rfl,rfl,rfl⟩
end Go.Proofs.YtedgfkpfhonlpaaGreat
namespace Go.Proofs.YtedgfkpfhonlpaaGreat
open Go.RowKit
def stepQ (out:List SpT) (q:SpT):List SpT:=match out.getLast? with
 | some p => if cmpS p.1.1 q.1.1 = 0 then out.dropLast ++ [((p.1.1,p.1.2 + 1),p.2)] else out ++ [q]
 | none => [q]
def runQ (zs:List SpT):List SpT:=zs.foldl stepQ []
theorem stepQ_nil (q:SpT):stepQ [] q = [q]:=rfl
theorem stepQ_eq (out:List SpT) (p q:SpT) (h:cmpS p.1.1 q.1.1 = 0):stepQ (out ++ [p]) q = out ++ [((p.1.1,p.1.2 + 1),p.2)]:=by simp [stepQ,h]
theorem stepQ_ne (out:List SpT) (p q:SpT) (h:¬ cmpS p.1.1 q.1.1 = 0):stepQ (out ++ [p]) q = out ++ [p] ++ [q]:=by simp [stepQ,h]
theorem runQ_snoc (zs:List SpT) (q:SpT):runQ (zs ++ [q]) = stepQ (runQ zs) q:=by unfold runQ;rw [List.foldl_append];rfl
theorem runQ_spec:∀ (n:Nat) (zs:List SpT),zs.length = n→(∀ q ∈ zs,q.1.2 = 1)→(runQ zs).map (·.1) = runsN cmpS (zs.map (·.1.1))∧((runQ zs).map SpT.bl).Sublist (zs.map SpT.bl)∧(runQ zs).length ≤ zs.length∧∀ q ∈ runQ zs,(1 ≤ q.1.2∧q.1.2 ≤ (n:Int))∧∃ p ∈ zs,p.1.1 = q.1.1
 | 0,zs,hn,_ => by
  obtain rfl:=List.eq_nil_of_length_eq_zero hn
  exact ⟨rfl,List.Sublist.refl _,Nat.le_refl _,fun q hq => nomatch hq⟩
 | n + 1,zs,hn,h1 => by
  obtain ⟨zs,q,rfl⟩:=snocN (l:=zs) (by rintro rfl;cases hn)
  have hn':zs.length = n:=by simpa using hn
  obtain ⟨i1,i2,i3,i4⟩:=runQ_spec n zs hn' (fun q hq => h1 q (by simp [hq]))
  have hq1:q.1.2 = 1:=h1 q (by simp)
  rw [runQ_snoc,List.map_append,List.map_cons,List.map_nil,runsN_snoc,← i1,List.map_append,List.map_cons,List.map_nil]
  by_cases h0:runQ zs = []
  ·rw [h0]
   refine ⟨?_,?_,by simp [stepQ],fun z hz => ?_⟩
   ·show [q.1] = [(q.1.1,1)]
    rw [← hq1]
   ·exact List.sublist_append_right _ _
   ·have hz:z = q:=by simpa [stepQ] using hz
    subst hz
    exact ⟨by omega,z,by simp,rfl⟩
  ·obtain ⟨out,p,e⟩:=snocN h0
   rw [e] at i2 i3 i4 ⊢
   have hp:=i4 p (by simp)
   by_cases hc:cmpS p.1.1 q.1.1 = 0
   ·rw [stepQ_eq _ _ _ hc,List.map_append,List.map_append,List.map_cons,List.map_nil,List.map_cons,List.map_nil,stepN_eq _ _ _ hc]
    refine ⟨rfl,?_,by simp at i3 ⊢;omega,fun z hz => ?_⟩
    ·have e2:(out ++ [p]).map SpT.bl = out.map SpT.bl ++ [SpT.bl ((p.1.1,p.1.2 + 1),p.2)]:=by rw [List.map_append];rfl
     rw [List.map_append,List.map_cons,List.map_nil,← e2]
     exact i2.trans (List.sublist_append_left _ _)
    ·rcases List.mem_append.1 hz with hz|hz
     ·obtain ⟨a,b,hb,hb2⟩:=i4 z (by simp [hz])
      exact ⟨by omega,b,by simp [hb],hb2⟩
     ·obtain rfl:=List.mem_singleton.1 hz
      obtain ⟨a,b,hb,hb2⟩:=hp
      exact ⟨by simp only;omega,b,by simp [hb],hb2⟩
   ·rw [stepQ_ne _ _ _ hc]
    refine ⟨?_,?_,by simp at i3 ⊢;omega,fun z hz => ?_⟩
    ·simp only [List.map_append,List.map_cons,List.map_nil]
     rw [stepN_ne _ _ _ hc]
     congr 1
     show [q.1] = [(q.1.1,1)]
     rw [← hq1]
    ·rw [List.map_append]
     exact List.Sublist.append i2 (List.Sublist.refl _)
    ·rcases List.mem_append.1 hz with hz|hz
     ·obtain ⟨a,b,hb,hb2⟩:=i4 z hz
      exact ⟨by omega,b,by simp [hb],hb2⟩
     ·obtain rfl:=List.mem_singleton.1 hz
      exact ⟨by omega,z,by simp,rfl⟩
noncomputable def TGa1:Tab Tryz.prog :=
 (Tab.none.add 87 (tab2 codLL codLL fun f g => if SmF f∧SmF g then some [.val (.int (cmpF f g))] else none) (yS fun f g rs h => by split at h;cases h;rename_i hs;exact yQ0 f g (by have:=hs.1.2;omega) (by have:=hs.2.2;omega);cases h)).add
  121 (tab2 codLL codLL fun f g => if SmF f∧SmF g then some [.val (.int (cmpN f g))] else none) (yS fun f g rs h => by split at h;cases h;rename_i hs;exact a_compareTrunks f g hs.1 hs.2;cases h)
theorem a_gathered1 (z y:Spl × Int) (hz:SmS z.1) (hy:SmS y.1):AFn Tryz.prog 120 [eSp z,eSp y] (· = [.val (.int (cmpS z.1 y.1))]):=by
 obtain ⟨⟨f,g⟩,n⟩:=z
 obtain ⟨⟨f',g'⟩,n'⟩:=y
 have e1:=eq_true (And.intro hz.1 hy.1)
 have e2:=eq_true (And.intro hz.2 hy.2)
 simp only at e1 e2
 have hcs:cmpS (f,g) (f',g') = if cmpF f f' = 0 then cmpN g g' else cmpF f f':=rfl
 simp only
 rw [hcs]
 refine AFn.of_runs (qX 19) Tryz.func120 rfl rfl rfl gz ?_
 have hres:Tryz.f120.results.toList = [.tmp 4]:=rfl
 have hrts:Tryz.f120.resultTypes.toList = [3]:=rfl
 simp only [qK,qD,eL,eI,eLL,eB,Nat.zero_add,Nat.reduceAdd,eSp]
 intro M
 refine qJ.of ?_
 by_cases h0:cmpF f f' = 0
 ·have hb:(cmpF f f' != 0) = false:=by simp [h0]
  rw [if_pos h0]
  refine gw88 (Y3 e1 e2 hb) ?_
  exact gw8
 ·have hb:(cmpF f f' != 0) = true:=bne_iff_ne.2 h0
  rw [if_neg h0]
  refine gw88 (Y3 e1 e2 hb) ?_
  exact gw8
theorem aggSp (w:World):(isAgg 42).run Tryz.prog w = .ok true w:=by
 simp [isAgg,run_underlying Tryz.underlying42]
theorem tSplit:ST Tryz.prog 33 42 (.agg #[.slice none 0 0,.slice none 0 0,.int .i64 0]) 3 56:=ST.mk' (by kernel_rfl) (by kernel_rfl) rfl (by decide)
theorem sizeSp (w:World):(Go.sizeOf 42).run Tryz.prog w = .ok 3 w:=by
 obtain ⟨_,⟨i,hi,_,hs,_⟩,_,_⟩:=tSplit
 simp [Go.sizeOf,typeInfo,hi,hs]
theorem rd_eSpT {A:Nat→Prop} {W:World} {us:List Value} {x:SpT} (hA:∀ b,A b→b < W.heap.size) (h:rdCs A W us (eSpT x)):∃ u1 u2,us = [u1,u2,.int .i64 x.1.2]∧Rd (RS (RS RI)) W [u1] x.1.1.1∧Rd (RS (RS RI)) W [u2] x.1.1.2:=by
 have hl:=h.len
 match us,hl with
 | [u1,u2,u3],_ =>
  obtain ⟨v1,e1,h1⟩:=h.get 0 (by show 0 < 3;decide)
  obtain ⟨v2,e2,h2⟩:=h.get 1 (by show 1 < 3;decide)
  obtain ⟨v3,e3,h3⟩:=h.get 2 (by show 2 < 3;decide)
  obtain rfl:u1 = v1:=by simpa using e1
  obtain rfl:u2 = v2:=by simpa using e2
  obtain rfl:u3 = v3:=by simpa using e3
  have h1:rdV A W u1 (.tag x.2.1 (.sl 1 (x.1.1.1.map eL))):=h1
  have h2:rdV A W u2 (.tag x.2.2 (.sl 1 (x.1.1.2.map eL))):=h2
  have h3:rdV A W u3 (.int x.1.2):=h3
  have r1:=rdLL (xs:=x.1.1.1) h1.un
  have r2:=rdLL (xs:=x.1.1.2) h2.un
  refine ⟨u1,u2,?_,Rd.of r1,Rd.of r2⟩
  rw [(jW.1 h3).1]
theorem a_sortSp (zs:List SpT) (hok:∀ z ∈ zs,SmS z.1.1) (hn:zs.length ≤ 1000000000) :
  AEf Tryz.prog 122 false [] 3 (zs.map eSpT) [[.raw (.func (.func 120) #[] #[])]] (fun rs oc => rs = []∧∃ zs':List SpT,oc = some (zs'.map eSpT)∧zs'.Perm zs∧zs'.Pairwise (fun a b => cmpS a.1.1 b.1.1 ≤ 0)):=by
 refine a_SortG Tryz.sortSp (k:=3) eSpT (by decide) (fun _ => rfl) aggSp sizeSp xB (·.1.1) (fun z => SmS z.1.1) ((([],[]),0),([],[])) [.slice none 0 0,.slice none 0 0,.int .i64 0] (fun A w => ?_) (by decide) 120 (enters_of Tryz.func120 rfl rfl)
  (fun W A x y us vs hA hx hy hu hv => ?_) (enters_of Tryz.func122 rfl rfl) zs hok hn
 ·have hnil:rdV A w (.slice none 0 0) (.tag [] (.sl 1 [])):=xM.2 ⟨by simp,kV.2 ⟨none,[],[],Row.nil _ 1,ownR.nil (by decide),rfl⟩⟩
  exact rdCs.cons hnil (rdCs.cons hnil (rdCs.cons (jW.2 ⟨rfl,by show qC 0;unfold qC;omega⟩) rdCs.nil))
 ·obtain ⟨u1,u2,rfl,r1,r2⟩:=rd_eSpT hA hu
  obtain ⟨v1,v2,rfl,r3,r4⟩:=rd_eSpT hA hv
  exact c_gathered1 W _ _ _ _ _ _ _ _ _ _ r1 r2 r3 r4 (Nat.le_trans hx.1.2 (by decide)) (Nat.le_trans hy.1.2 (by decide))
end Go.Proofs.YtedgfkpfhonlpaaGreat
namespace Go.Proofs.YtedgfkpfhonlpaaGreat
open Go.RowKit
theorem sub_flatN {α:Type} {l1 l2:List (List α)} (h:l1.Sublist l2):l1.flatten.Sublist l2.flatten:=by
 induction h with
 | slnil => exact .slnil
 | cons a _ ih => rw [List.flatten_cons];exact ih.trans (List.sublist_append_right _ _)
 | cons_cons a _ ih => rw [List.flatten_cons,List.flatten_cons];exact List.Sublist.append (List.Sublist.refl _) ih
def eS0 (s:Spl):List D:=[.sl 1 (s.1.map eL),.sl 1 (s.2.map eL),.int 0]
noncomputable def TGa2:Tab Tryz.prog :=
 (Tab.none.add 102 (tab1 codLL fun f => if SmF f then some [.own 1 ((forest f).map eL) true] else none) (xY fun f rs h => by split at h;cases h;rename_i hs;exact a_forestOf f hs.1 (by have:=hs.2;omega);cases h)).add
  120 (tab2 codSp codSp fun z y => if SmS z.1∧SmS y.1 then some [.val (.int (cmpS z.1 y.1))] else none) (yS fun z y rs h => by split at h;cases h;rename_i hs;exact a_gathered1 z y hs.1 hs.2;cases h)
structure Ga1 (M:Nat→Prop) (L:List Spl) (i:Nat) (qs:List SpT):Prop where
 le:i ≤ L.length
 eq:qs.map (·.1) = (L.take i).map fun s => (nrmS s,1)
 nd:((qs.map SpT.bl).flatten).Nodup
 mi:∀ b ∈ (qs.map SpT.bl).flatten,M b
theorem Ga1.len {M:Nat→Prop} {L:List Spl} {i:Nat} {qs:List SpT} (h:Ga1 M L i qs):qs.length = i:=by
 have:=congrArg List.length h.eq
 rw [List.length_map,List.length_map,List.length_take] at this
 have:=h.le
 omega
theorem marks_eSpT:∀ (qs:List SpT),vJ (qs.map eSpT) = (qs.map SpT.bl).flatten
 | [] => rfl
 | q :: qs => by
  have ih:=marks_eSpT qs
  unfold vJ at ih ⊢
  rw [List.map_cons,List.flatMap_cons,ih,List.map_cons,List.flatten_cons]
  congr 1
  simp [eSpT,D.marks,SpT.bl]
theorem rowMarks_left {xs ys:List (List D)} {b:Nat} (h:b ∈ vJ xs):b ∈ vJ (xs ++ ys):=by
 unfold vJ at h ⊢
 rw [List.flatMap_append];exact List.mem_append_left _ h
theorem a_gathered (L:List Spl) (hl:L.length ≤ 100000) (hL:∀ s ∈ L,SmS s):AOw Tryz.prog 60 [] 3 (L.map eS0) [] (· = [.own 3 ((gathS L).map eSp) true]):=by
 refine AOw.of_runs (qX 68) Tryz.func60 rfl rfl rfl gz ?_
 have hres:Tryz.f60.results.toList = [.tmp 2]:=rfl
 have hrts:Tryz.f60.resultTypes.toList = [33]:=rfl
 simp only [List.length_cons,List.length_nil,List.nil_append,List.cons_append,qK,qD,eL,eI,eLL,eB,Nat.zero_add,Nat.reduceAdd]
 intro M
 refine qJ.of ?_
 refine gw89 ?_
 refine qJ.loop (β:=Nat × List SpT) (γ:=List SpT) (fun x => ⟨[(0,.c (.own 0 L.length)),(10,.c (.own 0 L.length)),(11,.c (.val (.int L.length))),(12,.c (.val (.int x.1)))],[(0,.row 3 (x.2.map eSpT ++ (L.drop x.1).map eS0) false)]⟩) (fun x => Ga1 M L x.1 x.2) (fun x => L.length - x.1)
  (fun qs => ⟨[(0,.c (.own 0 L.length))],[(0,.row 3 (qs.map eSpT) false)]⟩) (fun qs => Ga1 M L L.length qs) (0,[]) ⟨Nat.zero_le _,rfl,List.nodup_nil,fun b hb => nomatch hb⟩ ?_ ?_ ?_
 ·exact gw90
 ·rintro ⟨i,qs⟩ hI
  have hil:=hI.le
  have hqn:=hI.len
  simp only at hil hqn ⊢
  have hw:=qL (n:=i) (by omega)
  have hrl:(qs.map eSpT ++ (L.drop i).map eS0).length = L.length:=by rw [List.length_append,List.length_map,List.length_map,List.length_drop];omega
  by_cases h:i < L.length
  ·have i1:((i:Int) < (L.length:Int)) = True:=eq_true (by omega)
   have i2:((0:Int) ≤ (i:Int)) = True:=eq_true (by omega)
   refine qJ.fresh rfl ?_
   intro M' hM' hold
   have hold:=hold 0 3 (qs.map eSpT ++ (L.drop i).map eS0) rfl
   obtain ⟨s,hs⟩:∃ s,s = L[i]:=⟨_,rfl⟩
   have hsm:=hL L[i] (List.getElem_mem _)
   have hdr:L.drop i = s :: L.drop (i + 1):=by rw [hs];exact List.drop_eq_getElem_cons h
   rw [← hs] at hsm
   have hg:(qs.map eSpT ++ (L.drop i).map eS0)[i]? = some [.sl 1 (s.1.map eL),.sl 1 (s.2.map eL),.int 0]:=by
    rw [List.getElem?_append_right (by rw [List.length_map];omega),List.length_map,hqn,Nat.sub_self,hdr];rfl
   have e1:=eq_true hsm.1
   have e2:=eq_true hsm.2
   refine gw91 (Y4 i1 i2 hg hrl) ?_
   ((with_reducible refine qJ.wFz (qX 68) TGa2 qU [] (tr:=?_) (s1:=?_) (rest:=?_) ?_ ?_ ?_);rotate_left 3;(focus ((with_reducible refine QW ?_);simp only [Zg,Zd,Zi,seval,reduceCtorEq,Nat.reduceEqDiff,drunF,devalF,devalB,valD,wY,List.contains_cons,List.contains_nil,TGa2,TGa2,i1,i2,hg,hrl,e1,e2,Int.toNat_natCast];with_reducible rfl));focus ((with_reducible refine QK ?_);simp only [Zk];kernel_rfl))
   refine qW.markA2 (r:=25) (key1:=21) (key2:=24) (z:=[.val (.int 1)]) rfl rfl rfl (by decide) ?_
   intro F G hnd hFG
   refine qW.opsT (qX 68) (T:=Tab.none) (s':=?_) ?_ ?_
   rotate_left 1
   focus (simp only [Zg,Zi,seval,reduceCtorEq,Nat.reduceEqDiff,hg,hrl];with_reducible rfl)
   refine gw92 hw ?_
   have hset:(qs.map eSpT ++ (L.drop i).map eS0).set i [.tag F (.sl 1 ((forest s.1).map eL)),.tag G (.sl 1 ((forest s.2).map eL)),.int 1] = (qs ++ [((nrmS s,1),(F,G))]).map eSpT ++ (L.drop (i + 1)).map eS0:=by
    rw [List.set_append_right _ _ (by rw [List.length_map];omega),List.length_map,hqn,Nat.sub_self,hdr,List.map_cons,List.set_cons_zero,List.map_append,List.append_assoc]
    rfl
   refine qV.on (i + 1,qs ++ [((nrmS s,1),(F,G))]) ⟨⟨h,?_,?_,?_⟩,by show L.length - (i + 1) < L.length - i;omega⟩ ?_
   ·show List.map (fun q:SpT => q.1) (qs ++ [((nrmS s,1),(F,G))]) = (L.take (i + 1)).map fun s => (nrmS s,1)
    have:=hI.eq
    simp only at this
    rw [List.map_append,this,List.take_succ_eq_append_getElem h,List.map_append,← hs];rfl
   ·show (((qs ++ [((nrmS s,1),(F,G))]).map SpT.bl).flatten).Nodup
    rw [List.map_append,List.flatten_append]
    refine List.nodup_append.2 ⟨hI.nd,by simpa [SpT.bl] using hnd,fun b hb c hc e => ?_⟩
    subst e
    refine hold b (rowMarks_left ?_) (hFG b (by simpa [SpT.bl] using hc))
    rw [marks_eSpT];exact hb
   ·intro b hb
    have hb:b ∈ ((qs ++ [((nrmS s,1),(F,G))]).map SpT.bl).flatten:=hb
    rw [List.map_append,List.flatten_append] at hb
    rcases List.mem_append.1 hb with hb|hb
    ·exact hI.mi b hb
    ·exact hM' b (hFG b (by simpa [SpT.bl] using hb))
   ·rw [← hset]
    exact gw6 Y0
  ·have i1:((i:Int) < (L.length:Int)) = False:=eq_false (by omega)
   obtain rfl:i = L.length:=by omega
   have hd0:L.drop L.length = []:=List.drop_length
   refine gw92 i1 ?_
   refine qV.out qs hI ?_
   rw [hd0,List.map_nil,List.append_nil]
   exact gw6 Y0
 ·intro qs hJ
  have hqn:=hJ.len
  have hq1:∀ q ∈ qs,q.1.2 = 1∧SmS q.1.1:=fun q hq => by
   have hm:q.1 ∈ qs.map (·.1):=List.mem_map.2 ⟨q,hq,rfl⟩
   rw [hJ.eq,List.take_length,List.mem_map] at hm
   obtain ⟨s,hs,e⟩:=hm
   rw [← e]
   have:=hL s hs
   refine ⟨rfl,⟨?_,?_⟩,?_,?_⟩
   ·show (sortC cmpT s.1).length ≤ 19
    rw [kO];exact this.1.1
   ·show qQ (sortC cmpT s.1) ≤ 100
    rw [kL (jP _)];exact this.1.2
   ·show (sortC cmpT s.2).length ≤ 19
    rw [kO];exact this.2.1
   ·show qQ (sortC cmpT s.2) ≤ 100
    rw [kL (jP _)];exact this.2.2
  have hso:=a_sortSp qs (fun q hq => (hq1 q hq).2) (by omega)
  refine gw92 Y0 ?_
  refine qJ.regCut (qX 68) Tab.none 2 (s1:=?_) ?_ ?_
  rotate_left 1
  focus (refine Work.mk ?_;simp only [Zg,Zi,seval,reduceCtorEq,Nat.reduceEqDiff];with_reducible rfl)
  simp only [List.toList_toArray,List.drop_succ_cons,List.drop_zero]
  refine qW.callEf (qX 68) rfl rfl (by decide) rfl rfl (x:=.tmp 28) (xpost:=[.tmp 29]) rfl rfl (post:=[[.raw (.func (.func 120) #[] #[])]]) ?_ ?_ rfl rfl ?_ hso (R:=fun ys => ∃ zs:List SpT,ys = zs.map eSpT∧zs.Perm qs∧zs.Pairwise (fun a b => cmpS a.1.1 b.1.1 ≤ 0)) ?_ ?_
  ·simp only [Zg,Zi,seval,reduceCtorEq,Nat.reduceEqDiff]
  ·rfl
  ·intro q u hq hu
   rw [look,if_neg (fun e => hq e.symm)] at hu
   cases hu
  ·rintro rs oc ⟨rfl,zs,rfl,h1,h2⟩
   exact ⟨rfl,_,rfl,zs,rfl,h1,h2⟩
  rintro _ ⟨zs,rfl,hperm,hsort⟩
  have hzl:zs.length = L.length:=by rw [hperm.length_eq];exact hqn
  have hzz:∀ z ∈ zs,z.1.2 = 1∧SmS z.1.1:=fun z hz => hq1 z (hperm.mem_iff.1 hz)
  refine qW.opsT (qX 68) (T:=Tab.none) (s':=?_) ?_ ?_
  rotate_left 1
  focus (simp only [Zg,Zi,seval,reduceCtorEq,Nat.reduceEqDiff];with_reducible rfl)
  refine gw92 Y0 ?_
  obtain ⟨R,hR⟩:∃ R,R = fun i => runQ (zs.take i):=⟨_,rfl⟩
  have hRi:∀ i,i ≤ zs.length→(R i).length ≤ 100000∧∀ q ∈ R i,(1 ≤ q.1.2∧q.1.2 ≤ 100000)∧SmS q.1.1:=fun i hi => by
   rw [hR]
   obtain ⟨_,_,h3,h4⟩:=runQ_spec _ (zs.take i) rfl (fun q hq => (hzz q (List.mem_of_mem_take hq)).1)
   rw [List.length_take] at h3 h4
   refine ⟨by show (runQ (zs.take i)).length ≤ 100000;omega,fun q hq => ?_⟩
   obtain ⟨h5,p,hp,h6⟩:=h4 q hq
   exact ⟨by omega,h6 ▸ (hzz p (List.mem_of_mem_take hp)).2⟩
  refine qJ.loop (β:=Nat) (γ:=Unit) (fun i => ⟨[(5,.c (.val (.raw (.func (.func 120) #[] #[])))),(6,.c (.own 6 (R i).length)),(32,.c (.own 0 L.length)),(33,.c (.val (.int L.length))),(34,.c (.val (.int i)))],[(0,.row 3 (zs.map eSpT) false),(6,.row 3 ((R i).map eSpT) false)]⟩) (fun i => i ≤ L.length) (fun i => L.length - i)
   (fun _ => ⟨[(6,.c (.own 6 (R L.length).length))],[(6,.row 3 ((R L.length).map eSpT) false)]⟩) (fun _ => True) 0 (Nat.zero_le _) ?_ ?_ ?_
  ·have e0:R 0 = []:=by rw [hR];rfl
   rw [e0]
   exact gw93
  ·intro i hi
   have hi:i ≤ L.length:=hi
   have hw:=qL (n:=i) (by omega)
   obtain ⟨hb1,hb2⟩:=hRi i (by omega)
   have hzml:(zs.map eSpT).length = L.length:=by rw [List.length_map,hzl]
   by_cases h:i < L.length
   ·have hz':i < zs.length:=by omega
    have i1:((i:Int) < (L.length:Int)) = True:=eq_true (by omega)
    have i2:((0:Int) ≤ (i:Int)) = True:=eq_true (by omega)
    obtain ⟨p,hp⟩:∃ p,p = zs[i]:=⟨_,rfl⟩
    have hpz:=hzz zs[i] (List.getElem_mem _)
    have hst:R (i + 1) = stepQ (R i) p:=by
     rw [hR]
     show runQ (zs.take (i + 1)) = stepQ (runQ (zs.take i)) p
     rw [List.take_succ_eq_append_getElem hz',← hp,runQ_snoc]
    have hg:(zs.map eSpT)[i]? = some (eSpT p):=by rw [qI hz',hp]
    rw [← hp] at hpz
    obtain ⟨⟨⟨pf,pg⟩,pn⟩,⟨pF,pG⟩⟩:=p
    simp only [eSpT] at hg
    simp only at hpz
    have hpz2:=hpz.2
    have q1:=yJ (n:=(R i).length + 1) (by omega)
    have q2:=yY (n:=(R i).length + 1) (c:=56) (by omega) (by omega)
    by_cases h0:R i = []
    ·rw [h0,stepQ_nil] at hst
     have j1:(((0:Nat):Int) > 0) = False:=eq_false (by omega)
     rw [h0] at q1 q2 ⊢
     simp only [List.length_nil] at q1 q2
     refine gw94 (Y8 i1 i2 hg hzml hw j1 q1 q2) ?_
     refine qV.on (i + 1) ⟨h,by omega⟩ ?_
     rw [hst]
     exact gw95
    ·obtain ⟨qo,q,eq⟩:=snocN h0
     have hlq:(R i).length = qo.length + 1:=by rw [eq];simp
     obtain ⟨hz1,hz3⟩:=hb2 q (by rw [eq];simp)
     obtain ⟨⟨⟨qf,qg⟩,qn⟩,⟨qF,qG⟩⟩:=q
     simp only at hz1 hz3
     have j1:((((qo.length + 1:Nat)):Int) > 0) = True:=eq_true (by omega)
     have hw1:w64 (((qo.length + 1:Nat):Int) - 1) = ((qo.length:Nat):Int):=by rw [jN (by omega)];omega
     have i3:((0:Int) ≤ ((qo.length:Nat):Int)) = True:=eq_true (by omega)
     have i4:(((qo.length:Nat):Int) < ((qo.length + 1:Nat):Int)) = True:=eq_true (by omega)
     have hgz:((R i).map eSpT)[qo.length]? = some [.tag qF (.sl 1 (qf.map eL)),.tag qG (.sl 1 (qg.map eL)),.int qn]:=by
      rw [eq,List.map_append,List.getElem?_append_right (by simp)];simp [eSpT]
     have hxl:((R i).map eSpT).length = qo.length + 1:=by rw [List.length_map,hlq]
     have hk2:=eq_true (And.intro hz3 hpz2)
     rw [hlq] at hb1 q1 q2 ⊢
     by_cases he:cmpS (qf,qg) (pf,pg) = 0
     ·have hd:(cmpS (qf,qg) (pf,pg) == 0) = true:=beq_iff_eq.2 he
      have hwz:=jN (n:=qn + 1) (by omega)
      refine gw96 (Y12 i1 i2 i3 i4 hg hzml hgz hxl hw hw1 hd (Y3 hwz j1 hk2)) ?_
      have hR2:R (i + 1) = qo ++ [(((qf,qg),qn + 1),(qF,qG))]:=by rw [hst,eq];exact stepQ_eq qo _ _ he
      have hse:((R i).map eSpT).set qo.length [.tag qF (.sl 1 (qf.map eL)),.tag qG (.sl 1 (qg.map eL)),.int (qn + 1)] = (R (i + 1)).map eSpT:=by
       rw [hR2,eq,List.map_append,List.set_append_right _ _ (by simp)];simp [eSpT]
      refine qV.on (i + 1) ⟨h,by omega⟩ ?_
      have hl2:(R (i + 1)).length = qo.length + 1:=by rw [hR2];simp
      rw [hl2,← hse]
      exact gw6 Y0
     ·have hd:(cmpS (qf,qg) (pf,pg) == 0) = false:=beq_eq_false_iff_ne.2 he
      refine gw96 (Y12 i1 i2 i3 i4 hg hzml hgz hxl hw hw1 hd (Y4 j1 hk2 q1 q2)) ?_
      have hR2:R (i + 1) = R i ++ [(((pf,pg),pn),(pF,pG))]:=by rw [hst,eq];exact stepQ_ne qo _ _ he
      refine qV.on (i + 1) ⟨h,by omega⟩ ?_
      rw [hR2,List.length_append,hlq]
      exact gw97
   ·have i1:((i:Int) < (L.length:Int)) = False:=eq_false (by omega)
    obtain rfl:i = L.length:=by omega
    refine gw92 i1 ?_
    refine qV.out () trivial ?_
    exact gw6 Y0
  ·rintro _ _
   have hRL:R L.length = runQ zs:=by rw [hR];show runQ (zs.take L.length) = _;rw [← hzl,List.take_length]
   obtain ⟨k1,k2,_,_⟩:=runQ_spec _ zs rfl (fun q hq => (hzz q hq).1)
   rw [hRL]
   refine gw92 Y0 ?_
   refine Ends.un (by simp) hres hrts (r:=?_) (r':=.own 3 ((gathS L).map eSp) true) (l:=[]) (ks:=?_) ?_ ?_ (by simp) ?_ rfl
   rotate_left 2
   focus (simp only [jH,ares,Zg,Zi,seval,reduceCtorEq,Nat.reduceEqDiff];with_reducible rfl)
   focus simp
   have hx:gathS L = (runQ zs).map (·.1):=by
    rw [k1]
    refine IsN.ext xB (yV L) (runsN_sorted xB (M:=L.map nrmS) ?_ ?_) (List.Perm.refl _)
    ·refine (hperm.map (·.1.1)).trans ?_
     have:=congrArg (List.map (·.1)) hJ.eq
     rw [List.map_map,List.map_map,List.take_length] at this
     rw [show (qs.map fun x => x.1.1) = qs.map ((fun x => x.1) ∘ fun x => x.1) from rfl,this]
     exact List.Perm.refl _
    ·exact List.pairwise_map.2 hsort
   rw [hx]
   have hp2:=(hperm.map SpT.bl).flatten
   refine ⟨((runQ zs).map SpT.bl).flatten,?_,fun b hb => hJ.mi b ?_,.inl ⟨3,_,_,rfl,rfl,tag_mkS _⟩⟩
   ·exact (hp2.nodup_iff.2 hJ.nd).sublist (sub_flatN k2)
   ·exact hp2.mem_iff.1 ((sub_flatN k2).subset hb)
end Go.Proofs.YtedgfkpfhonlpaaGreat
namespace Go.Proofs.YtedgfkpfhonlpaaGreat
open Go.RowKit
theorem c_slicesGrowL (n:Nat) (w:World) (hn:n ≤ 1000000000):Calls Tryz.prog 183 #[.slice none 0 0,.int .i64 n] w (RetO (RS (RS RI)) w []):=by
 by_cases h0:n = 0
 ·subst h0
  go_enter Tryz.func183,Tryz.ntmps183
  go_wp2_with fail
  go_ret
  exact ⟨_,rfl,Own.nil _ _,Below.refl _ _⟩
 ·obtain ⟨ht,⟨i,hi,hz,hsz,hby⟩,_,_⟩:=tI64S
  have hr:=Lib.run_append_nil_zeros (P:=Tryz.prog) w 36 3 36 24 i (.slice none 0 0) .i64 .i64 ht Tryz.underlying3 hi hz n (by omega) (by omega) (by omega) (by rw [hby];omega)
  have hge:=grownCap_ge w n 0 24
  have hcm:grownCap w n 0 24 ≤ maxLen:=grownCap_le_maxLen w n 0 24 (by unfold maxLen;omega)
  obtain ⟨cp,hcp⟩:∃ cp,cp = grownCap w n 0 24:=⟨_,rfl⟩
  rw [← hcp] at hr hge hcm
  obtain ⟨cur,hcur⟩:∃ cur,cur = Builtin.zeroCells (Value.slice none 0 0).cells n ++ Builtin.zeroCells (Value.slice none 0 0).cells (cp - n):=⟨_,rfl⟩
  have hcs:cur.size = cp * 1:=by
   rw [hcur,Array.size_append,size_zeroCells,size_zeroCells]
   show n * 1 + (cp - n) * 1 = cp * 1
   omega
  rw [← hcur] at hr
  have hrow:Row (w.drew.alloc (.cells cur 24)) (.slice (some ⟨w.heap.size,0,none⟩) 0 cp) 1 0 [] (some w.heap.size) :=
   ⟨rfl,.inr ⟨w.heap.size,cp,cur,24,rfl,rfl,Go.heap_alloc_new w.drew _,Nat.zero_le _,hcm,hcs,by simp⟩⟩
  have hown:Own (RS (RS RI)) w.heap.size (w.drew.alloc (.cells cur 24)).heap.size (w.drew.alloc (.cells cur 24)) [.slice (some ⟨w.heap.size,0,none⟩) 0 cp] [] :=
   Own.mk' (og:=some w.heap.size) (F:=[]) (ds:=[]) hrow ⟨rfl,rfl⟩ (by simp) (fun b hb => by simp at hb;subst hb;simp)
  have hbel:Below w.heap.size w (w.drew.alloc (.cells cur 24)):=⟨rfl,rfl,rfl,by simp,fun k hk => Below.heap_alloc w.drew _ k hk⟩
  have HR:=Lib.hid hr
  have HO:=Lib.hid hown
  have hp:(0:Int) < (n:Int):=by omega
  have hp2:¬ ((n:Int) < 0):=by omega
  unfold maxLen at hcm
  clear hr hown hrow hcp hcur hi hz hsz hby ht hcs
  go_enter Tryz.func183,Tryz.ntmps183
  go_wp2_with (at_builtin;refine yN (o:=⟨some 22,_,_,_,_,_⟩) ?_)
  refine jU.go ?_
  refine Lib.wpList_append_run w rfl _ _ _ _ rfl _ _ rfl rfl _ _ HR.out ?_
  go_wp2_with fail
  go_ret
  exact ⟨_,rfl,HO.out,hbel⟩
theorem a_slicesGrowL (n:Nat) (hn:n ≤ 1000000000):AFn Tryz.prog 183 [[.raw (.slice none 0 0)],eI n] (· = [.own 1 [] true]) :=
 AFn.of_o (xs:=[]) (encS encI) (enters_of Tryz.func183 rfl rfl) (fun w A vs ⟨v1,_,e1,h1,v2,_,e2,h2,e3⟩ => by
  subst e3;subst e2;subst e1
  rw [arg_int h2,(yU.1 h1).1]
  exact c_slicesGrowL n w hn)
def eLLL' (x:List (List Int)):List D:=[.sl 1 (x.map eL)]
def cntL (bs:List (List (List Int))):Nat:=(bs.map List.length).sum
theorem xC0 (bs:List (List (List Int))) (k:Nat) (h:k < bs.length):cntL (bs.take (k + 1)) = cntL (bs.take k) + bs[k].length:=by
 unfold cntL
 rw [List.take_succ_eq_append_getElem h,List.map_append,List.sum_append];simp
theorem cntL_flat (bs:List (List (List Int))):bs.flatten.length = cntL bs:=by simp [cntL,List.length_flatten]
theorem cntL_take (bs:List (List (List Int))) (k:Nat):cntL (bs.take k) ≤ cntL bs:=by
 rw [← cntL_flat,← cntL_flat]
 conv => rhs;rw [← List.take_append_drop k bs]
 rw [List.flatten_append,List.length_append]
 omega
theorem yL0 (bs:List (List (List Int))) (hsz:cntL bs ≤ 1000000) (hl:bs.length ≤ 1000000):AFn Tryz.prog 123 [[.sl 1 (bs.map eLLL')]] (· = [.own 1 (bs.flatten.map eL) false]):=by
 refine AFn.of_runs (qX 36) Tryz.func123 rfl rfl rfl gz ?_
 have hres:Tryz.f123.results.toList = [.tmp 2]:=rfl
 have hrts:Tryz.f123.resultTypes.toList = [36]:=rfl
 simp only [qK,qD,eL,eI,eLL,eB,Nat.zero_add,Nat.reduceAdd]
 intro M
 refine qJ.of ?_
 refine gw98 ?_
 refine qJ.loop (β:=Nat) (γ:=Unit) (fun i => ⟨[(0,.c (.val (.sl 1 (bs.map eLLL')))),(3,.c (.val (.int (cntL (bs.take i):Nat)))),(9,.c (.val (.sl 1 (bs.map eLLL')))),(10,.c (.val (.int bs.length))),(11,.c (.val (.int i)))],[]⟩) (fun i => i ≤ bs.length) (fun i => bs.length - i)
  (fun _ => ⟨[(0,.c (.val (.sl 1 (bs.map eLLL')))),(3,.c (.val (.int (cntL bs:Nat))))],[]⟩) (fun _ => True) 0 (Nat.zero_le _) ?_ ?_ ?_
 ·exact gw99 (show cntL [] = 0 from rfl)
 ·intro i hi
  have hi:i ≤ bs.length:=hi
  have hw:=qL (n:=i) (by omega)
  by_cases h:i < bs.length
  ·have i1:((i:Int) < (bs.length:Int)) = True:=eq_true (by omega)
   have i2:((0:Int) ≤ (i:Int)) = True:=eq_true (by omega)
   obtain ⟨f,hf⟩:∃ f,f = bs[i]:=⟨_,rfl⟩
   have hg:(bs.map eLLL')[i]? = some [.sl 1 (f.map eL)]:=by rw [qI h,hf];rfl
   have hst:=xC0 bs i h
   have hle:=cntL_take bs (i + 1)
   rw [← hf] at hst
   have hws:w64 ((cntL (bs.take i):Int) + (f.length:Int)) = ((cntL (bs.take (i + 1)):Nat):Int):=by rw [jN (by omega)];omega
   have j1:(((cntL (bs.take (i + 1)):Nat):Int) < 0) = False:=eq_false (by omega)
   refine gw100 (Y6 i1 i2 hg hw hws j1) ?_
   refine qV.on (i + 1) ⟨h,by omega⟩ ?_
   exact gw6 Y0
  ·have i1:((i:Int) < (bs.length:Int)) = False:=eq_false (by omega)
   obtain rfl:i = bs.length:=by omega
   rw [List.take_length]
   refine gw101 i1 ?_
   refine qV.out () trivial ?_
   exact gw6 Y0
 ·rintro _ _
  have hgr:=a_slicesGrowL (cntL bs) (by omega)
  refine gw98 ?_
  refine qJ.regCut (qX 36) Tab.none 1 (s1:=?_) ?_ ?_
  rotate_left 1
  focus (refine Work.mk ?_;simp only [Zg,Zi,seval,reduceCtorEq,Nat.reduceEqDiff];with_reducible rfl)
  simp only [List.toList_toArray,List.drop_succ_cons,List.drop_zero]
  refine qW.callNilP (qX 36) (d:=24) (g:=183) (xs:=[]) (tx:=[]) (pre:=[]) (ys:=[.tmp 23]) (ty:=[3]) (post:=[eI (cntL bs:Nat)]) rfl (by decide) rfl rfl rfl rfl rfl rfl rfl rfl hgr rfl ?_
  refine qW.opsT (qX 36) (T:=Tab.none) (s':=?_) ?_ ?_
  rotate_left 1
  focus (simp only [Zg,Zi,seval,reduceCtorEq,Nat.reduceEqDiff];with_reducible rfl)
  refine gw98 ?_
  refine qJ.loop (β:=Nat) (γ:=Unit) (fun i => ⟨[(6,.c (.own 6 (bs.take i).flatten.length)),(25,.c (.val (.sl 1 (bs.map eLLL')))),(26,.c (.val (.int bs.length))),(27,.c (.val (.int i)))],[(6,.row 1 ((bs.take i).flatten.map eL) false)]⟩) (fun i => i ≤ bs.length) (fun i => bs.length - i)
   (fun _ => ⟨[(6,.c (.own 6 bs.flatten.length))],[(6,.row 1 (bs.flatten.map eL) false)]⟩) (fun _ => True) 0 (Nat.zero_le _) ?_ ?_ ?_
  ·exact gw102
  ·intro i hi
   have hi:i ≤ bs.length:=hi
   have hw:=qL (n:=i) (by omega)
   by_cases h:i < bs.length
   ·have i1:((i:Int) < (bs.length:Int)) = True:=eq_true (by omega)
    have i2:((0:Int) ≤ (i:Int)) = True:=eq_true (by omega)
    obtain ⟨f,hf⟩:∃ f,f = bs[i]:=⟨_,rfl⟩
    have hg:(bs.map eLLL')[i]? = some [.sl 1 (f.map eL)]:=by rw [qI h,hf];rfl
    have hst:=xC0 bs i h
    have hle:=cntL_take bs (i + 1)
    rw [← hf] at hst
    have hfl:(bs.take (i + 1)).flatten = (bs.take i).flatten ++ f:=by rw [List.take_succ_eq_append_getElem h,List.flatten_append,hf];simp
    have hcl:=cntL_flat (bs.take i)
    have q1:=yJ (n:=(bs.take i).flatten.length + f.length) (by omega)
    have q2:=yY (n:=(bs.take i).flatten.length + f.length) (c:=24) (by omega) (by omega)
    refine gw100 (Y6 i1 i2 hg hw q1 q2) ?_
    refine qV.on (i + 1) ⟨h,by omega⟩ ?_
    rw [hfl]
    exact gw6 Y0
   ·have i1:((i:Int) < (bs.length:Int)) = False:=eq_false (by omega)
    obtain rfl:i = bs.length:=by omega
    rw [List.take_length]
    refine gw101 i1 ?_
    refine qV.out () trivial ?_
    exact gw6 Y0
  ·rintro _ _
   refine gw101 Y0 ?_
   exact gw8
end Go.Proofs.YtedgfkpfhonlpaaGreat
