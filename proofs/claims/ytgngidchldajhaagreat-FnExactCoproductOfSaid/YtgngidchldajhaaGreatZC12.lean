/- Lemmas (12). -/
import Derived.Ground.SlsfProg
import Derived.Shelf.SlSortCmp.NoneTotal
import Derived.Shelf.SlSortCmp.WholeK
import Derived.Test.YtgngidchldajhaaGreatZC0
import Derived.Test.YtgngidchldajhaaGreatZC1
import Derived.Test.YtgngidchldajhaaGreatZC2
import Derived.Test.YtgngidchldajhaaGreatZC4
import Derived.Test.YtgngidchldajhaaGreatZC6
import Derived.Test.YtgngidchldajhaaGreatZC7
import Derived.Test.YtgngidchldajhaaGreatZC8
import Derived.Test.YtgngidchldajhaaGreatZC9
import Derived.Test.YtgngidchldajhaaGreatZC10
import Derived.Test.YtgngidchldajhaaGreatZC11
set_option linter.unusedSimpArgs false
set_option linter.unusedVariables false
namespace Go.Proofs.YtgngidchldajhaaGreat
open Go.RowKit
def cmpTe:Spl→Spl→Int:=pairC cmpF cmpF
theorem cmpTe_cmp:Cmp cmpTe:=pairC_cmp cmpF_cmp cmpF_cmp
def eTe (z:Int × Spl):List D:=[.int z.1,.sl 1 (z.2.1.map eL),.sl 1 (z.2.2.map eL)]
def codTe:Cod (Int × Spl):=codP 1 codI codF2 (fun _ => rfl)
theorem codTe_d (f g:List (List Int)) (n:Int):codTe.d [.int n,.sl 1 (f.map eL),.sl 1 (g.map eL)] = some (n,(f,g)):=codTe.de (n,(f,g))
theorem codTes_d (L:List (Int × Spl)):(codS 3 codTe).d [.sl 3 (L.map eTe)] = some L:=(codS 3 codTe).de L
def copP (p:Int × List (List Int)):List (Int × Spl):=(gathS (prodS (p.2.map split))).map fun z => (mP (p.1 * z.2),z.1)
def copM (e:Elt):List (Int × Spl):=e.flatMap copP
def copOf (e:Elt):List (Int × Spl) × Int:=if elB e = true then (if (sumS cmpTe (copM e)).length ≤ 600 then (sumS cmpTe (copM e),0) else ([],3)) else ([],1)
def OkT (L:List (Int × Spl)):Prop:=∀ q ∈ L,(1 ≤ q.1∧q.1 < 10007)∧SmS q.2
theorem OkT.nil:OkT []:=fun q hq => nomatch hq
theorem putT_ok {k:Int} {x:Spl} (hk:0 ≤ k∧k < 10007) (hx:SmS x):∀ {L:List (Int × Spl)},OkT L→OkT (putS cmpTe L k x)
 | [],_ => by
  unfold putS
  split
  ·exact OkT.nil
  ·intro q hq
   simp only [List.mem_singleton] at hq
   subst hq
   exact ⟨⟨by simp only;omega,hk.2⟩,hx⟩
 | (a,y) :: L,he => by
  obtain ⟨⟨ha1,ha2⟩,hy⟩:=he (a,y) (by simp)
  have hL:OkT L:=fun q hq => he q (by simp [hq])
  unfold putS
  split
  ·exact he
  ·split
   ·intro q hq
    rcases List.mem_cons.1 hq with rfl|hq
    ·exact ⟨⟨by simp only;omega,hk.2⟩,hx⟩
    ·exact he q hq
   ·split
    ·split
     ·exact hL
     ·rename_i h0
      intro q hq
      rcases List.mem_cons.1 hq with rfl|hq
      ·have:=mP_range (a + k)
       exact ⟨⟨by simp only;omega,this.2⟩,hy⟩
      ·exact hL q hq
    ·intro q hq
     rcases List.mem_cons.1 hq with rfl|hq
     ·exact ⟨⟨ha1,ha2⟩,hy⟩
     ·exact putT_ok hk hx hL q hq
theorem putT_len (k:Int) (x:Spl):∀ (e:List (Int × Spl)),(putS cmpTe e k x).length ≤ e.length + 1
 | [] => by unfold putS;split <;> simp
 | (a,y) :: L => by
  have ih:=putT_len k x L
  unfold putS
  repeat' split
  all_goals simp only [List.length_cons] at ih ⊢
  all_goals omega
theorem addT_ok:∀ {M d:List (Int × Spl)},OkT d→(∀ q ∈ M,(0 ≤ q.1∧q.1 < 10007)∧SmS q.2)→OkT (addS cmpTe d M)
 | [],d,hd,_ => hd
 | q :: M,d,hd,hM => by
  obtain ⟨h1,h2⟩:=hM q (by simp)
  exact addT_ok (M:=M) (putT_ok h1 h2 hd) (fun z hz => hM z (by simp [hz]))
theorem addT_len:∀ (M d:List (Int × Spl)),(addS cmpTe d M).length ≤ d.length + M.length
 | [],d => Nat.le_refl _
 | q :: M,d => by
  have h1:=addT_len M (putS cmpTe d q.1 q.2)
  have h2:=putT_len q.1 q.2 d
  show (addS cmpTe (putS cmpTe d q.1 q.2) M).length ≤ _
  simp only [List.length_cons];omega
theorem addT_snoc (d M:List (Int × Spl)) (q:Int × Spl):addS cmpTe d (M ++ [q]) = putS cmpTe (addS cmpTe d M) q.1 q.2:=by
 unfold addS;rw [List.foldl_append];rfl
noncomputable def TTen:Tab Tryz.prog :=
 (Tab.none.add 171 (tab2 codLL codLL fun f g => if SmF f∧SmF g then some [.val (.int (sgn (cmpF f g)))] else none) (tab2_ok fun f g rs h => by split at h;cases h;rename_i hs;exact a_l06Order f g (by have:=hs.1.2;omega) (by have:=hs.2.2;omega) (by have:=hs.1.1;omega) (by have:=hs.2.1;omega);cases h)).add
  172 (tab2 codI codI fun a b => if -9223372036854775808 ≤ a + b∧a + b ≤ 9223372036854775807 then some [.val (.int (mP (a + b)))] else none) (tab2_ok fun a b rs h => by split at h;cases h;rename_i hs;exact a_l01Add a b hs;cases h)
structure PutTI (e:List (Int × Spl)) (k:Int) (x:Spl) (y:Nat × Bool × List (Int × Spl)):Prop where
 le:y.1 ≤ e.length
 no:y.2.1 = false→k ≠ 0∧y.2.2 = e.take y.1∧∀ q ∈ e.take y.1,0 < cmpTe x q.2
 yes:y.2.1 = true→y.2.2 ++ e.drop y.1 = putS cmpTe e k x
 len:y.2.2.length ≤ y.1 + 1
theorem putT_at {e:List (Int × Spl)} {k:Int} {x:Spl} (hk:k ≠ 0) {i:Nat} (h:i < e.length) (hlow:∀ q ∈ e.take i,0 < cmpTe x q.2):putS cmpTe e k x = e.take i ++ putS cmpTe (e[i] :: e.drop (i + 1)) k x:=by
 have h1:=putS_skip hk (e.drop i) hlow
 rw [List.take_append_drop,List.drop_eq_getElem_cons h] at h1
 exact h1
set_option maxHeartbeats 16000000 in
theorem a_l06Tensor (e:List (Int × Spl)) (k:Int) (x:Spl) (hl:e.length ≤ 1000000) (he:OkT e) (hk:0 ≤ k∧k < 10007) (hx:SmS x):AFn Tryz.prog 99 [[.sl 3 (e.map eTe)],eTe (k,x)] (· = [.val (.sl 3 ((putS cmpTe e k x).map eTe))]):=by
 refine AFn.val1 ?_
 obtain ⟨xf,xg⟩:=x
 obtain ⟨hx1,hx2⟩:=hx
 simp only at hx1 hx2
 refine AFn.of_runs (cfg_ok 72) Tryz.func99 rfl rfl rfl (by simp only [List.length_cons,List.length_nil];decide) ?_
 have hres:Tryz.f99.results.toList = [.tmp 4]:=rfl
 have hrts:Tryz.f99.resultTypes.toList = [61]:=rfl
 simp only [argRegs,argAV1,Nat.zero_add,eTe]
 intro M
 refine RunK.of ?_
 repeat' (first|with_reducible (first|refine Q1 ?_|refine Q2 ?_|refine Q3 ?_|refine Q4 ?_|refine Q5 ?_|refine Q6 ?_|refine Q7 ?_|refine Q8 ?_|refine Q9 ?_|refine Qa ?_|refine Qb ?_|refine Qc ?_|refine Qd ?_|refine Qe ?_|refine Qf ?_)|((with_reducible refine Qo ?_ ?_);focus rfl)|((with_reducible first|refine QT 10 (l:=?_) ?_ ?_|refine QF 10 (l:=?_) ?_ ?_);rotate_left 1;focus (simp only [Zu,Nat.reduceSub,Nat.reduceBEq];with_reducible rfl))|((with_reducible first|refine QS (cfg_ok 72) Tab.none (s':=?_) ?_ ?_|refine QC (b:=?_) ?_ ?_);rotate_left 1;focus ((with_reducible refine QW ?_);simp only [Zg,seval,Nat.reduceEqDiff];with_reducible rfl))|((with_reducible refine QD (cfg_ok 72) Tab.none mixed_ok (tr:=?_) (s':=?_) ?_ ?_ ?_);rotate_left 2;(focus ((with_reducible refine QW ?_);simp only [Zg,Zd,seval,if_true,if_false,reduceCtorEq,Nat.reduceEqDiff];with_reducible rfl));focus ((with_reducible refine QK ?_);simp only [Zk];kernel_rfl)))
 refine RunK.loop (β:=Nat × Bool × List (Int × Spl)) (γ:=Bool × List (Int × Spl)) (fun y => ⟨[(0,.c (.val (.sl 3 (e.map eTe)))),(3,.optr 3 0 0),(5,.c (.own 5 y.2.2.length)),(6,.c (.val (.bool y.2.1))),(7,.c (.val (.int y.1)))],[(3,.row 3 [[.int k,.sl 1 (xf.map eL),.sl 1 (xg.map eL)]] false),(5,.row 3 (y.2.2.map eTe) false)]⟩) (PutTI e k (xf,xg)) (fun y => e.length - y.1)
  (fun y => ⟨[(3,.optr 3 0 0),(5,.c (.own 5 y.2.length)),(6,.c (.val (.bool y.1)))],[(3,.row 3 [[.int k,.sl 1 (xf.map eL),.sl 1 (xg.map eL)]] false),(5,.row 3 (y.2.map eTe) false)]⟩) (fun y => PutTI e k (xf,xg) (e.length,y)) (0,k == 0,[]) ⟨Nat.zero_le _,fun h => ⟨beq_eq_false_iff_ne.1 h,rfl,by simp⟩,(fun h => by have h:(k == 0) = true:=h;rw [beq_iff_eq] at h;subst h;rw [putS_zero];rfl),Nat.zero_le _⟩ ?_ ?_ ?_
 ·(repeat' (first|with_reducible refine Qn|((with_reducible refine Qr ?_ ?_);focus (first|with_reducible rfl|(simp only [Zz,Nat.reduceBEq];done)|rfl))|((with_reducible refine Qj (o':=?_) ?_ ?_ ?_);rotate_left 1;focus rfl)|((with_reducible refine Qw ?_ ?_);(focus (first|with_reducible rfl|(simp only [Zv];done)));focus (first|exact id|exact (fun h => nomatch h)|exact (fun _ => rfl)))))
 ·rintro ⟨i,d,o⟩ ⟨hi,hno,hyes,hlen⟩
  simp only at hi hno hyes hlen ⊢
  have hw:=w64_succ (n:=i) (by omega)
  have q1:=big_le (n:=o.length + 1) (by omega)
  have q2:=big_mul (n:=o.length + 1) (c:=56) (by omega) (by omega)
  have q3:=big_le (n:=o.length + 1 + 1) (by omega)
  have q4:=big_mul (n:=o.length + 1 + 1) (c:=56) (by omega) (by omega)
  by_cases h:i < e.length
  ·have i1:((i:Int) < (e.length:Int)) = True:=eq_true (by omega)
   have i2:((0:Int) ≤ (i:Int)) = True:=eq_true (by omega)
   obtain ⟨z,hz⟩:∃ z,z = e[i]:=⟨_,rfl⟩
   obtain ⟨⟨hz1,hz2⟩,hz3⟩:=he e[i] (List.getElem_mem _)
   have hg:(e.map eTe)[i]? = some [.int z.1,.sl 1 (z.2.1.map eL),.sl 1 (z.2.2.map eL)]:=by rw [map_get h,hz];rfl
   have hdr:e.drop i = z :: e.drop (i + 1):=by rw [hz];exact List.drop_eq_getElem_cons h
   have htk:e.take (i + 1) = e.take i ++ [z]:=by rw [hz];exact List.take_succ_eq_append_getElem h
   rw [← hz] at hz1 hz2 hz3
   obtain ⟨zn,⟨zf,zg⟩⟩:=z
   simp only at hz1 hz2 hz3 hg
   have e1:=eq_true (And.intro hx1 hz3.1)
   have e2:=eq_true (And.intro hx2 hz3.2)
   simp only at e1 e2
   have hz0:(zn != 0) = true:=bne_iff_ne.2 (by omega)
   cases d with
   | true =>
    repeat' (first|with_reducible (first|refine Q1 ?_|refine Q2 ?_|refine Q3 ?_|refine Q4 ?_|refine Q5 ?_|refine Q6 ?_|refine Q7 ?_|refine Q8 ?_|refine Q9 ?_|refine Qa ?_|refine Qb ?_|refine Qc ?_|refine Qd ?_|refine Qe ?_|refine Qf ?_)|((with_reducible refine Qo ?_ ?_);focus rfl)|((with_reducible first|refine QT 10 (l:=?_) ?_ ?_|refine QF 10 (l:=?_) ?_ ?_);rotate_left 1;focus (simp only [Zu,Nat.reduceSub,Nat.reduceBEq];with_reducible rfl))|((with_reducible first|refine QS (cfg_ok 72) TTen (s':=?_) ?_ ?_|refine QC (b:=?_) ?_ ?_);rotate_left 1;focus ((with_reducible refine QW ?_);simp only [Zg,seval,Nat.reduceEqDiff,TTen,TTen,z10,i1,i2,hg,hw,hz0,q1,q2,Int.toNat_natCast,List.length_map];with_reducible rfl))|((with_reducible refine QD (cfg_ok 72) TTen mixed_ok (tr:=?_) (s':=?_) ?_ ?_ ?_);rotate_left 2;(focus ((with_reducible refine QW ?_);simp only [Zg,Zd,seval,if_true,if_false,reduceCtorEq,Nat.reduceEqDiff,TTen,TTen,z10,z00,zm0,i1,i2,hg,hw,hz0,q1,q2,Int.toNat_natCast,List.length_map];with_reducible rfl));focus ((with_reducible refine QK ?_);simp only [Zk];kernel_rfl)))
    refine roundK.on (i + 1,true,o ++ [(zn,(zf,zg))]) ?_ ?_
    refine ⟨⟨h,(fun h => nomatch h),fun _ => ?_,?_⟩,?_⟩
    ·rw [← hyes rfl,hdr];simp
    ·simp;omega
    ·show e.length - (i + 1) < e.length - i;omega
    ·(repeat' (first|with_reducible refine Qn|((with_reducible refine Qr ?_ ?_);focus (first|with_reducible rfl|(simp only [Zz,Nat.reduceBEq];done)|rfl))|((with_reducible refine Qj (o':=?_) ?_ ?_ ?_);rotate_left 1;focus rfl)|((with_reducible refine Qw ?_ ?_);(focus (first|with_reducible rfl|(simp only [Zv,eTe];done)));focus (first|exact id|exact (fun h => nomatch h)|exact (fun _ => rfl)))))
   | false =>
    obtain ⟨hk0,ho,hlow⟩:=hno rfl
    have hpa:=putT_at hk0 h hlow
    rw [← hz] at hpa
    have hcd:cmpTe (xf,xg) (zf,zg) = if cmpF xf zf = 0 then cmpF xg zg else cmpF xf zf:=rfl
    have hol:o.length = i:=by rw [ho,List.length_take];omega
    have lt:cmpTe (xf,xg) (zf,zg) < 0→putS cmpTe e k (xf,xg) = o ++ [(k,(xf,xg))] ++ [(zn,(zf,zg))] ++ e.drop (i + 1):=fun hc => by
     rw [hpa,ho];unfold putS;rw [if_neg hk0,if_pos hc];simp
    have eq0:cmpTe (xf,xg) (zf,zg) = 0→mP (zn + k) = 0→putS cmpTe e k (xf,xg) = o ++ e.drop (i + 1):=fun hc hm => by
     rw [hpa,ho];unfold putS;rw [if_neg hk0,if_neg (by omega),if_pos hc,if_pos hm]
    have eq1:cmpTe (xf,xg) (zf,zg) = 0→¬ mP (zn + k) = 0→putS cmpTe e k (xf,xg) = o ++ [(mP (zn + k),(zf,zg))] ++ e.drop (i + 1):=fun hc hm => by
     rw [hpa,ho];unfold putS;rw [if_neg hk0,if_neg (by omega),if_pos hc,if_neg hm];simp
    have hab:(-9223372036854775808 ≤ zn + k∧zn + k ≤ 9223372036854775807) = True:=eq_true (by omega)
    rcases Int.lt_trichotomy (cmpF xf zf) 0 with hc|hc|hc
    ·have hs1:=sgn_neg hc
     have hct:cmpTe (xf,xg) (zf,zg) < 0:=by rw [hcd,if_neg (by omega)];exact hc
     have hp:=lt hct
     repeat' (first|with_reducible (first|refine Q1 ?_|refine Q2 ?_|refine Q3 ?_|refine Q4 ?_|refine Q5 ?_|refine Q6 ?_|refine Q7 ?_|refine Q8 ?_|refine Q9 ?_|refine Qa ?_|refine Qb ?_|refine Qc ?_|refine Qd ?_|refine Qe ?_|refine Qf ?_)|((with_reducible refine Qo ?_ ?_);focus rfl)|((with_reducible first|refine QT 10 (l:=?_) ?_ ?_|refine QF 10 (l:=?_) ?_ ?_);rotate_left 1;focus (simp only [Zu,Nat.reduceSub,Nat.reduceBEq];with_reducible rfl))|((with_reducible first|refine QS (cfg_ok 72) TTen (s':=?_) ?_ ?_|refine QC (b:=?_) ?_ ?_);rotate_left 1;focus ((with_reducible refine QW ?_);simp only [Zg,seval,Nat.reduceEqDiff,TTen,TTen,zm0,i1,i2,hg,hw,hz0,q1,q2,q3,q4,Int.toNat_natCast,List.length_map,List.length_append];with_reducible rfl))|((with_reducible refine QD (cfg_ok 72) TTen mixed_ok (tr:=?_) (s':=?_) ?_ ?_ ?_);rotate_left 2;(focus ((with_reducible refine QW ?_);simp only [Zg,Zd,seval,Nat.reduceEqDiff,TTen,TTen,i1,i2,hg,hs1,e1,Int.toNat_natCast,List.length_map];with_reducible rfl));focus ((with_reducible refine QK ?_);simp only [Zk];kernel_rfl)))
     refine roundK.on (i + 1,true,o ++ [(k,(xf,xg))] ++ [(zn,(zf,zg))]) ?_ ?_
     refine ⟨⟨h,(fun h => nomatch h),fun _ => hp.symm,?_⟩,?_⟩
     ·simp;omega
     ·show e.length - (i + 1) < e.length - i;omega
     ·(repeat' (first|with_reducible refine Qn|((with_reducible refine Qr ?_ ?_);focus (first|with_reducible rfl|(simp only [Zz,Nat.reduceBEq];done)|rfl))|((with_reducible refine Qj (o':=?_) ?_ ?_ ?_);rotate_left 1;focus rfl)|((with_reducible refine Qw ?_ ?_);(focus (first|with_reducible rfl|(simp only [Zv,eTe];done)));focus (first|exact id|exact (fun h => nomatch h)|exact (fun _ => rfl)))))
    ·have hs0:sgn (cmpF xf zf) = 0:=by rw [hc];rfl
     rcases Int.lt_trichotomy (cmpF xg zg) 0 with hd|hd|hd
     ·have hs1:=sgn_neg hd
      have hct:cmpTe (xf,xg) (zf,zg) < 0:=by rw [hcd,if_pos hc];exact hd
      have hp:=lt hct
      repeat' (first|with_reducible (first|refine Q1 ?_|refine Q2 ?_|refine Q3 ?_|refine Q4 ?_|refine Q5 ?_|refine Q6 ?_|refine Q7 ?_|refine Q8 ?_|refine Q9 ?_|refine Qa ?_|refine Qb ?_|refine Qc ?_|refine Qd ?_|refine Qe ?_|refine Qf ?_)|((with_reducible refine Qo ?_ ?_);focus rfl)|((with_reducible first|refine QT 10 (l:=?_) ?_ ?_|refine QF 10 (l:=?_) ?_ ?_);rotate_left 1;focus (simp only [Zu,Nat.reduceSub,Nat.reduceBEq];with_reducible rfl))|((with_reducible first|refine QS (cfg_ok 72) TTen (s':=?_) ?_ ?_|refine QC (b:=?_) ?_ ?_);rotate_left 1;focus ((with_reducible refine QW ?_);simp only [Zg,seval,Nat.reduceEqDiff,TTen,TTen,zm0,i1,i2,hg,hw,hz0,q1,q2,q3,q4,Int.toNat_natCast,List.length_map,List.length_append];with_reducible rfl))|((with_reducible refine QD (cfg_ok 72) TTen mixed_ok (tr:=?_) (s':=?_) ?_ ?_ ?_);rotate_left 2;(focus ((with_reducible refine QW ?_);simp only [Zg,Zd,seval,Nat.reduceEqDiff,TTen,TTen,i1,i2,hg,hs0,hs1,e1,e2,Int.toNat_natCast,List.length_map];with_reducible rfl));focus ((with_reducible refine QK ?_);simp only [Zk];kernel_rfl)))
      refine roundK.on (i + 1,true,o ++ [(k,(xf,xg))] ++ [(zn,(zf,zg))]) ?_ ?_
      refine ⟨⟨h,(fun h => nomatch h),fun _ => hp.symm,?_⟩,?_⟩
      ·simp;omega
      ·show e.length - (i + 1) < e.length - i;omega
      ·(repeat' (first|with_reducible refine Qn|((with_reducible refine Qr ?_ ?_);focus (first|with_reducible rfl|(simp only [Zz,Nat.reduceBEq];done)|rfl))|((with_reducible refine Qj (o':=?_) ?_ ?_ ?_);rotate_left 1;focus rfl)|((with_reducible refine Qw ?_ ?_);(focus (first|with_reducible rfl|(simp only [Zv,eTe];done)));focus (first|exact id|exact (fun h => nomatch h)|exact (fun _ => rfl)))))
     ·have hs1:sgn (cmpF xg zg) = 0:=by rw [hd];rfl
      have hct:cmpTe (xf,xg) (zf,zg) = 0:=by rw [hcd,if_pos hc];exact hd
      by_cases hm:mP (zn + k) = 0
      ·have hp:=eq0 hct hm
       repeat' (first|with_reducible (first|refine Q1 ?_|refine Q2 ?_|refine Q3 ?_|refine Q4 ?_|refine Q5 ?_|refine Q6 ?_|refine Q7 ?_|refine Q8 ?_|refine Q9 ?_|refine Qa ?_|refine Qb ?_|refine Qc ?_|refine Qd ?_|refine Qe ?_|refine Qf ?_)|((with_reducible refine Qo ?_ ?_);focus rfl)|((with_reducible first|refine QT 10 (l:=?_) ?_ ?_|refine QF 10 (l:=?_) ?_ ?_);rotate_left 1;focus (simp only [Zu,Nat.reduceSub,Nat.reduceBEq];with_reducible rfl))|((with_reducible first|refine QS (cfg_ok 72) TTen (s':=?_) ?_ ?_|refine QC (b:=?_) ?_ ?_);rotate_left 1;focus ((with_reducible refine QW ?_);simp only [Zg,seval,Nat.reduceEqDiff,TTen,TTen,i1,i2,hg,hw,hm,hab,Int.toNat_natCast,List.length_map];with_reducible rfl))|((with_reducible refine QD (cfg_ok 72) TTen mixed_ok (tr:=?_) (s':=?_) ?_ ?_ ?_);rotate_left 2;(focus ((with_reducible refine QW ?_);simp only [Zg,Zd,seval,Nat.reduceEqDiff,TTen,TTen,i1,i2,hg,hs0,hs1,e1,e2,Int.toNat_natCast,List.length_map];with_reducible rfl));focus ((with_reducible refine QK ?_);simp only [Zk];kernel_rfl)))
       refine roundK.on (i + 1,true,o) ?_ ?_
       refine ⟨⟨h,(fun h => nomatch h),fun _ => hp.symm,?_⟩,?_⟩
       ·show o.length ≤ i + 1 + 1;omega
       ·show e.length - (i + 1) < e.length - i;omega
       ·(repeat' (first|with_reducible refine Qn|((with_reducible refine Qr ?_ ?_);focus (first|with_reducible rfl|(simp only [Zz,Nat.reduceBEq];done)|rfl))|((with_reducible refine Qj (o':=?_) ?_ ?_ ?_);rotate_left 1;focus rfl)|((with_reducible refine Qw ?_ ?_);(focus (first|with_reducible rfl|(simp only [Zv,eTe];done)));focus (first|exact id|exact (fun h => nomatch h)|exact (fun _ => rfl)))))
      ·have hmb:(mP (zn + k) != 0) = true:=bne_iff_ne.2 hm
       have hp:=eq1 hct hm
       repeat' (first|with_reducible (first|refine Q1 ?_|refine Q2 ?_|refine Q3 ?_|refine Q4 ?_|refine Q5 ?_|refine Q6 ?_|refine Q7 ?_|refine Q8 ?_|refine Q9 ?_|refine Qa ?_|refine Qb ?_|refine Qc ?_|refine Qd ?_|refine Qe ?_|refine Qf ?_)|((with_reducible refine Qo ?_ ?_);focus rfl)|((with_reducible first|refine QT 10 (l:=?_) ?_ ?_|refine QF 10 (l:=?_) ?_ ?_);rotate_left 1;focus (simp only [Zu,Nat.reduceSub,Nat.reduceBEq];with_reducible rfl))|((with_reducible first|refine QS (cfg_ok 72) TTen (s':=?_) ?_ ?_|refine QC (b:=?_) ?_ ?_);rotate_left 1;focus ((with_reducible refine QW ?_);simp only [Zg,seval,Nat.reduceEqDiff,TTen,TTen,i1,i2,hg,hw,hmb,hab,q1,q2,Int.toNat_natCast,List.length_map];with_reducible rfl))|((with_reducible refine QD (cfg_ok 72) TTen mixed_ok (tr:=?_) (s':=?_) ?_ ?_ ?_);rotate_left 2;(focus ((with_reducible refine QW ?_);simp only [Zg,Zd,seval,Nat.reduceEqDiff,TTen,TTen,i1,i2,hg,hs0,hs1,e1,e2,Int.toNat_natCast,List.length_map];with_reducible rfl));focus ((with_reducible refine QK ?_);simp only [Zk];kernel_rfl)))
       refine roundK.on (i + 1,true,o ++ [(mP (zn + k),(zf,zg))]) ?_ ?_
       refine ⟨⟨h,(fun h => nomatch h),fun _ => hp.symm,?_⟩,?_⟩
       ·simp;omega
       ·show e.length - (i + 1) < e.length - i;omega
       ·(repeat' (first|with_reducible refine Qn|((with_reducible refine Qr ?_ ?_);focus (first|with_reducible rfl|(simp only [Zz,Nat.reduceBEq];done)|rfl))|((with_reducible refine Qj (o':=?_) ?_ ?_ ?_);rotate_left 1;focus rfl)|((with_reducible refine Qw ?_ ?_);(focus (first|with_reducible rfl|(simp only [Zv,eTe];done)));focus (first|exact id|exact (fun h => nomatch h)|exact (fun _ => rfl)))))
     ·have hs1:=sgn_pos hd
      have hct:0 < cmpTe (xf,xg) (zf,zg):=by rw [hcd,if_pos hc];exact hd
      repeat' (first|with_reducible (first|refine Q1 ?_|refine Q2 ?_|refine Q3 ?_|refine Q4 ?_|refine Q5 ?_|refine Q6 ?_|refine Q7 ?_|refine Q8 ?_|refine Q9 ?_|refine Qa ?_|refine Qb ?_|refine Qc ?_|refine Qd ?_|refine Qe ?_|refine Qf ?_)|((with_reducible refine Qo ?_ ?_);focus rfl)|((with_reducible first|refine QT 10 (l:=?_) ?_ ?_|refine QF 10 (l:=?_) ?_ ?_);rotate_left 1;focus (simp only [Zu,Nat.reduceSub,Nat.reduceBEq];with_reducible rfl))|((with_reducible first|refine QS (cfg_ok 72) TTen (s':=?_) ?_ ?_|refine QC (b:=?_) ?_ ?_);rotate_left 1;focus ((with_reducible refine QW ?_);simp only [Zg,seval,Nat.reduceEqDiff,TTen,TTen,z10,i1,i2,hg,hw,hz0,q1,q2,Int.toNat_natCast,List.length_map];with_reducible rfl))|((with_reducible refine QD (cfg_ok 72) TTen mixed_ok (tr:=?_) (s':=?_) ?_ ?_ ?_);rotate_left 2;(focus ((with_reducible refine QW ?_);simp only [Zg,Zd,seval,Nat.reduceEqDiff,TTen,TTen,i1,i2,hg,hs0,hs1,e1,e2,Int.toNat_natCast,List.length_map];with_reducible rfl));focus ((with_reducible refine QK ?_);simp only [Zk];kernel_rfl)))
      refine roundK.on (i + 1,false,o ++ [(zn,(zf,zg))]) ?_ ?_
      refine ⟨⟨h,fun _ => ⟨hk0,by rw [htk,ho],?_⟩,(fun h => nomatch h),?_⟩,?_⟩
      ·intro q hq
       have hq:q ∈ e.take (i + 1):=hq
       rw [htk,List.mem_append,List.mem_singleton] at hq
       rcases hq with hq|rfl
       ·exact hlow q hq
       ·exact hct
      ·simp;omega
      ·show e.length - (i + 1) < e.length - i;omega
      ·(repeat' (first|with_reducible refine Qn|((with_reducible refine Qr ?_ ?_);focus (first|with_reducible rfl|(simp only [Zz,Nat.reduceBEq];done)|rfl))|((with_reducible refine Qj (o':=?_) ?_ ?_ ?_);rotate_left 1;focus rfl)|((with_reducible refine Qw ?_ ?_);(focus (first|with_reducible rfl|(simp only [Zv,eTe];done)));focus (first|exact id|exact (fun h => nomatch h)|exact (fun _ => rfl)))))
    ·have hs1:=sgn_pos hc
     have hct:0 < cmpTe (xf,xg) (zf,zg):=by rw [hcd,if_neg (by omega)];exact hc
     repeat' (first|with_reducible (first|refine Q1 ?_|refine Q2 ?_|refine Q3 ?_|refine Q4 ?_|refine Q5 ?_|refine Q6 ?_|refine Q7 ?_|refine Q8 ?_|refine Q9 ?_|refine Qa ?_|refine Qb ?_|refine Qc ?_|refine Qd ?_|refine Qe ?_|refine Qf ?_)|((with_reducible refine Qo ?_ ?_);focus rfl)|((with_reducible first|refine QT 10 (l:=?_) ?_ ?_|refine QF 10 (l:=?_) ?_ ?_);rotate_left 1;focus (simp only [Zu,Nat.reduceSub,Nat.reduceBEq];with_reducible rfl))|((with_reducible first|refine QS (cfg_ok 72) TTen (s':=?_) ?_ ?_|refine QC (b:=?_) ?_ ?_);rotate_left 1;focus ((with_reducible refine QW ?_);simp only [Zg,seval,Nat.reduceEqDiff,TTen,TTen,z10,i1,i2,hg,hw,hz0,q1,q2,Int.toNat_natCast,List.length_map];with_reducible rfl))|((with_reducible refine QD (cfg_ok 72) TTen mixed_ok (tr:=?_) (s':=?_) ?_ ?_ ?_);rotate_left 2;(focus ((with_reducible refine QW ?_);simp only [Zg,Zd,seval,Nat.reduceEqDiff,TTen,TTen,i1,i2,hg,hs1,e1,Int.toNat_natCast,List.length_map];with_reducible rfl));focus ((with_reducible refine QK ?_);simp only [Zk];kernel_rfl)))
     refine roundK.on (i + 1,false,o ++ [(zn,(zf,zg))]) ?_ ?_
     refine ⟨⟨h,fun _ => ⟨hk0,by rw [htk,ho],?_⟩,(fun h => nomatch h),?_⟩,?_⟩
     ·intro q hq
      have hq:q ∈ e.take (i + 1):=hq
      rw [htk,List.mem_append,List.mem_singleton] at hq
      rcases hq with hq|rfl
      ·exact hlow q hq
      ·exact hct
     ·simp;omega
     ·show e.length - (i + 1) < e.length - i;omega
     ·(repeat' (first|with_reducible refine Qn|((with_reducible refine Qr ?_ ?_);focus (first|with_reducible rfl|(simp only [Zz,Nat.reduceBEq];done)|rfl))|((with_reducible refine Qj (o':=?_) ?_ ?_ ?_);rotate_left 1;focus rfl)|((with_reducible refine Qw ?_ ?_);(focus (first|with_reducible rfl|(simp only [Zv,eTe];done)));focus (first|exact id|exact (fun h => nomatch h)|exact (fun _ => rfl)))))
  ·have i1:((i:Int) < (e.length:Int)) = False:=eq_false (by omega)
   obtain rfl:i = e.length:=by omega
   repeat' (first|with_reducible (first|refine Q1 ?_|refine Q2 ?_|refine Q3 ?_|refine Q4 ?_|refine Q5 ?_|refine Q6 ?_|refine Q7 ?_|refine Q8 ?_|refine Q9 ?_|refine Qa ?_|refine Qb ?_|refine Qc ?_|refine Qd ?_|refine Qe ?_|refine Qf ?_)|((with_reducible refine Qo ?_ ?_);focus rfl)|((with_reducible first|refine QT 10 (l:=?_) ?_ ?_|refine QF 10 (l:=?_) ?_ ?_);rotate_left 1;focus (simp only [Zu,Nat.reduceSub,Nat.reduceBEq];with_reducible rfl))|((with_reducible first|refine QS (cfg_ok 72) Tab.none (s':=?_) ?_ ?_|refine QC (b:=?_) ?_ ?_);rotate_left 1;focus ((with_reducible refine QW ?_);simp only [Zg,seval,Nat.reduceEqDiff,i1,List.length_map];with_reducible rfl))|((with_reducible refine QD (cfg_ok 72) Tab.none mixed_ok (tr:=?_) (s':=?_) ?_ ?_ ?_);rotate_left 2;(focus ((with_reducible refine QW ?_);simp only [Zg,Zd,seval,if_true,if_false,reduceCtorEq,Nat.reduceEqDiff,i1,List.length_map];with_reducible rfl));focus ((with_reducible refine QK ?_);simp only [Zk];kernel_rfl)))
   refine roundK.out (d,o) ⟨Nat.le_refl _,hno,hyes,hlen⟩ ?_
   (repeat' (first|with_reducible refine Qn|((with_reducible refine Qr ?_ ?_);focus (first|with_reducible rfl|(simp only [Zz,Nat.reduceBEq];done)|rfl))|((with_reducible refine Qj (o':=?_) ?_ ?_ ?_);rotate_left 1;focus rfl)|((with_reducible refine Qw ?_ ?_);(focus (first|with_reducible rfl|(simp only [Zv];done)));focus (first|exact id|exact (fun h => nomatch h)|exact (fun _ => rfl)))))
 ·rintro ⟨d,o⟩ ⟨_,hno,hyes,hlen⟩
  simp only at hno hyes hlen ⊢
  have q1:=big_le (n:=o.length + 1) (by omega)
  have q2:=big_mul (n:=o.length + 1) (c:=56) (by omega) (by omega)
  cases d with
  | true =>
   have hp:putS cmpTe e k (xf,xg) = o:=by rw [← hyes rfl];simp
   rw [hp]
   repeat' (first|with_reducible (first|refine Q1 ?_|refine Q2 ?_|refine Q3 ?_|refine Q4 ?_|refine Q5 ?_|refine Q6 ?_|refine Q7 ?_|refine Q8 ?_|refine Q9 ?_|refine Qa ?_|refine Qb ?_|refine Qc ?_|refine Qd ?_|refine Qe ?_|refine Qf ?_)|((with_reducible refine Qo ?_ ?_);focus rfl)|((with_reducible first|refine QT 10 (l:=?_) ?_ ?_|refine QF 10 (l:=?_) ?_ ?_);rotate_left 1;focus (simp only [Zu,Nat.reduceSub,Nat.reduceBEq];with_reducible rfl))|((with_reducible first|refine QS (cfg_ok 72) Tab.none (s':=?_) ?_ ?_|refine QC (b:=?_) ?_ ?_);rotate_left 1;focus ((with_reducible refine QW ?_);simp only [Zg,seval,Nat.reduceEqDiff];with_reducible rfl))|((with_reducible refine QD (cfg_ok 72) Tab.none mixed_ok (tr:=?_) (s':=?_) ?_ ?_ ?_);rotate_left 2;(focus ((with_reducible refine QW ?_);simp only [Zg,Zd,seval,if_true,if_false,reduceCtorEq,Nat.reduceEqDiff];with_reducible rfl));focus ((with_reducible refine QK ?_);simp only [Zk];kernel_rfl)))
   (refine Ends.mk (by simp) (rs:=?_) (ks:=?_) hres hrts ?_ ?_ ?_;rotate_left 2;(focus (simp only [Ze,Zg,seval,Nat.reduceEqDiff];with_reducible rfl));(focus simp);focus (first|with_reducible rfl|(simp only [Zv];done)))
  | false =>
   obtain ⟨hk0,ho,hlow⟩:=hno rfl
   have hp:putS cmpTe e k (xf,xg) = o ++ [(k,(xf,xg))]:=by
    have h1:=putS_skip hk0 [] hlow
    rw [List.append_nil,List.take_length] at h1
    rw [h1,ho,List.take_length]
    unfold putS;rw [if_neg hk0]
   rw [hp]
   repeat' (first|with_reducible (first|refine Q1 ?_|refine Q2 ?_|refine Q3 ?_|refine Q4 ?_|refine Q5 ?_|refine Q6 ?_|refine Q7 ?_|refine Q8 ?_|refine Q9 ?_|refine Qa ?_|refine Qb ?_|refine Qc ?_|refine Qd ?_|refine Qe ?_|refine Qf ?_)|((with_reducible refine Qo ?_ ?_);focus rfl)|((with_reducible first|refine QT 10 (l:=?_) ?_ ?_|refine QF 10 (l:=?_) ?_ ?_);rotate_left 1;focus (simp only [Zu,Nat.reduceSub,Nat.reduceBEq];with_reducible rfl))|((with_reducible first|refine QS (cfg_ok 72) TTen (s':=?_) ?_ ?_|refine QC (b:=?_) ?_ ?_);rotate_left 1;focus ((with_reducible refine QW ?_);simp only [Zg,seval,Nat.reduceEqDiff,TTen,q1,q2,List.length_map];with_reducible rfl))|((with_reducible refine QD (cfg_ok 72) TTen mixed_ok (tr:=?_) (s':=?_) ?_ ?_ ?_);rotate_left 2;(focus ((with_reducible refine QW ?_);simp only [Zg,Zd,seval,if_true,if_false,reduceCtorEq,Nat.reduceEqDiff,TTen,q1,q2,List.length_map];with_reducible rfl));focus ((with_reducible refine QK ?_);simp only [Zk];kernel_rfl)))
   (refine Ends.mk (by simp) (rs:=?_) (ks:=?_) hres hrts ?_ ?_ ?_;rotate_left 2;(focus (simp only [Ze,Zg,seval,Nat.reduceEqDiff];with_reducible rfl));(focus simp);focus (first|with_reducible rfl|(simp only [Zv,eTe];done)))
end Go.Proofs.YtgngidchldajhaaGreat
namespace Go.Proofs.YtgngidchldajhaaGreat
open Go.RowKit
def RetOC {α:Type} (R:Rep α) (w:World) (x:α) (code:Int):Ending→World→Prop :=
 fun e w' => ∃ u,e = .returned (.tuple #[u,.int .i64 code])∧Own R w.heap.size w'.heap.size w' [u] x∧Below w.heap.size w w'
end Go.Proofs.YtgngidchldajhaaGreat
namespace Go.Proofs.YtgngidchldajhaaGreat
open Go.RowKit
theorem addTs_app (d M N:List (Int × Spl)):addS cmpTe d (M ++ N) = addS cmpTe (addS cmpTe d M) N:=by unfold addS;rw [List.foldl_append]
theorem copM_take {e:Elt} {i:Nat} (h:i < e.length):copM (e.take (i + 1)) = copM (e.take i) ++ copP e[i]:=by
 unfold copM
 rw [List.take_succ_eq_append_getElem h,List.flatMap_append];simp
theorem copP_len {p:Int × List (List Int)} (h:forB p.2 = true):(copP p).length ≤ 256:=by
 unfold copP
 rw [List.length_map]
 have h0:=(gathS_is (prodS (p.2.map split))).len
 rw [List.length_map] at h0
 have h1:=prod_len (forB_lev h) (forB_spec h).1
 omega
theorem copP_ok {p:Int × List (List Int)} (h:forB p.2 = true):∀ q ∈ copP p,(0 ≤ q.1∧q.1 < 10007)∧SmS q.2:=fun q hq => by
 obtain ⟨z,hz,rfl⟩:=List.mem_map.1 hq
 have h1:=(forB_spec h).1
 exact ⟨mP_range _,(((gath_good (prod_good (forB_lev h))) z hz).2.2.ha (by omega)).sm⟩
theorem copM_ok {e:Elt} (h:∀ p ∈ e,forB p.2 = true):∀ q ∈ copM e,(0 ≤ q.1∧q.1 < 10007)∧SmS q.2:=fun q hq => by
 obtain ⟨p,hp,hq⟩:=List.mem_flatMap.1 hq
 exact copP_ok (h p hp) q hq
theorem copM_len:∀ (e:Elt),(∀ p ∈ e,forB p.2 = true)→(copM e).length ≤ 256 * e.length
 | [],_ => by simp [copM]
 | p :: e,h => by
  have h1:=copP_len (h p (by simp))
  have h2:=copM_len e (fun q hq => h q (by simp [hq]))
  unfold copM at h2 ⊢
  rw [List.flatMap_cons,List.length_append,List.length_cons,Nat.mul_succ];omega
instance (L:List (Int × Spl)):Decidable (OkT L):=inferInstanceAs (Decidable (∀ q ∈ L,(1 ≤ q.1∧q.1 < 10007)∧SmS q.2))
noncomputable def TCopS:Tab Tryz.prog :=
 (((Tab.none.add 101 (tab1 codI fun n => some [.val (.int (mP n))]) (tab1_ok fun n rs h => by cases h;exact a_l01Mod n)).add
   100 (tab2 codI codI fun a b => if -9223372036854775808 ≤ a * b∧a * b ≤ 9223372036854775807 then some [.val (.int (mP (a * b)))] else none) (tab2_ok fun a b rs h => by split at h;cases h;rename_i hs;exact a_l01Mul a b hs;cases h)).add
   96 (tab1 codLL fun f => if SmF f then some [.val (.sl 1 (f.map eL))] else none) (tab1_ok fun f rs h => by split at h;cases h;rename_i hs;exact AFn.val1 (a_l01Own2 f (by have:=hs.1;omega) hs.b);cases h)).add
   99 (tab2 (codS 3 codTe) codTe fun L p => if L.length ≤ 1000000∧OkT L∧(0 ≤ p.1∧p.1 < 10007)∧SmS p.2 then some [.val (.sl 3 ((putS cmpTe L p.1 p.2).map eTe))] else none) (tab2_ok fun L p rs h => by
   split at h
   ·rename_i hs
    cases h
    exact a_l06Tensor L p.1 p.2 hs.1 hs.2.1 hs.2.2.1 hs.2.2.2
   ·cases h)
set_option maxRecDepth 20000 in
set_option maxHeartbeats 16000000 in
theorem a_spec_CoproductOf (e:Elt) (hz:szP e):∃ r,(r = .own 3 ((copOf e).1.map eTe) true ∨ r = .own 3 ((copOf e).1.map eTe) false ∨ r = .val (.sl 3 ((copOf e).1.map eTe)))∧AFn Tryz.prog 33 [[.sl 2 (e.map ePt)]] (· = [r,.val (.int (copOf e).2)]):=by
 have h1:=a_l06Is e hz
 unfold copOf
 by_cases hE:elB e = true
 rotate_left
 ·have hE':elB e = false:=by simpa using hE
  rw [if_neg hE]
  rw [hE'] at h1
  refine ⟨.own 3 [] true,.inl rfl,?_⟩
  refine AFn.of_runs (cfg_ok 61) Tryz.func33 rfl rfl rfl (by simp only [List.length_cons,List.length_nil];decide) ?_
  have hres:Tryz.f33.results.toList = [.tmp 2,.tmp 3]:=rfl
  have hrts:Tryz.f33.resultTypes.toList = [61,2]:=rfl
  simp only [argRegs,argAV1,eL,eI,eLL,eB,Nat.zero_add,Nat.reduceAdd]
  intro M
  refine RunK.of ?_
  repeat' (first|with_reducible (first|refine Q1 ?_|refine Q2 ?_|refine Q3 ?_|refine Q4 ?_|refine Q5 ?_|refine Q6 ?_|refine Q7 ?_|refine Q8 ?_|refine Q9 ?_|refine Qa ?_|refine Qb ?_|refine Qc ?_|refine Qd ?_|refine Qe ?_|refine Qf ?_)|((with_reducible refine Qo ?_ ?_);focus rfl)|((with_reducible first|refine QT 8 (l:=?_) ?_ ?_|refine QF 8 (l:=?_) ?_ ?_);rotate_left 1;focus (simp only [Zu,Nat.reduceSub,Nat.reduceBEq];with_reducible rfl))|((with_reducible first|refine QS (cfg_ok 61) (Tab.none.at' 98 h1) (s':=?_) ?_ ?_|refine QC (b:=?_) ?_ ?_);rotate_left 1;focus ((with_reducible refine QW ?_);simp only [Zg,seval,if_true,if_false,reduceCtorEq,Nat.reduceEqDiff];with_reducible rfl))|((with_reducible refine QD (cfg_ok 61) (Tab.none.at' 98 h1) mixed_ok (tr:=?_) (s':=?_) ?_ ?_ ?_);rotate_left 2;(focus ((with_reducible refine QW ?_);simp only [Zg,Zd,seval,if_true,if_false,reduceCtorEq,Nat.reduceEqDiff];with_reducible rfl));focus ((with_reducible refine QK ?_);simp only [Zk];kernel_rfl)))
  (refine Ends.mk (by simp) (rs:=?_) (ks:=?_) hres hrts ?_ ?_ ?_;rotate_left 2;(focus (simp only [Ze,Zg,seval,if_true,if_false,reduceCtorEq,Nat.reduceEqDiff];with_reducible rfl));(focus simp);focus (first|with_reducible rfl|(simp only [Zv];done)))
 rw [hE] at h1
 rw [if_pos hE]
 obtain ⟨hl,_,_,hfo⟩:=elB_spec hE
 have hbd:=(elB_spec hE).2.1.2
 have hML:=copM_len e hfo
 have hpre:∀ i,(sumS cmpTe (copM (e.take i))).length ≤ 100000∧OkT (sumS cmpTe (copM (e.take i))):=fun i => by
  have h2:=copM_len (e.take i) (mem_take hfo)
  have h3:=addT_len (copM (e.take i)) []
  rw [List.length_take] at h2
  simp only [List.length_nil] at h3
  exact ⟨by show (addS cmpTe [] _).length ≤ _;omega,addT_ok OkT.nil (copM_ok (mem_take hfo))⟩
 have main:∀ fin:Bool,decide ((sumS cmpTe (copM e)).length ≤ 600) = fin→AFn Tryz.prog 33 [[.sl 2 (e.map ePt)]] (· = [bif fin then .val (.sl 3 ((sumS cmpTe (copM e)).map eTe)) else .own 3 [] true,.val (.int (bif fin then 0 else 3))]):=by
  intro fin hfin
  refine AFn.of_runs (cfg_ok 61) Tryz.func33 rfl rfl rfl (by simp only [List.length_cons,List.length_nil];decide) ?_
  have hres:Tryz.f33.results.toList = [.tmp 2,.tmp 3]:=rfl
  have hrts:Tryz.f33.resultTypes.toList = [61,2]:=rfl
  simp only [argRegs,argAV1,eL,eI,eLL,eB,Nat.zero_add,Nat.reduceAdd]
  intro M
  refine RunK.of ?_
  repeat' (first|with_reducible (first|refine Q1 ?_|refine Q2 ?_|refine Q3 ?_|refine Q4 ?_|refine Q5 ?_|refine Q6 ?_|refine Q7 ?_|refine Q8 ?_|refine Q9 ?_|refine Qa ?_|refine Qb ?_|refine Qc ?_|refine Qd ?_|refine Qe ?_|refine Qf ?_)|((with_reducible refine Qo ?_ ?_);focus rfl)|((with_reducible first|refine QT 8 (l:=?_) ?_ ?_|refine QF 8 (l:=?_) ?_ ?_);rotate_left 1;focus (simp only [Zu,Nat.reduceSub,Nat.reduceBEq];with_reducible rfl))|((with_reducible first|refine QS (cfg_ok 61) (Tab.none.at' 98 h1) (s':=?_) ?_ ?_|refine QC (b:=?_) ?_ ?_);rotate_left 1;focus ((with_reducible refine QW ?_);simp only [Zg,seval,if_true,if_false,reduceCtorEq,Nat.reduceEqDiff];with_reducible rfl))|((with_reducible refine QD (cfg_ok 61) (Tab.none.at' 98 h1) mixed_ok (tr:=?_) (s':=?_) ?_ ?_ ?_);rotate_left 2;(focus ((with_reducible refine QW ?_);simp only [Zg,Zd,seval,if_true,if_false,reduceCtorEq,Nat.reduceEqDiff];with_reducible rfl));focus ((with_reducible refine QK ?_);simp only [Zk];kernel_rfl)))
  refine RunK.frz 4 ?_
  refine RunK.fits (s0:=⟨[(0,.c (.val (.sl 2 (e.map ePt)))),(4,.c (.val (.sl 3 []))),(5,.c (.val (.int 0)))],[]⟩) ?_ ?_
  ·(repeat' (first|with_reducible refine Qn|((with_reducible refine Qr ?_ ?_);focus (first|with_reducible rfl|(simp only [Zz,Nat.reduceBEq,St.frz,frzR,frzH,look,AV.frz,AC.frz,drop];done)|rfl))|((with_reducible refine Qj (o':=?_) ?_ ?_ ?_);rotate_left 1;focus rfl)|((with_reducible refine Qw ?_ ?_);(focus (first|with_reducible rfl|(simp only [Zv,St.frz,frzR,frzH,look,AV.frz,AC.frz,drop];done)));focus (first|exact id|exact (fun h => nomatch h)|exact (fun _ => rfl)))))
  refine RunK.loop (β:=Nat) (γ:=Unit) (fun i => ⟨[(0,.c (.val (.sl 2 (e.map ePt)))),(4,.c (.val (.sl 3 ((sumS cmpTe (copM (e.take i))).map eTe)))),(5,.c (.val (.int i)))],[]⟩) (fun i => i ≤ e.length) (fun i => e.length - i)
   (fun _ => ⟨[(4,.c (.val (.sl 3 ((sumS cmpTe (copM e)).map eTe))))],[]⟩) (fun _ => True) 0 (Nat.zero_le _) ?_ ?_ ?_
  ·(repeat' (first|with_reducible refine Qn|((with_reducible refine Qr ?_ ?_);focus (first|with_reducible rfl|(simp only [Zz,Nat.reduceBEq,List.take_zero,show copM [] = [] from rfl,show sumS cmpTe [] = [] from rfl,List.map_nil,Int.natCast_zero];done)|rfl))|((with_reducible refine Qj (o':=?_) ?_ ?_ ?_);rotate_left 1;focus rfl)|((with_reducible refine Qw ?_ ?_);(focus (first|with_reducible rfl|(simp only [Zv,List.take_zero,show copM [] = [] from rfl,show sumS cmpTe [] = [] from rfl,List.map_nil,Int.natCast_zero];done)));focus (first|exact id|exact (fun h => nomatch h)|exact (fun _ => rfl)))))
  ·intro i hi
   have hi:i ≤ e.length:=hi
   have hw:=w64_succ (n:=i) (by omega)
   have hle:(e.map ePt).length = e.length:=List.length_map _
   by_cases h:i < e.length
   ·have i1:((i:Int) < (e.length:Int)) = True:=eq_true (by omega)
    have i2:((0:Int) ≤ (i:Int)) = True:=eq_true (by omega)
    obtain ⟨p,hp⟩:∃ p,p = e[i]:=⟨_,rfl⟩
    have hpf:=hfo e[i] (List.getElem_mem _)
    have hpb:=hbd e[i] (List.getElem_mem _)
    have hg:(e.map ePt)[i]? = some [.int p.1,.sl 1 (p.2.map eL)]:=by rw [map_get h,hp];rfl
    have htk:sumS cmpTe (copM (e.take (i + 1))) = addS cmpTe (sumS cmpTe (copM (e.take i))) (copP p):=by
     rw [copM_take h,← hp];exact addTs_app _ _ _
    rw [← hp] at hpf hpb
    have hsm8:=(forB_spec hpf).1
    have hfor:=a_l05Forest_of 8 (fun b a1 a2 a3 => a_l05Tree 8 (Nat.le_refl _) b a1 a2 a3) p.2 (fun b hb => ⟨forB_lev hpf b hb,forB_can hpf b hb,by have:=sumLen_mem hb;omega⟩) hsm8
    have hgood:=gath_good (prod_good (forB_lev hpf))
    have hGl:=copP_len hpf
    have hcok:=copP_ok hpf
    have hcd:copP p = (gathS (prodS (p.2.map split))).map fun z => (mP (p.1 * z.2),z.1):=rfl
    have hpl:=prod_len (forB_lev hpf) hsm8
    obtain ⟨G,hG⟩:∃ G,G = gathS (prodS (p.2.map split)):=⟨_,rfl⟩
    rw [← hG] at hfor hgood hcd
    obtain ⟨r1,r2⟩:=hpre i
    obtain ⟨R,hR⟩:∃ R,R = sumS cmpTe (copM (e.take i)):=⟨_,rfl⟩
    rw [← hR] at htk r1 r2 ⊢
    simp only [eLL] at hfor
    have hGm:(G.map eSp).length = G.length:=List.length_map _
    have hGn:G.length ≤ 256:=by rw [hcd,List.length_map] at hGl;exact hGl
    repeat' (first|with_reducible (first|refine Q1 ?_|refine Q2 ?_|refine Q3 ?_|refine Q4 ?_|refine Q5 ?_|refine Q6 ?_|refine Q7 ?_|refine Q8 ?_|refine Q9 ?_|refine Qa ?_|refine Qb ?_|refine Qc ?_|refine Qd ?_|refine Qe ?_|refine Qf ?_)|((with_reducible refine Qo ?_ ?_);focus rfl)|((with_reducible first|refine QT 8 (l:=?_) ?_ ?_|refine QF 8 (l:=?_) ?_ ?_);rotate_left 1;focus (simp only [Zu,Nat.reduceSub,Nat.reduceBEq];with_reducible rfl))|((with_reducible first|refine QS (cfg_ok 61) (Tab.none.at' 95 hfor) (s':=?_) ?_ ?_|refine QC (b:=?_) ?_ ?_);rotate_left 1;focus ((with_reducible refine QW ?_);simp only [Zg,seval,if_true,if_false,reduceCtorEq,Nat.reduceEqDiff,i1,i2,hg,hle,Int.toNat_natCast];with_reducible rfl))|((with_reducible refine QD (cfg_ok 61) (Tab.none.at' 95 hfor) mixed_ok (tr:=?_) (s':=?_) ?_ ?_ ?_);rotate_left 2;(focus ((with_reducible refine QW ?_);simp only [Zg,Zd,seval,if_true,if_false,reduceCtorEq,Nat.reduceEqDiff,i1,i2,hg,hle,Int.toNat_natCast];with_reducible rfl));focus ((with_reducible refine QK ?_);simp only [Zk];kernel_rfl)))
    refine RunK.loop (β:=Nat) (γ:=Unit) (fun j => ⟨[(0,.c (.val (.sl 2 (e.map ePt)))),(4,.c (.val (.sl 3 ((addS cmpTe R ((copP p).take j)).map eTe)))),(5,.c (.val (.int i))),(6,.c (.val (.sl 3 (G.map eSp)))),(7,.c (.val (.int j)))],[]⟩) (fun j => j ≤ G.length) (fun j => G.length - j)
     (fun _ => ⟨[(0,.c (.val (.sl 2 (e.map ePt)))),(4,.c (.val (.sl 3 ((addS cmpTe R (copP p)).map eTe)))),(5,.c (.val (.int i)))],[]⟩) (fun _ => True) 0 (Nat.zero_le _) ?_ ?_ ?_
    ·(repeat' (first|with_reducible refine Qn|((with_reducible refine Qr ?_ ?_);focus (first|with_reducible rfl|(simp only [Zz,Nat.reduceBEq,List.take_zero,show addS cmpTe R [] = R from rfl,Int.natCast_zero];done)|rfl))|((with_reducible refine Qj (o':=?_) ?_ ?_ ?_);rotate_left 1;focus rfl)|((with_reducible refine Qw ?_ ?_);(focus (first|with_reducible rfl|(simp only [Zv,List.take_zero,show addS cmpTe R [] = R from rfl,Int.natCast_zero];done)));focus (first|exact id|exact (fun h => nomatch h)|exact (fun _ => rfl)))))
    ·intro j hj
     have hj:j ≤ G.length:=hj
     have hwj:=w64_succ (n:=j) (by omega)
     by_cases g:j < G.length
     ·have j1:((j:Int) < (G.length:Int)) = True:=eq_true (by omega)
      have j2:((0:Int) ≤ (j:Int)) = True:=eq_true (by omega)
      obtain ⟨z,hz⟩:∃ z,z = G[j]:=⟨_,rfl⟩
      obtain ⟨z1,z2,z3⟩:=hgood G[j] (List.getElem_mem _)
      have hgz:(G.map eSp)[j]? = some [.sl 1 (z.1.1.map eL),.sl 1 (z.1.2.map eL),.int z.2]:=by rw [map_get g,hz];rfl
      have hgc:j < (copP p).length:=by rw [hcd,List.length_map];exact g
      have hst:addS cmpTe R ((copP p).take (j + 1)) = putS cmpTe (addS cmpTe R ((copP p).take j)) (mP (p.1 * z.2)) z.1:=by
       rw [List.take_succ_eq_append_getElem hgc,addT_snoc]
       simp only [hcd,List.getElem_map,← hz]
      rw [← hz] at z1 z2 z3
      have hha:=(z3.ha (by omega)).sm
      have hK1:(addS cmpTe R ((copP p).take j)).length ≤ 1000000:=by
       have h4:=addT_len ((copP p).take j) R
       rw [List.length_take] at h4;omega
      have hK2:OkT (addS cmpTe R ((copP p).take j)):=addT_ok r2 (fun q hq => hcok q (List.mem_of_mem_take hq))
      obtain ⟨K,hK⟩:∃ K,K = addS cmpTe R ((copP p).take j):=⟨_,rfl⟩
      rw [← hK] at hst hK1 hK2 ⊢
      have hmz:=mP_small (n:=z.2) (by omega) (by omega)
      have hb0:0 ≤ p.1 * z.2∧p.1 * z.2 ≤ 100140049:=by
       refine ⟨Int.mul_nonneg (by omega) (by omega),?_⟩
       have h5:=Int.mul_le_mul (show p.1 ≤ 10007 by omega) (show z.2 ≤ 10007 by omega) (by omega) (by decide)
       omega
      have t1:=eq_true (show -9223372036854775808 ≤ p.1 * z.2∧p.1 * z.2 ≤ 9223372036854775807 by omega)
      have t2:=eq_true hha.1
      have t3:=eq_true hha.2
      have t4:=eq_true (And.intro hK1 (And.intro hK2 (And.intro (mP_range (p.1 * z.2)) (show SmS (z.1.1,z.1.2) from hha))))
      repeat' (first|with_reducible (first|refine Q1 ?_|refine Q2 ?_|refine Q3 ?_|refine Q4 ?_|refine Q5 ?_|refine Q6 ?_|refine Q7 ?_|refine Q8 ?_|refine Q9 ?_|refine Qa ?_|refine Qb ?_|refine Qc ?_|refine Qd ?_|refine Qe ?_|refine Qf ?_)|((with_reducible refine Qo ?_ ?_);focus rfl)|((with_reducible first|refine QT 8 (l:=?_) ?_ ?_|refine QF 8 (l:=?_) ?_ ?_);rotate_left 1;focus (simp only [Zu,Nat.reduceSub,Nat.reduceBEq];with_reducible rfl))|((with_reducible first|refine QS (cfg_ok 61) TCopS (s':=?_) ?_ ?_|refine QC (b:=?_) ?_ ?_);rotate_left 1;focus ((with_reducible refine QW ?_);simp only [Zg,seval,if_true,if_false,reduceCtorEq,Nat.reduceEqDiff,TCopS,TCopS,codTe_d,codTes_d,i1,i2,j1,j2,hg,hgz,hwj,hle,hGm,hmz,t1,t2,t3,t4,Int.toNat_natCast];with_reducible rfl))|((with_reducible refine QD (cfg_ok 61) TCopS mixed_ok (tr:=?_) (s':=?_) ?_ ?_ ?_);rotate_left 2;(focus ((with_reducible refine QW ?_);simp only [Zg,Zd,seval,if_true,if_false,reduceCtorEq,Nat.reduceEqDiff,TCopS,TCopS,codTe_d,codTes_d,i1,i2,j1,j2,hg,hgz,hwj,hle,hGm,hmz,t1,t2,t3,t4,Int.toNat_natCast];with_reducible rfl));focus ((with_reducible refine QK ?_);simp only [Zk];kernel_rfl)))
      refine roundK.on (j + 1) ⟨g,by omega⟩ ?_
      rw [hst]
      (repeat' (first|with_reducible refine Qn|((with_reducible refine Qr ?_ ?_);focus (first|with_reducible rfl|(simp only [Zz,Nat.reduceBEq];done)|rfl))|((with_reducible refine Qj (o':=?_) ?_ ?_ ?_);rotate_left 1;focus rfl)|((with_reducible refine Qw ?_ ?_);(focus (first|with_reducible rfl|(simp only [Zv];done)));focus (first|exact id|exact (fun h => nomatch h)|exact (fun _ => rfl)))))
     ·have j1:((j:Int) < (G.length:Int)) = False:=eq_false (by omega)
      obtain rfl:j = G.length:=by omega
      have hall:(copP p).take G.length = copP p:=List.take_of_length_le (by rw [hcd,List.length_map];exact Nat.le_refl _)
      rw [hall]
      repeat' (first|with_reducible (first|refine Q1 ?_|refine Q2 ?_|refine Q3 ?_|refine Q4 ?_|refine Q5 ?_|refine Q6 ?_|refine Q7 ?_|refine Q8 ?_|refine Q9 ?_|refine Qa ?_|refine Qb ?_|refine Qc ?_|refine Qd ?_|refine Qe ?_|refine Qf ?_)|((with_reducible refine Qo ?_ ?_);focus rfl)|((with_reducible first|refine QT 8 (l:=?_) ?_ ?_|refine QF 8 (l:=?_) ?_ ?_);rotate_left 1;focus (simp only [Zu,Nat.reduceSub,Nat.reduceBEq];with_reducible rfl))|((with_reducible first|refine QS (cfg_ok 61) Tab.none (s':=?_) ?_ ?_|refine QC (b:=?_) ?_ ?_);rotate_left 1;focus ((with_reducible refine QW ?_);simp only [Zg,seval,if_true,if_false,reduceCtorEq,Nat.reduceEqDiff,j1,hGm];with_reducible rfl))|((with_reducible refine QD (cfg_ok 61) Tab.none mixed_ok (tr:=?_) (s':=?_) ?_ ?_ ?_);rotate_left 2;(focus ((with_reducible refine QW ?_);simp only [Zg,Zd,seval,if_true,if_false,reduceCtorEq,Nat.reduceEqDiff,j1,hGm];with_reducible rfl));focus ((with_reducible refine QK ?_);simp only [Zk];kernel_rfl)))
      refine roundK.out () trivial ?_
      (repeat' (first|with_reducible refine Qn|((with_reducible refine Qr ?_ ?_);focus (first|with_reducible rfl|(simp only [Zz,Nat.reduceBEq];done)|rfl))|((with_reducible refine Qj (o':=?_) ?_ ?_ ?_);rotate_left 1;focus rfl)|((with_reducible refine Qw ?_ ?_);(focus (first|with_reducible rfl|(simp only [Zv];done)));focus (first|exact id|exact (fun h => nomatch h)|exact (fun _ => rfl)))))
    ·rintro _ _
     repeat' (first|with_reducible (first|refine Q1 ?_|refine Q2 ?_|refine Q3 ?_|refine Q4 ?_|refine Q5 ?_|refine Q6 ?_|refine Q7 ?_|refine Q8 ?_|refine Q9 ?_|refine Qa ?_|refine Qb ?_|refine Qc ?_|refine Qd ?_|refine Qe ?_|refine Qf ?_)|((with_reducible refine Qo ?_ ?_);focus rfl)|((with_reducible first|refine QT 8 (l:=?_) ?_ ?_|refine QF 8 (l:=?_) ?_ ?_);rotate_left 1;focus (simp only [Zu,Nat.reduceSub,Nat.reduceBEq];with_reducible rfl))|((with_reducible first|refine QS (cfg_ok 61) Tab.none (s':=?_) ?_ ?_|refine QC (b:=?_) ?_ ?_);rotate_left 1;focus ((with_reducible refine QW ?_);simp only [Zg,seval,if_true,if_false,reduceCtorEq,Nat.reduceEqDiff,hw];with_reducible rfl))|((with_reducible refine QD (cfg_ok 61) Tab.none mixed_ok (tr:=?_) (s':=?_) ?_ ?_ ?_);rotate_left 2;(focus ((with_reducible refine QW ?_);simp only [Zg,Zd,seval,if_true,if_false,reduceCtorEq,Nat.reduceEqDiff,hw];with_reducible rfl));focus ((with_reducible refine QK ?_);simp only [Zk];kernel_rfl)))
     refine roundK.on (i + 1) ⟨h,by omega⟩ ?_
     rw [htk]
     (repeat' (first|with_reducible refine Qn|((with_reducible refine Qr ?_ ?_);focus (first|with_reducible rfl|(simp only [Zz,Nat.reduceBEq];done)|rfl))|((with_reducible refine Qj (o':=?_) ?_ ?_ ?_);rotate_left 1;focus rfl)|((with_reducible refine Qw ?_ ?_);(focus (first|with_reducible rfl|(simp only [Zv];done)));focus (first|exact id|exact (fun h => nomatch h)|exact (fun _ => rfl)))))
   ·have i1:((i:Int) < (e.length:Int)) = False:=eq_false (by omega)
    obtain rfl:i = e.length:=by omega
    rw [List.take_length]
    repeat' (first|with_reducible (first|refine Q1 ?_|refine Q2 ?_|refine Q3 ?_|refine Q4 ?_|refine Q5 ?_|refine Q6 ?_|refine Q7 ?_|refine Q8 ?_|refine Q9 ?_|refine Qa ?_|refine Qb ?_|refine Qc ?_|refine Qd ?_|refine Qe ?_|refine Qf ?_)|((with_reducible refine Qo ?_ ?_);focus rfl)|((with_reducible first|refine QT 8 (l:=?_) ?_ ?_|refine QF 8 (l:=?_) ?_ ?_);rotate_left 1;focus (simp only [Zu,Nat.reduceSub,Nat.reduceBEq];with_reducible rfl))|((with_reducible first|refine QS (cfg_ok 61) Tab.none (s':=?_) ?_ ?_|refine QC (b:=?_) ?_ ?_);rotate_left 1;focus ((with_reducible refine QW ?_);simp only [Zg,seval,if_true,if_false,reduceCtorEq,Nat.reduceEqDiff,i1,hle];with_reducible rfl))|((with_reducible refine QD (cfg_ok 61) Tab.none mixed_ok (tr:=?_) (s':=?_) ?_ ?_ ?_);rotate_left 2;(focus ((with_reducible refine QW ?_);simp only [Zg,Zd,seval,if_true,if_false,reduceCtorEq,Nat.reduceEqDiff,i1,hle];with_reducible rfl));focus ((with_reducible refine QK ?_);simp only [Zk];kernel_rfl)))
    refine roundK.out () trivial ?_
    (repeat' (first|with_reducible refine Qn|((with_reducible refine Qr ?_ ?_);focus (first|with_reducible rfl|(simp only [Zz,Nat.reduceBEq];done)|rfl))|((with_reducible refine Qj (o':=?_) ?_ ?_ ?_);rotate_left 1;focus rfl)|((with_reducible refine Qw ?_ ?_);(focus (first|with_reducible rfl|(simp only [Zv];done)));focus (first|exact id|exact (fun h => nomatch h)|exact (fun _ => rfl)))))
  ·rintro _ _
   cases fin with
   | true =>
    have hb:=of_decide_eq_true hfin
    have j1:(((sumS cmpTe (copM e)).length:Int) > 600) = False:=eq_false (by omega)
    repeat' (first|with_reducible (first|refine Q1 ?_|refine Q2 ?_|refine Q3 ?_|refine Q4 ?_|refine Q5 ?_|refine Q6 ?_|refine Q7 ?_|refine Q8 ?_|refine Q9 ?_|refine Qa ?_|refine Qb ?_|refine Qc ?_|refine Qd ?_|refine Qe ?_|refine Qf ?_)|((with_reducible refine Qo ?_ ?_);focus rfl)|((with_reducible first|refine QT 8 (l:=?_) ?_ ?_|refine QF 8 (l:=?_) ?_ ?_);rotate_left 1;focus (simp only [Zu,Nat.reduceSub,Nat.reduceBEq];with_reducible rfl))|((with_reducible first|refine QS (cfg_ok 61) Tab.none (s':=?_) ?_ ?_|refine QC (b:=?_) ?_ ?_);rotate_left 1;focus ((with_reducible refine QW ?_);simp only [Zg,seval,if_true,if_false,reduceCtorEq,Nat.reduceEqDiff,j1,List.length_map];with_reducible rfl))|((with_reducible refine QD (cfg_ok 61) Tab.none mixed_ok (tr:=?_) (s':=?_) ?_ ?_ ?_);rotate_left 2;(focus ((with_reducible refine QW ?_);simp only [Zg,Zd,seval,if_true,if_false,reduceCtorEq,Nat.reduceEqDiff,j1,List.length_map];with_reducible rfl));focus ((with_reducible refine QK ?_);simp only [Zk];kernel_rfl)))
    (refine Ends.mk (by simp) (rs:=?_) (ks:=?_) hres hrts ?_ ?_ ?_;rotate_left 2;(focus (simp only [Ze,Zg,seval,if_true,if_false,reduceCtorEq,Nat.reduceEqDiff,cond_true];with_reducible rfl));(focus simp);focus (first|with_reducible rfl|(simp only [Zv,cond_true];done)))
   | false =>
    have hb:=of_decide_eq_false hfin
    have j1:(((sumS cmpTe (copM e)).length:Int) > 600) = True:=eq_true (by omega)
    repeat' (first|with_reducible (first|refine Q1 ?_|refine Q2 ?_|refine Q3 ?_|refine Q4 ?_|refine Q5 ?_|refine Q6 ?_|refine Q7 ?_|refine Q8 ?_|refine Q9 ?_|refine Qa ?_|refine Qb ?_|refine Qc ?_|refine Qd ?_|refine Qe ?_|refine Qf ?_)|((with_reducible refine Qo ?_ ?_);focus rfl)|((with_reducible first|refine QT 8 (l:=?_) ?_ ?_|refine QF 8 (l:=?_) ?_ ?_);rotate_left 1;focus (simp only [Zu,Nat.reduceSub,Nat.reduceBEq];with_reducible rfl))|((with_reducible first|refine QS (cfg_ok 61) Tab.none (s':=?_) ?_ ?_|refine QC (b:=?_) ?_ ?_);rotate_left 1;focus ((with_reducible refine QW ?_);simp only [Zg,seval,if_true,if_false,reduceCtorEq,Nat.reduceEqDiff,j1,List.length_map];with_reducible rfl))|((with_reducible refine QD (cfg_ok 61) Tab.none mixed_ok (tr:=?_) (s':=?_) ?_ ?_ ?_);rotate_left 2;(focus ((with_reducible refine QW ?_);simp only [Zg,Zd,seval,if_true,if_false,reduceCtorEq,Nat.reduceEqDiff,j1,List.length_map];with_reducible rfl));focus ((with_reducible refine QK ?_);simp only [Zk];kernel_rfl)))
    (refine Ends.mk (by simp) (rs:=?_) (ks:=?_) hres hrts ?_ ?_ ?_;rotate_left 2;(focus (simp only [Ze,Zg,seval,if_true,if_false,reduceCtorEq,Nat.reduceEqDiff,cond_false,List.map_nil];with_reducible rfl));(focus simp);focus (first|with_reducible rfl|(simp only [Zv,cond_false,List.map_nil];done)))
 by_cases h6:(sumS cmpTe (copM e)).length ≤ 600
 ·rw [if_pos h6]
  exact ⟨_,.inr (.inr rfl),main true (decide_eq_true h6)⟩
 ·rw [if_neg h6]
  exact ⟨.own 3 [] true,.inl rfl,main false (decide_eq_false h6)⟩
end Go.Proofs.YtgngidchldajhaaGreat
namespace Go.Proofs.YtgngidchldajhaaGreat
def fIdx {α:Type} (p:α→Bool):List α→Option Nat
 | [] => none
 | x :: xs => if p x then some 0 else (fIdx p xs).map (· + 1)
def idxI (o:Option Nat):Int:=match o with|some i => i|none => -1
theorem fIdx_none {α:Type} {p:α→Bool}:∀ {xs:List α},fIdx p xs = none ↔ ∀ x ∈ xs,p x = false
 | [] => by simp [fIdx]
 | x :: xs => by
  unfold fIdx
  by_cases h:p x = true
  ·simp [h]
  ·have h':p x = false:=by simpa using h
   simp only [h,Bool.false_eq_true,if_false,Option.map_eq_none_iff,fIdx_none (xs:=xs)]
   simp [h']
theorem fIdx_some {α:Type} {p:α→Bool}:∀ {xs:List α} {i:Nat},fIdx p xs = some i→∃ h:i < xs.length,p xs[i] = true∧∀ x ∈ xs.take i,p x = false
 | x :: xs,i,h => by
  unfold fIdx at h
  by_cases hx:p x = true
  ·rw [if_pos hx] at h;cases h
   exact ⟨by simp,hx,by simp⟩
  ·rw [if_neg hx] at h
   obtain ⟨j,hj,rfl⟩:=map_some h
   obtain ⟨h1,h2,h3⟩:=fIdx_some hj
   refine ⟨by simpa using h1,h2,fun y hy => ?_⟩
   rw [List.take_succ_cons,List.mem_cons] at hy
   rcases hy with rfl|hy
   ·simpa using hx
   ·exact h3 y hy
theorem fIdx_at {α:Type} {p:α→Bool}:∀ {xs:List α} {i:Nat} (h:i < xs.length),p xs[i] = true→(∀ x ∈ xs.take i,p x = false)→fIdx p xs = some i
 | x :: xs,0,_,h1,_ => by
  have h1:p x = true:=h1
  unfold fIdx;rw [if_pos h1]
 | x :: xs,i + 1,h,h1,h2 => by
  unfold fIdx
  have hx:p x = false:=h2 x (by simp)
  rw [if_neg (by simp [hx]),fIdx_at (xs:=xs) (i:=i) (by simpa using h) h1 (fun y hy => h2 y (by simp [hy]))]
  rfl
def keepF {α:Type} (p:α→Bool) (xs:List α):List α:=xs.filter fun x => !p x
end Go.Proofs.YtgngidchldajhaaGreat
namespace Go.Proofs.YtgngidchldajhaaGreat
open Go.RowKit
def PlainC:List D→List D→Prop
 | [],x' => x' = []
 | x :: xs,x' => ∃ y ys,x' = y :: ys∧(isSl x = false→y = x)∧PlainC xs ys
def PlainL:List (List D)→List (List D)→Prop
 | [],x' => x' = []
 | x :: xs,x' => ∃ y ys,x' = y :: ys∧PlainC x y∧PlainL xs ys
theorem tagC_of' {A:Nat→Prop} {w:World}:∀ {x:List D} {cs:List Value} {F:List Nat},ownCs w cs x F→(∀ b ∈ F,A b)→∃ x',TagC x x' F∧PlainC x x'∧rdCs A w cs x'
 | [],cs,F,h,_ => by
  obtain ⟨d,h1,h2⟩:=h
  exact ⟨[],⟨rfl,h2⟩,rfl,by rw [h1];exact rdCs.nil⟩
 | x :: xs,cs,F,h,hA => by
  obtain ⟨v,us,G,H,rfl,rfl,h1,h2⟩:=h.cons_inv
  obtain ⟨ys,h3,h5,h4⟩:=tagC_of' h2 (fun b hb => hA b (List.mem_append_right _ hb))
  cases hx:isSl x with
  | true =>
   exact ⟨.tag G x :: ys,⟨_,_,G,H,rfl,rfl,.inl rfl,h3⟩,⟨_,_,rfl,(fun e => by rw [hx] at e;cases e),h5⟩,rdCs.cons (rdV_tag.2 ⟨fun b hb => hA b (List.mem_append_left _ hb),h1⟩) h4⟩
  | false =>
   have hG:=ownV_scal_nil hx h1
   subst hG
   exact ⟨x :: ys,⟨_,_,[],H,rfl,rfl,.inr ⟨hx,rfl,rfl⟩,h3⟩,⟨_,_,rfl,(fun _ => rfl),h5⟩,rdCs.cons (h1.rd.mono (fun b hb _ => by cases hb)) h4⟩
theorem tagL_of' {A:Nat→Prop} {w:World} {k:Nat} (hk:0 < k):∀ {xs:List (List D)} {ds:List Value} {F:List Nat},ownR k w ds xs F→(∀ b ∈ F,A b)→∃ xs',TagL xs xs' F∧PlainL xs xs'∧rdR k A w ds xs'
 | [],ds,F,h,_ => by
  obtain ⟨d,_,h1,h2⟩:=h
  exact ⟨[],⟨rfl,h2⟩,rfl,by rw [h1];exact rdR.nil hk⟩
 | x :: xs,ds,F,h,hA => by
  obtain ⟨c,e,G,H,rfl,rfl,hx,hc,h1,h2⟩:=h.cons_inv
  obtain ⟨y,k1,k5,k2⟩:=tagC_of' h1 (fun b hb => hA b (List.mem_append_left _ hb))
  obtain ⟨ys,k3,k6,k4⟩:=tagL_of' hk h2 (fun b hb => hA b (List.mem_append_right _ hb))
  exact ⟨y :: ys,⟨y,ys,G,H,rfl,rfl,k1,k3⟩,⟨_,_,rfl,k5,k6⟩,(rdR.single hk (by rw [k1.len,hx]) k2).append k4⟩
section
variable {P:Program} {cfg:Cfg} {M:Nat→Prop} {ops:Array Oper} {s:St} {w0:W0} {w:World} {Ok:Nat→Prop} {N:Nat} {σ:Asg} {a:Act} {fs:List Fr} {Q:Exit→St→Prop}
theorem Sim.tagO' (h:Sim w0 Ok N σ s a w) {key k:Nat} {xs:List (List D)} (hk:look key s.heap = some (.row k xs true)) :
  ∃ xs' F,TagL xs xs' F∧PlainL xs xs'∧F.Nodup∧(∀ b ∈ F,w0.mine b)∧Sim w0 Ok N σ ⟨s.regs,insR key (.row k xs' false) s.heap⟩ a w:=by
 have hro:=h.rows key _ hk
 obtain ⟨ds,hrow,hkp,hel⟩:=hro.row
 have hel:ownR k w ds xs (σ.F key):=hel
 have hfp:fp σ key (.row k xs true) = (σ.g key).toList ++ σ.F key:=rfl
 obtain ⟨xs',ht,hpl,hrd⟩:=tagL_of' (A:=Zn σ s.heap w) hkp hel (RowOK.Fz h.ok1 h.rows h.disj hk rfl)
 refine ⟨xs',σ.F key,ht,hpl,?_,fun b hb => hro.fresh b (by rw [hfp];exact List.mem_append_right _ hb),?_⟩
 ·have:=hro.nodup;rw [hfp] at this;exact (List.nodup_append.1 this).2.1
 have hl:∀ q o',look q (insR key (.row k xs' false) s.heap) = some o'→∃ o,look q s.heap = some o∧o.k = o'.k∧o.len = o'.len∧(∀ b ∈ fp σ q o',b ∈ fp σ q o)∧(q = key∧o' = .row k xs' false ∨ q ≠ key∧o' = o):=by
  intro q o' ho'
  rw [look_ins] at ho'
  split at ho'
  ·rename_i e
   subst e
   cases ho'
   refine ⟨_,hk,rfl,ht.len.symm,fun b hb => ?_,.inl ⟨rfl,rfl⟩⟩
   have hb:b ∈ (σ.g key).toList ++ []:=hb
   rw [hfp]
   rw [List.append_nil] at hb
   exact List.mem_append_left _ hb
  ·rename_i e
   exact ⟨o',ho',rfl,rfl,fun _ hb => hb,.inr ⟨fun e' => e e'.symm,rfl⟩⟩
 have hZ:Kept σ σ s.heap (insR key (.row k xs' false) s.heap) w w:=fun b hb => ⟨⟨hb.1,hb.2.1,fun q o' ho' => by obtain ⟨o,ho,_⟩:=hl q o' ho';exact hb.2.2 q o ho⟩,rfl⟩
 have hst:∀ q,Stays σ σ s.heap (insR key (.row k xs' false) s.heap) q:=fun q o' ho' => by obtain ⟨o,ho,h1,h2,_⟩:=hl q o' ho';exact ⟨o,ho,h1,h2,rfl,rfl⟩
 refine h.step rfl h.below hZ (fun r av hr => ⟨av,hr,.inl ⟨rfl,fun q _ => hst q⟩⟩) (fun q o' ho' => ?_) (fun p o1 q u hp hq hpq b hb hb' => ?_)
 ·obtain ⟨o,ho,h1,h2,h3,h4⟩:=hl q o' ho'
  rcases h4 with ⟨rfl,rfl⟩|⟨hq,rfl⟩
  ·obtain rfl:o = .row k xs true:=by rw [hk] at ho;cases ho;rfl
   refine ⟨⟨ds,?_,hkp,?_⟩,fun b hb => hro.fresh b (h3 b hb),?_⟩
   ·show Row w (slv (σ.g q) xs'.length (σ.cap q)) k xs'.length ds (σ.g q)
    rw [ht.len];exact hrow
   ·show rdR k _ w ds xs'
    exact hrd.mono (fun b hb _ => (hZ b hb).1)
   ·have hn:=hro.nodup
    rw [hfp] at hn
    show ((σ.g q).toList ++ []).Nodup
    rw [List.append_nil]
    exact (List.nodup_append.1 hn).1
  ·exact RowOK.keep h.ok1 h.rows h.disj ho hZ (fun q' _ => hst q') rfl rfl rfl (fun _ _ => rfl)
 ·obtain ⟨o2,ho2,_,_,h3,_⟩:=hl p o1 hp
  obtain ⟨u2,hu2,_,_,h4,_⟩:=hl q u hq
  exact h.disj p o2 q u2 ho2 hu2 hpq b (h3 b hb) (h4 b hb')
theorem RunK.tag' {c:Code} (key:Nat) {k:Nat} {xs:List (List D)} (hk:look key s.heap = some (.row k xs true)) (h:∀ xs' F,TagL xs xs' F→PlainL xs xs'→F.Nodup→(∀ b ∈ F,M b)→RunK P cfg M c fs Q ⟨s.regs,insR key (.row k xs' false) s.heap⟩):RunK P cfg M c fs Q s:=by
 intro w0 Ok σ a w Q' hM hS hQ
 obtain ⟨xs',F,h1,h5,h2,h3,h4⟩:=Sim.tagO' hS hk
 exact h xs' F h1 h5 h2 (fun b hb => hM ▸ h3 b hb) w0 Ok σ a w Q' hM h4 hQ
end
section
variable {P:Program} {cfg:Cfg} {M:Nat→Prop} {ops:Array Oper} {s:St}
theorem ROps.callEf (C:CfgOK P cfg) {o:Oper} {l:List Oper} {Q:St→Prop} (hg:o.guard = none) {d:Nat} (hod:o.dst = some d) (hdN:d < cfg.N) {f:Operand} {args:Array Operand} {ts:Array TypeId} {g:FuncId}
  (ho:o.op = .call ⟨.value f,args,ts⟩) (hf:((opv s.regs f).bind avD).bind fnId = some g) {x:Operand} {xpost:List Operand} {tpost:List TypeId} (ha:args.toList = x :: xpost) {t0:TypeId} (hts:ts.toList = t0 :: tpost) {post:List (List D)}
  (hpost:aargs cfg (fun k => look k s.heap) s.regs xpost tpost = some post) (hr2:opRefs s.regs xpost = []) {key n k:Nat} {xs:List (List D)} (hxv:opv s.regs x = some (.c (.own key n))) (hk:look key s.heap = some (.row k xs false))
  (hnr:∀ q u,q ≠ key→look q s.heap = some u→key ∉ u.refs) {Q0:List Res→Option (List (List D))→Prop} (hfn:AEf P g false [] k xs post Q0) {R:List (List D)→Prop} (hQ0:∀ rs oc,Q0 rs oc→rs = []∧∃ ys,oc = some ys∧R ys)
  (h:∀ ys,R ys→ROps P cfg M ops l Q ⟨insR d (.tup []) s.regs,insR key (.row k ys false) s.heap⟩):ROps P cfg M ops (o :: l) Q s:=by
 intro w0 Ok σ a w Q' hM hS hQ
 refine wpList_step (fun K hK => ?_)
 have hw:awanted ops s.regs o = some true:=by unfold awanted;rw [hg]
 rw [awanted_spec hS hw]
 simp only [if_true]
 refine n_callE C hS ho hf (ptr:=false) (xpre:=[]) (tpre:=[]) (pre:=[]) (by rw [ha];rfl) rfl hpost rfl hr2 hxv hk (fun e => nomatch e) hnr hfn (dk:=d) (fun rs oc hq q ob hl => ?_) (fun rs oc hq v w' σ' hv hS' => ?_)
 ·obtain ⟨rfl,_⟩:=hQ0 _ _ hq
  cases hl
 ·obtain ⟨rfl,ys,rfl,hR⟩:=hQ0 _ _ hq
  rw [hod]
  have hsub:∀ q o',look q (insR key (.row k ys false) s.heap) = some o'→look q (heapE key k (some ys) [] s.heap) = some o':=by
   intro q o' hq
   rw [look_ins] at hq
   unfold heapE
   rw [List.nil_append,look_append,look_left]
   simp only
   by_cases e:key = q
   ·rw [if_pos e];rw [if_pos e] at hq;exact hq
   ·rw [if_neg e]
    rw [if_neg e] at hq
    rw [look_drop,if_neg (fun h => e h.symm)]
    exact hq
  have hR':Sim w0 Ok cfg.N σ' ⟨s.regs,heapE key k (some ys) [] s.heap⟩ a w':=hS'
  exact hK _ _ (h ys hR w0 Ok σ' _ _ Q' hM (Sim.ins (hR'.forget (fun _ _ h => h) hsub) hdN (hv.sub hsub)) hQ)
end
end Go.Proofs.YtgngidchldajhaaGreat
namespace Go.Proofs
open Go.Shelf
end Go.Proofs
namespace Go.Proofs.YtgngidchldajhaaGreat
open Go.RowKit
section
variable {α:Type} [Inhabited α] (enc:α→List Value) (k:Nat) (w:World) (blk m:Nat) (dk:Array α) (os:Array Go.Obj)
end
abbrev PtC (A:Nat→Prop) (w:World):Type:={ x:(Int × Value) × List (List Int) // In64 x.1.1∧(RS (RS RI)).rd A w [x.1.2] x.2∧sumLen x.2 ≤ 1000000 }
instance (A:Nat→Prop) (w:World):Inhabited (PtC A w):=⟨⟨((0,.slice none 0 0),[]),by show In64 0;unfold In64;omega,⟨none,0,[],rfl,Nat.le_refl _,by decide,fun _ => rfl,rfl,.inl rfl⟩,by simp [sumLen]⟩⟩
end Go.Proofs.YtgngidchldajhaaGreat
namespace Go.Proofs.YtgngidchldajhaaGreat
open Go.RowKit
end Go.Proofs.YtgngidchldajhaaGreat
namespace Go.Proofs.YtgngidchldajhaaGreat
open Go.RowKit
end Go.Proofs.YtgngidchldajhaaGreat
namespace Go.Proofs.YtgngidchldajhaaGreat
open Go.RowKit
def stepM {κ:Type} (c:κ→κ→Int) (out:List (Int × κ)) (a:Int) (x:κ):List (Int × κ):=match out.getLast? with
 | some (b,y) => if c y x = 0 then out.dropLast ++ [(mP (b + a),y)] else out ++ [(mP a,x)]
 | none => [(mP a,x)]
theorem stepM_nil {κ:Type} (c:κ→κ→Int) (a:Int) (x:κ):stepM c [] a x = [(mP a,x)]:=rfl
theorem stepM_eq {κ:Type} (c:κ→κ→Int) (out:List (Int × κ)) (b:Int) (y:κ) (a:Int) (x:κ) (h:c y x = 0):stepM c (out ++ [(b,y)]) a x = out ++ [(mP (b + a),y)]:=by
 unfold stepM;simp [h]
theorem stepM_ne {κ:Type} (c:κ→κ→Int) (out:List (Int × κ)) (b:Int) (y:κ) (a:Int) (x:κ) (h:¬ c y x = 0):stepM c (out ++ [(b,y)]) a x = out ++ [(b,y)] ++ [(mP a,x)]:=by
 unfold stepM;simp [h]
theorem mergeTo_snoc {κ:Type} (c:κ→κ→Int) (a:Int) (x:κ):∀ (M out:List (Int × κ)),mergeTo c out (M ++ [(a,x)]) = stepM c (mergeTo c out M) a x
 | [],out => rfl
 | (b,y) :: M,out => by
  rw [List.cons_append]
  unfold mergeTo
  exact mergeTo_snoc c a x M _
theorem sub_flat3 {α:Type} {l1 l2:List (List α)} (h:l1.Sublist l2):l1.flatten.Sublist l2.flatten:=by
 induction h with
 | slnil => exact .slnil
 | cons a _ ih => rw [List.flatten_cons];exact ih.trans (List.sublist_append_right _ _)
 | cons_cons a _ ih => rw [List.flatten_cons,List.flatten_cons];exact List.Sublist.append (List.Sublist.refl _) ih
end Go.Proofs.YtgngidchldajhaaGreat
namespace Go.Proofs.YtgngidchldajhaaGreat
open Go.RowKit Go.Shelf
theorem flatMap_getG {α β:Type} (enc:α→List β) (k:Nat) (hk:∀ x,(enc x).length = k) (hp:0 < k):∀ (l:List α) (t:Nat),(l.flatMap enc)[t]? = (l[t / k]?).bind fun x => (enc x)[t % k]?
 | [],t => by simp
 | x :: l,t => by
  rw [List.flatMap_cons]
  by_cases h:t < k
  ·rw [List.getElem?_append_left (by rw [hk];exact h),Nat.div_eq_of_lt h,Nat.mod_eq_of_lt h];rfl
  ·rw [List.getElem?_append_right (by rw [hk];omega),hk,flatMap_getG enc k hk hp l (t - k)]
   have e1:t / k = (t - k) / k + 1:=by rw [Nat.div_eq_sub_div hp (by omega)]
   have e2:t % k = (t - k) % k:=Nat.mod_eq_sub_mod (by omega)
   rw [e1,e2,List.getElem?_cons_succ]
theorem flatK_listG {α:Type} [Inhabited α] (enc:α→List Value) (k:Nat) (hk:∀ x,(enc x).length = k) (hp:0 < k) (d:Array α):(Go.Sort.flatK enc k d).toList = d.toList.flatMap enc:=by
 have hl:∀ (l:List α),(l.flatMap enc).length = l.length * k:=by
  intro l
  induction l with
  | nil => simp
  | cons x l ih => rw [List.flatMap_cons,List.length_append,hk,ih,List.length_cons,Nat.succ_mul];omega
 refine List.ext_getElem? fun t => ?_
 by_cases h:t < d.size * k
 ·have hs:t < (Go.Sort.flatK enc k d).toList.length:=by simpa using h
  have hq:t / k < d.size:=Nat.div_lt_of_lt_mul (by rw [Nat.mul_comm];exact h)
  rw [flatMap_getG enc k hk hp,List.getElem?_eq_getElem hs]
  have e1:=Go.Sort.get_flatK enc k d t h
  rw [getElem!_pos (Go.Sort.flatK enc k d) t (by simpa using h),getElem!_pos d (t / k) hq] at e1
  have hm:t % k < (enc d[t / k]).length:=by rw [hk];exact Nat.mod_lt _ hp
  rw [getElem!_pos (enc d[t / k]) (t % k) hm] at e1
  rw [List.getElem?_eq_getElem (by simpa using hq),Option.bind_some]
  simp only [Array.getElem_toList]
  rw [List.getElem?_eq_getElem hm,e1]
 ·rw [List.getElem?_eq_none (by simpa using h),List.getElem?_eq_none (by rw [hl];simpa using h)]
section
variable {α:Type} [Inhabited α] (enc:α→List Value) (k:Nat) (w:World) (blk m:Nat) (dk:Array α) (os:Array Go.Obj)
theorem sg_block {b:Nat} (hne:b ≠ blk) (hb:b < w.heap.size):(sortWorldK enc k w blk 0 m dk os).heap[b]? = w.heap[b]?:=by
 show ((w.heap.modify blk _) ++ os)[b]? = _
 rw [Array.getElem?_append_left (by simpa using hb),Array.getElem?_modify,if_neg (fun e => hne e.symm)]
theorem sg_size:w.heap.size ≤ (sortWorldK enc k w blk 0 m dk os).heap.size:=by
 show _ ≤ ((w.heap.modify blk _) ++ os).size
 simp
theorem sg_row {n cap:Nat} {ds:List Value} (h:Row w (slv (some blk) n cap) k n ds (some blk)) (hs:dk.size = n) (hlt:blk < w.heap.size) :
  Row (sortWorldK enc k w blk 0 m dk os) (slv (some blk) n cap) k n (Go.Sort.flatK enc k dk).toList (some blk):=by
 obtain ⟨h0,h⟩:=h
 rcases h with ⟨_,_,h⟩|⟨g,cap',cur,e,hv,hg,hh,hc1,hc2,hc3,hc4⟩
 ·cases h
 ·cases hg
  refine ⟨by simp [hs],.inr ⟨blk,cap',Sort.putCells id 0 (Go.Sort.flatK enc k dk) cur,e,hv,rfl,?_,hc1,hc2,by simpa [Sort.putCells] using hc3,?_⟩⟩
  ·show ((w.heap.modify blk _) ++ os)[blk]? = _
   rw [Array.getElem?_append_left (by simpa using hlt),Array.getElem?_modify,if_pos rfl,hh]
   rfl
  ·have hle:n * k ≤ cap' * k:=Nat.mul_le_mul_right k hc1
   refine List.ext_getElem? fun t => ?_
   by_cases ht:t < n * k
   ·rw [List.getElem?_take_of_lt ht,List.getElem?_eq_getElem (by simp [Sort.putCells];omega),List.getElem?_eq_getElem (by simp [hs];omega)]
    simp only [Array.getElem_toList,Sort.putCells,Array.getElem_mapIdx,id]
    rw [if_pos ⟨Nat.zero_le _,by simp [hs];omega⟩,Nat.sub_zero,getElem!_pos _ t (by simp [hs];omega)]
   ·rw [List.getElem?_eq_none (by simp;omega),List.getElem?_eq_none (by simp [hs];omega)]
end
abbrev ElC {β:Type} (e:β→List D) (ok:β→Prop) (A:Nat→Prop) (w:World):Type:={ x:List Value × β // rdCs A w x.1 (e x.2)∧ok x.2 }
theorem elc_of {β:Type} {e:β→List D} {ok:β→Prop} {A:Nat→Prop} {w:World} {k:Nat}:∀ {zs:List β} {ds:List Value},rdR k A w ds (zs.map e)→(∀ z ∈ zs,ok z)→∃ xs:List (ElC e ok A w),ds = xs.flatMap (·.1.1)∧zs = xs.map (·.1.2)
 | [],ds,h,_ => ⟨[],by have:=h.len;simpa using this,rfl⟩
 | z :: zs,ds,h,hz => by
  obtain ⟨c,e',rfl,hy,hc,k1,k2⟩:=h.cons_inv
  obtain ⟨xs,e1,e2⟩:=elc_of k2 (fun z hz' => hz z (by simp [hz']))
  exact ⟨⟨(c,z),k1,hz z (by simp)⟩ :: xs,by rw [e1];rfl,congrArg (z :: ·) e2⟩
theorem elc_to {β:Type} {e:β→List D} {ok:β→Prop} {A:Nat→Prop} {w w':World} {k:Nat} (hkp:0 < k) (hk:∀ z,(e z).length = k) (hf:∀ b,A b→b < w.heap.size→w'.heap[b]? = w.heap[b]?):∀ (xs:List (ElC e ok A w)),rdR k A w' (xs.flatMap (·.1.1)) ((xs.map (·.1.2)).map e)
 | [] => rdR.nil hkp
 | x :: xs => by
  have h1:=x.2.1.frame hf
  have h2:=elc_to hkp hk hf xs
  rw [List.flatMap_cons]
  exact (rdR.single hkp (hk x.1.2) h1).append h2
section
variable {P:Program} {ρ:Ren} (L:SlLaysF0.n6 P ρ) {β κ:Type} (e:β→List D) {k:Nat} (hkp:0 < k) (hk:∀ z,(e z).length = k) (aE:∀ w,(isAgg (ρ.t 24)).run P w = .ok true w) (zE:∀ w,(Go.sizeOf (ρ.t 24)).run P w = .ok k w)
 {c:κ→κ→Int} (hc:Cmp c) (key:β→κ) (ok:β→Prop) (z0:β) (u0:List Value) (h0:∀ A w,rdCs A w u0 (e z0)) (hz0:ok z0) (g:Nat) (eg:∀ args w,(callFunc g args).run P w = .ok (.enter g args) w)
 (hcmp:∀ (W:World) (A:Nat→Prop) (x y:β) (us vs:List Value),(∀ b,A b→b < W.heap.size)→ok x→ok y→rdCs A W us (e x)→rdCs A W vs (e y) →
   Calls P g #[.agg us.toArray,.agg vs.toArray] W fun e w' => e = .returned (.int .i64 (c (key x) (key y)))∧∃ q os',w' = Sort.grow (W.drewN q) os')
include L hkp hk aE zE hc h0 hz0 eg hcmp
set_option maxHeartbeats 1000000 in
theorem a_SortG (call:∀ args w,(callFunc (ρ.f 6) args).run P w = .ok (.enter (ρ.f 6) args) w) (zs:List β) (hok:∀ z ∈ zs,ok z) (hn:zs.length ≤ 1000000000) :
  AEf P (ρ.f 6) false [] k (zs.map e) [[.raw (.func (.func g) #[] #[])]] (fun rs oc => rs = []∧∃ zs':List β,oc = some (zs'.map e)∧zs'.Perm zs∧zs'.Pairwise (fun a b => c (key a) (key b) ≤ 0)):=by
 refine ⟨call,fun A w vs us og cap ds hA hv hu hrow _ hel hog => ?_⟩
 have hv:vs = []:=hv
 subst hv
 obtain ⟨u,us',rfl,hu1,hu2⟩:=hu
 have hu2:us' = []:=hu2
 subst hu2
 have hu1:u = .func (.func g) #[] #[]:=(rdV_raw.1 hu1).1
 subst hu1
 have fin:∀ w' (zs':List β) ds',zs'.Perm zs→zs'.Pairwise (fun a b => c (key a) (key b) ≤ 0)→Row w' (slv og zs.length cap) k zs.length ds' og→rdR k A w' ds' (zs'.map e)→Bel ⟨w,fun b => og = some b⟩ w' →
   ∃ v rs oc,(Ending.returned (.tuple #[]):Ending) = .returned v∧(rs = []∧∃ zs':List β,oc = some (zs'.map e)∧zs'.Perm zs∧zs'.Pairwise (fun a b => c (key a) (key b) ≤ 0))∧Bel ⟨w,fun b => og = some b⟩ w' ∧
    relOut A (fun b => w.heap.size ≤ b ∨ (oc = none∧og = some b)) w' rs v∧Left A w' og cap k oc∧∀ ys,oc = some ys→ys.length = zs.length:=by
  intro w' zs' ds' hp hso hrow' hrd' hb
  have hl:(zs'.map e).length = (zs.map e).length:=by rw [List.length_map,List.length_map,hp.length_eq]
  refine ⟨.tuple #[],[],some (zs'.map e),rfl,⟨rfl,zs',rfl,hp,hso⟩,hb,⟨[],[],[],rfl,List.nodup_nil,by simp,rfl,rfl,rfl⟩,⟨ds',?_,hrd'⟩,fun ys e => by cases e;rw [hl,List.length_map]⟩
  rw [hl,List.length_map]
  exact hrow'
 rw [List.length_map] at hrow ⊢
 cases og with
 | none =>
  have hz:zs = []:=List.eq_nil_of_length_eq_zero hrow.len0
  subst hz
  refine (AnyF.slices_SortFunc_none L none 0 _ w).mono ?_
  rintro e' w' ⟨rfl,rfl⟩
  exact fin w' [] ds (List.Perm.refl _) List.Pairwise.nil hrow hel ⟨rfl,rfl,rfl,Nat.le_refl _,fun _ _ _ => rfl⟩
 | some blk =>
  haveI:Inhabited (ElC e ok A w):=⟨⟨(u0,z0),h0 A w,hz0⟩⟩
  obtain ⟨xs,e1,e2⟩:=elc_of hel hok
  have hlen:xs.toArray.size = zs.length:=by rw [e2];simp
  have hlt:=hrow.lt blk rfl
  have hek:∀ x:ElC e ok A w,x.1.1.length = k:=fun x => by rw [x.2.1.len,hk]
  have hH:Go.Sort.HoldsK (fun x:ElC e ok A w => x.1.1) k w blk 0 xs.toArray:=fun j hj => by
   rw [Nat.zero_add]
   refine ⟨?_,hrow.frozen j⟩
   have hf:=flatK_listG (fun x:ElC e ok A w => x.1.1) k hek hkp xs.toArray
   rw [List.toList_toArray] at hf
   rw [getElem!_pos _ j hj]
   refine hrow.cells j _ ?_
   rw [e1,← hf,List.getElem?_eq_getElem (by simpa using hj)]
   simp
  have hswo:Go.Sort.SWO (ltOf fun x y:ElC e ok A w => c (key x.1.2) (key y.1.2)) :=
   { irrefl:=fun x => decide_eq_false (by show ¬ c _ _ < 0;rw [hc.refl];omega)
     trans:=fun x y z h1 h2 => decide_eq_true (by
     have h1:c (key x.1.2) (key y.1.2) < 0:=of_decide_eq_true h1
     have h2:c (key y.1.2) (key z.1.2) < 0:=of_decide_eq_true h2
     have a1:=hc.anti (key x.1.2) (key y.1.2)
     have a2:=hc.anti (key y.1.2) (key z.1.2)
     have a3:=hc.anti (key z.1.2) (key x.1.2)
     have a4:=hc.anti (key x.1.2) (key z.1.2)
     have t1:=hc.trans (key x.1.2) (key y.1.2) (key z.1.2) (by omega) (by omega)
     rcases Int.lt_or_eq_of_le t1 with t|t
     ·exact t
     ·have e3:=hc.zero _ _ t
      rw [e3] at h1
      omega)
     ntrans:=fun x y z h1 h2 => decide_eq_false (by
     have h1:¬ c (key x.1.2) (key y.1.2) < 0:=of_decide_eq_false h1
     have h2:¬ c (key y.1.2) (key z.1.2) < 0:=of_decide_eq_false h2
     show ¬ c (key x.1.2) (key z.1.2) < 0
     intro h
     have a1:=hc.anti (key x.1.2) (key y.1.2)
     have a2:=hc.anti (key y.1.2) (key z.1.2)
     have:=hc.trans (key z.1.2) (key y.1.2) (key x.1.2) (by have:=hc.anti (key y.1.2) (key z.1.2);omega) (by have:=hc.anti (key x.1.2) (key y.1.2);omega)
     have a3:=hc.anti (key x.1.2) (key z.1.2)
     omega) }
  have hC:CmpLays P g #[] (fun x:ElC e ok A w => x.1.1) k (fun x y:ElC e ok A w => c (key x.1.2) (key y.1.2)) blk 0 xs.toArray.size w:=fun m os dk _ x y => by
   have hfr:∀ b,A b→b < w.heap.size→(sortWorldK (fun x:ElC e ok A w => x.1.1) k w blk 0 m dk os).heap[b]? = w.heap[b]?:=fun b hb hl => sg_block _ k w blk m dk os (fun e => hog b (by rw [e]) hb) hl
   exact hcmp _ A x.1.2 y.1.2 _ _ (fun b hb => Nat.lt_of_lt_of_le (hA b hb) (sg_size _ k w blk m dk os)) x.2.2 y.2.2 (x.2.1.frame hfr) (y.2.1.frame hfr)
  have hs:=AnyQ.slices_SortFunc L k aE zE (fun x:ElC e ok A w => x.1.1) hek (fun x v hv => x.2.1.one v hv) (fun x y:ElC e ok A w => c (key x.1.2) (key y.1.2)) hswo g #[] blk 0 cap xs.toArray w eg hC hH hlt (by rw [hlen];omega)
  rw [hlen] at hs
  have hm:=Calls.mono hs (R':=fun e' w' => ∃ v rs oc,e' = .returned v∧(rs = []∧∃ zs':List β,oc = some (zs'.map e)∧zs'.Perm zs∧zs'.Pairwise (fun a b => c (key a) (key b) ≤ 0))∧Bel ⟨w,fun b => some blk = some b⟩ w' ∧
    relOut A (fun b => w.heap.size ≤ b ∨ (oc = none∧some blk = some b)) w' rs v∧Left A w' (some blk) cap k oc∧∀ ys,oc = some ys→ys.length = zs.length) ?_
  ·exact hm
  rintro e' w' ⟨rfl,d',n,os,⟨hp1,_,hp3⟩,hsd,rfl⟩
  have hd:d'.size = zs.length:=by rw [hp1,hlen]
  refine fin _ (d'.toList.map (·.1.2)) _ ?_ ?_ (sg_row _ k w blk n d' os hrow hd hlt) ?_ ⟨rfl,rfl,rfl,sg_size _ k w blk n d' os,fun b hb hne => sg_block _ k w blk n d' os (fun e => hne (by rw [e])) hb⟩
  ·rw [e2]
   refine List.Perm.map _ ?_
   rw [← hlen] at hp3
   rw [show d'.extract 0 xs.toArray.size = d' by rw [← hp1];simp,show xs.toArray.extract 0 xs.toArray.size = xs.toArray by simp,List.toList_toArray] at hp3
   exact hp3
  ·rw [List.pairwise_iff_getElem]
   intro i j hi hj hij
   have hi':i < d'.size:=by simpa using hi
   have hj':j < d'.size:=by simpa using hj
   have h1:=hsd i j (Nat.zero_le _) hij (by omega)
   rw [getElem!_pos d' i hi',getElem!_pos d' j hj'] at h1
   have h1:¬ c (key d'[j].1.2) (key d'[i].1.2) < 0:=of_decide_eq_false h1
   have h2:=hc.anti (key d'[j].1.2) (key d'[i].1.2)
   simp only [List.getElem_map,Array.getElem_toList]
   omega
  ·rw [flatK_listG _ k hek hkp]
   exact elc_to hkp hk (fun b hb hl => sg_block _ k w blk n d' os (fun e => hog b (by rw [e]) hb) hl) d'.toList
end
end Go.Proofs.YtgngidchldajhaaGreat
namespace Go.Proofs.YtgngidchldajhaaGreat
open Go.RowKit
theorem exists_not {l:List Nat}:∃ k,k ∉ l:=by
 have key:∀ (l:List Nat),∀ x ∈ l,x ≤ l.sum:=by
  intro l
  induction l with
  | nil => intro x hx;cases hx
  | cons y l ih =>
   intro x hx
   rw [List.sum_cons]
   rcases List.mem_cons.1 hx with rfl|hx
   ·omega
   ·have:=ih x hx;omega
 exact ⟨l.sum + 1,fun h => by have:=key l _ h;omega⟩
theorem exists_free (s:St):∃ k,Free s k:=by
 obtain ⟨k,hk⟩:=exists_not (l:=s.heap.map (·.1) ++ s.regs.flatMap (·.2.refs) ++ s.heap.flatMap (·.2.refs))
 simp only [List.mem_append,not_or] at hk
 obtain ⟨⟨h1,h2⟩,h3⟩:=hk
 refine ⟨k,?_,fun r av hr hm => h2 (List.mem_flatMap.2 ⟨_,look_all hr,hm⟩),fun q u hq hm => h3 (List.mem_flatMap.2 ⟨_,look_all hq,hm⟩)⟩
 cases e:look k s.heap with
 | none => rfl
 | some o => exact absurd (List.mem_map.2 ⟨_,look_all e,rfl⟩) h1
theorem AC.frz_id {key k:Nat} {xs:List (List D)} {x:AC} (h:key ∉ x.refs):x.frz key k xs = x:=by
 cases x with
 | own q n => simp only [AC.refs,List.mem_singleton] at h;simp only [AC.frz];rw [if_neg (fun e => h e.symm)]
 | view q i n => simp only [AC.refs,List.mem_singleton] at h;simp only [AC.frz];rw [if_neg (fun e => h e.symm)]
 | _ => rfl
theorem acs_frz_id {key k:Nat} {xs:List (List D)}:∀ {cs:List AC},key ∉ cs.flatMap AC.refs→cs.map (AC.frz key k xs) = cs
 | [],_ => rfl
 | c :: cs,h => by
  rw [List.flatMap_cons,List.mem_append,not_or] at h
  rw [List.map_cons,AC.frz_id h.1,acs_frz_id h.2]
theorem AV.frz_id {key k:Nat} {xs:List (List D)} {x:AV} (h:key ∉ x.refs):x.frz key k xs = x:=by
 cases x with
 | c x => simp only [AV.frz];rw [AC.frz_id h]
 | eptr => rfl
 | optr q i j => simp only [AV.refs,List.mem_singleton] at h;simp only [AV.frz];rw [if_neg (fun e => h e.symm)]
 | agg cs => simp only [AV.frz];rw [acs_frz_id h]
 | tup cs => simp only [AV.frz];rw [acs_frz_id h]
 | dead => rfl
theorem Obj.frz_id {key k:Nat} {xs:List (List D)} {o:Obj} (h:key ∉ o.refs):o.frz key k xs = o:=by
 cases o with
 | row => rfl
 | pin => rfl
 | lit k' css =>
  simp only [Obj.frz]
  congr 1
  have h:key ∉ css.flatMap (·.flatMap AC.refs):=h
  have:∀ css:List (List AC),key ∉ css.flatMap (·.flatMap AC.refs)→css.map (·.map (AC.frz key k xs)) = css:=by
   intro css
   induction css with
   | nil => intro _;rfl
   | cons c css ih =>
    intro h
    rw [List.flatMap_cons,List.mem_append,not_or] at h
    rw [List.map_cons,acs_frz_id h.1,ih h.2]
  exact this css h
section
variable {P:Program} {cfg:Cfg} {M:Nat→Prop} {ops:Array Oper} {s s':St} {w0:W0} {w:World} {Ok:Nat→Prop} {N:Nat} {σ:Asg} {a:Act} {fs:List Fr} {Q:Exit→St→Prop} {T:Tab P}
def valD:AV→Option D
 | .c (.val d) => some d
 | _ => Option.none
def devalB (cfg:Cfg) (ops:Array Oper) (o:Oper) (s:St):Option Tel :=
 match o.op with
 | .buildSlice t len parts => if dstOK cfg o = true∧awanted ops s.regs o = some true then
   o.dst.bind fun d => (cfg.sl t).bind fun i => if len = parts.size∧len * i.z.length ≤ 16777216 then (aparts s.regs 0 parts.toList).bind fun css => (rowsD i.z css).map fun r => ⟨⟨d,.c (.val (.sl i.z.length r.1)),[]⟩,opRefs s.regs o.op.operands.toList⟩ else Option.none
  else Option.none
 | .assign x => if dstOK cfg o = true∧awanted ops s.regs o = some true then
   o.dst.bind fun d => ((opv s.regs x).bind valD).map fun v => ⟨⟨d,.c (.val v),[]⟩,[]⟩
  else Option.none
 | _ => Option.none
theorem Does1.asg (C:CfgOK P cfg) {i:Nat} {o:Oper} (hi:ops[i]? = some o) {x:Operand} (hop:o.op = .assign x) (hd:dstOK cfg o = true) {d:Nat} (hdd:o.dst = some d) (hb:awanted ops s.regs o = some true) {v:D} (hv:opv s.regs x = some (.c (.val v))):Does1 P cfg ops i s ⟨⟨d,.c (.val v),[]⟩,[]⟩:=by
 refine ⟨o,hi,hdd,fun s' h1 h2 h3 w0 Ok σ a w K Q hS hK => ?_⟩
 have hw:awanted ops s'.regs o = some true:=by rw [awanted_congr h1,hb]
 have hov:opv s'.regs x = some (.c (.val v)):=by
  rw [← hv]
  cases x with
  | tmp t =>
   have:=h1 t (looks_operand (by rw [hop];simp [Op.operands]))
   simp only [opv,this]
  | _ => rfl
 have hst:astep cfg ops o s' = some (s'.add ⟨d,.c (.val v),[]⟩):=by
  unfold astep
  rw [if_pos hd,hw]
  simp only [Option.bind_some,if_true,hop,isMut,hdd,amut,hov]
  rfl
 have:=astep_wp C hS hst hK (Q:=Q)
 unfold wpOp
 simp only [hi]
 split
 ·rename_i hw2;rw [if_pos hw2] at this;exact .inl this
 ·rename_i hw2;rw [if_neg hw2] at this;exact this
theorem Does1.lit (C:CfgOK P cfg) {i:Nat} {o:Oper} (hi:ops[i]? = some o) {t:Tel} (h:devalB cfg ops o s = some t):Does1 P cfg ops i s t:=by
 unfold devalB at h
 split at h
 ·rename_i ty len parts hop
  split at h
  ·rename_i hc
   obtain ⟨d,hd,h⟩:=bind_some h
   obtain ⟨it,hit,h⟩:=bind_some h
   split at h
   ·rename_i hsz
    obtain ⟨css,hcss,h⟩:=bind_some h
    obtain ⟨⟨xs,b⟩,hr,rfl⟩:=map_some h
    refine ⟨o,hi,hd,fun s' h1 h2 h3 w0 Ok σ a w K Q hS hK => ?_⟩
    have hw:awanted ops s'.regs o = some true:=by rw [awanted_congr h1,hc.2]
    have hopl:o.op.operands.toList = parts.toList.map (·.2):=by rw [hop];rfl
    have hag:=agree_of (xs:=o.op.operands.toList) (fun x hx => hx) h1 h2
    rw [hopl] at hag
    have hcss':aparts s'.regs 0 parts.toList = some css:=by rw [aparts_congr hag,hcss]
    obtain ⟨q,hq⟩:=exists_free s'
    have hmk:mkObj it.z css = some (.row it.z.length xs b):=by unfold mkObj;rw [hr]
    have ha:anew cfg (fun k => look k s'.heap) s'.regs q o.op = some (.c (.own q len),[(q,.row it.z.length xs b)]):=by
     rw [hop]
     simp only [anew,hit,Option.bind_some]
     rw [if_pos hsz,hcss']
     simp only [Option.bind_some,hmk,Option.map_some]
    unfold wpOp
    simp only [hi,awanted_spec hS hw,if_true]
    left
    have hdN:d < cfg.N:=by have:=hc.1;rw [dstOK,hd] at this;simpa using this
    refine anew_doesF C hS (news:=[(q,.row it.z.length xs b)]) (av:=.c (.own q len)) ha (fun p ob hp => ?_) _ _ (fun v w' σ' hv hS' => ?_)
    ·have hp:(if q = p then some (Obj.row it.z.length xs b) else none) = some ob:=hp
     split at hp
     ·rename_i e;subst e;exact hq
     ·cases hp
    ·rw [hd]
     have hS1:=Sim.ins hS' hdN hv
     have hS2:=Sim.frz hS1 q
     refine hK σ' _ _ ?_
     have hlq:look q (⟨insR d (.c (.own q len)) s'.regs,[(q,Obj.row it.z.length xs b)] ++ s'.heap⟩:St).heap = some (.row it.z.length xs b):=by show look q ((q,Obj.row it.z.length xs b) :: s'.heap) = _;rw [look,if_pos rfl]
     have e:(⟨insR d (.c (.own q len)) s'.regs,[(q,Obj.row it.z.length xs b)] ++ s'.heap⟩:St).frz q = ⟨frzR q it.z.length xs (insR d (.c (.own q len)) s'.regs),frzH q it.z.length xs (drop q ([(q,Obj.row it.z.length xs b)] ++ s'.heap))⟩:=by
      unfold St.frz;rw [hlq]
     rw [e] at hS2
     refine hS2.forget (fun r av hr => ?_) (fun k o' ho' => ?_)
     ·have hr:look r (insR d (.c (.val (.sl it.z.length xs))) s'.regs) = some av:=hr
      rw [look_ins] at hr
      show look r (frzR q it.z.length xs (insR d (.c (.own q len)) s'.regs)) = _
      rw [look_frzR,look_ins]
      by_cases er:d = r
      ·rw [if_pos er] at hr ⊢
       cases hr
       show some (AV.c (if q = q then AC.val (.sl it.z.length xs) else AC.own q len)) = _
       rw [if_pos rfl]
      ·rw [if_neg er] at hr ⊢
       rw [hr]
       show some (av.frz q it.z.length xs) = _
       rw [AV.frz_id (hq.2.1 r av hr)]
     ·have ho':look k s'.heap = some o':=ho'
      show look k (frzH q it.z.length xs (drop q ((q,Obj.row it.z.length xs b) :: s'.heap))) = _
      have hkq:k ≠ q:=by rintro rfl;rw [hq.1] at ho';cases ho'
      rw [look_frzH,look_drop,if_neg hkq,look,if_neg (fun e => hkq e.symm),ho']
      show some (o'.frz q it.z.length xs) = _
      rw [Obj.frz_id (hq.2.2 k o' ho')]
   ·cases h
  ·cases h
 ·rename_i x hop
  split at h
  ·rename_i hc
   obtain ⟨d,hd,h⟩:=bind_some h
   obtain ⟨v,hv,rfl⟩:=map_some h
   obtain ⟨av,h1,h2⟩:=bind_some hv
   have:av = .c (.val v):=by
    unfold valD at h2
    split at h2
    ·cases h2;rfl
    ·cases h2
   subst this
   exact Does1.asg C hi hop hc.1 hd hc.2 h1
  ·cases h
 ·cases h
def devalF (fz:List Nat) (cfg:Cfg) (T:Tab P) (ops:Array Oper) (o:Oper) (s:St):Option Tel :=
 bif fz.contains (o.dst.getD 0) then devalB cfg ops o s else devalT cfg T ops o s
def drunF (fz:List Nat) (cfg:Cfg) (T:Tab P) (ops:Array Oper):List Oper→St→List Tel × St × List Oper
 | [],s => ([],s,[])
 | o :: l,s => match devalF fz cfg T ops o s with
  | some t => ((t :: (drunF fz cfg T ops l (s.add t.e)).1),(drunF fz cfg T ops l (s.add t.e)).2)
  | Option.none => ([],s,o :: l)
theorem drunF_spec {fz:List Nat} (C:CfgOK P cfg):∀ {l:List Oper} {i:Nat} {s:St},(∀ j,l[j]? = ops[i + j]?)→Tr P cfg ops i s (drunF fz cfg T ops l s).1 ∧
  (drunF fz cfg T ops l s).2.1 = (drunF fz cfg T ops l s).1.foldl (fun s t => s.add t.e) s∧(drunF fz cfg T ops l s).2.2 = l.drop (drunF fz cfg T ops l s).1.length
 | [],i,s,_ => ⟨trivial,rfl,rfl⟩
 | o :: l,i,s,hl => by
  have hi:ops[i]? = some o:=by have:=hl 0;simpa using this.symm
  simp only [drunF]
  cases hd:devalF fz cfg T ops o s with
  | none => exact ⟨trivial,rfl,rfl⟩
  | some t =>
   obtain ⟨h1,h2,h3⟩:=drunF_spec (fz:=fz) C (l:=l) (i:=i + 1) (s:=s.add t.e) (fun j => by have:=hl (j + 1);simpa [Nat.add_assoc,Nat.add_comm 1 j] using this)
   refine ⟨⟨?_,h1⟩,by simpa using h2,by simpa using h3⟩
   unfold devalF at hd
   cases hb:fz.contains (o.dst.getD 0) with
   | true => rw [hb] at hd;exact Does1.lit C hi hd
   | false => rw [hb] at hd;exact Does1.opT C hi hd
def dregF (s:St):List Tel × St × List Oper→Option (List Tel × St × List Oper)
 | (tr,s1,rest) => if tr.all (fun t => t.e.news.all fun p => fresh s p.1) = true then some (tr,s1,rest) else Option.none
theorem dregF_mk (s:St) (tr:List Tel) (s1:St) (rest:List Oper):dregF s (tr,s1,rest) = if tr.all (fun t => t.e.news.all fun p => fresh s p.1) = true then some (tr,s1,rest) else Option.none:=rfl
theorem RunK.wFz (C:CfgOK P cfg) (T:Tab P) (hm:P.follows .mixedOrders = true) (fz:List Nat) {id:Nat} {tr:List Tel} {s1:St} {rest:List Oper} (hr:Work (dregF s (drunF fz cfg T ops ops.toList s)) (some (tr,s1,rest))) (h1:ChkD ops tr)
  (h:ROps P cfg M ops rest (outK P cfg M fs Q .normal) s1):RunK P cfg M (.region id ops true) fs Q s:=by
 have hr:dregF s (drunF fz cfg T ops ops.toList s) = some (tr,s1,rest):=hr
 obtain ⟨⟨tr0,s10,rest0⟩,e⟩:∃ r,r = drunF fz cfg T ops ops.toList s:=⟨_,rfl⟩
 rw [← e,dregF_mk] at hr
 split at hr
 ·rename_i hf
  cases hr
  obtain ⟨k1,k2,k3⟩:=drunF_spec (T:=T) (fz:=fz) C (ops:=ops) (l:=ops.toList) (i:=0) (s:=s) (fun j => by simp)
  rw [← e] at k1 k2 k3
  refine Runs.draw hm k1 h1 hf ?_
  show ROps P cfg M ops (ops.toList.drop tr.length) _ (tr.foldl (fun s t => s.add t.e) s)
  rw [← k2,← k3]
  exact h
 ·cases hr
end
end Go.Proofs.YtgngidchldajhaaGreat
namespace Go.Proofs.YtgngidchldajhaaGreat
open Go.RowKit
def D.marks:D→List Nat
 | .tag F _ => F
 | _ => []
def rowMarks (xs:List (List D)):List Nat:=xs.flatMap (·.flatMap D.marks)
theorem rowMarks_rd {A:Nat→Prop} {w:World} {k:Nat} {ds:List Value} {xs:List (List D)} (h:rdR k A w ds xs):∀ b ∈ rowMarks xs,A b:=by
 intro b hb
 obtain ⟨x,hx,hb⟩:=List.mem_flatMap.1 hb
 obtain ⟨d,hd,hb⟩:=List.mem_flatMap.1 hb
 obtain ⟨i,hi,rfl⟩:=List.getElem_of_mem hx
 obtain ⟨c,h1,_⟩:=h.get i hi
 obtain ⟨j,hj,rfl⟩:=List.getElem_of_mem hd
 obtain ⟨v,_,h2⟩:=h1.get j hj
 cases e:(xs[i])[j] with
 | tag F x =>
  rw [e] at h2 hb
  exact (rdV_tag.1 h2).1 b hb
 | _ => rw [e] at hb;cases hb
section
variable {P:Program} {cfg:Cfg} {M:Nat→Prop} {ops:Array Oper} {s:St} {w0:W0} {w:World} {Ok:Nat→Prop} {N:Nat} {σ:Asg} {a:Act} {fs:List Fr} {Q:Exit→St→Prop}
theorem Runs.fresh {c:Code} (hd:s.heap.all (fun p => !p.2.deep) = true)
  (h:∀ M':Nat→Prop,(∀ b,M' b→M b)→(∀ key k xs,look key s.heap = some (.row k xs false)→∀ b ∈ rowMarks xs,¬ M' b)→Runs P cfg M' c Q s):Runs P cfg M c Q s:=by
 intro w0 Ok σ a w Q' hM hS hQ
 have hdeep:∀ q o,look q s.heap = some o→o.deep = false:=fun q o hq => by
  have:=List.all_eq_true.1 hd _ (look_all hq)
  simpa using this
 let w1:W0:=⟨w,fun b => ∃ q o,look q s.heap = some o∧b ∈ fp σ q o⟩
 have hmine:∀ b,w1.mine b→w0.mine b:=by
  rintro b (hb|⟨q,o,hq,hb⟩)
  ·exact .inl (Nat.le_trans hS.below.size hb)
  ·exact (hS.rows q o hq).fresh b hb
 have hS1:Sim w1 σ.ok cfg.N σ s a w:=⟨⟨rfl,rfl,rfl,Nat.le_refl _,fun _ _ _ => rfl⟩,fun b hb => hS.ok1 b (hmine b hb),fun b hb => .inl hb,hS.defers,hS.size,hS.regs,
  fun key o hk => ⟨(hS.rows key o hk).row,fun b hb => .inr ⟨key,o,hk,hb⟩,(hS.rows key o hk).nodup⟩,hS.disj⟩
 refine h w1.mine (fun b hb => hM ▸ hmine b hb) ?_ w1 σ.ok σ a w Q' rfl hS1 (fun e s' hq σ' a' w' hS' => ?_)
 ·intro key k xs hk b hb hm
  obtain ⟨ds,_,_,hel⟩:=(hS.rows key _ hk).row
  have hel:rdR k (Zn σ s.heap w) w ds xs:=hel
  have hz:=rowMarks_rd hel b hb
  rcases hm with hm|⟨q,o,hq,hm⟩
  ·have hm:w.heap.size ≤ b:=hm
   have:=hz.1;omega
  ·unfold fp at hm
   rw [hdeep q o hq] at hm
   exact hz.2.2 q o hq (by simpa using hm)
 ·let σ2:Asg:=⟨σ'.g,σ'.cap,σ'.F,fun b => σ'.ok b ∨ w0.mine b⟩
  have hZ:Kept σ' σ2 s'.heap s'.heap w' w':=fun b hb => ⟨⟨hb.1,.inl hb.2.1,hb.2.2⟩,rfl⟩
  have hst:∀ k,Stays σ' σ2 s'.heap s'.heap k:=fun k o' ho' => ⟨o',ho',rfl,rfl,rfl,rfl⟩
  refine hQ e s' hq σ2 a' w' ⟨hS.below.trans2 hS'.below (fun b hb => hmine b (.inr hb)),fun b hb => .inr hb,?_,hS'.defers,hS'.size,fun r av hr => (hS'.regs r av hr).step hZ (fun k _ => hst k),fun key o hk => ?_,hS'.disj⟩
  ·rintro b (hb|hb)
   ·rcases hS'.ok2 b hb with h1|h1
    ·exact hS.ok2 b h1
    ·exact .inr (hmine b h1)
   ·exact .inr hb
  ·have hr:=RowOK.keep (σ':=σ2) hS'.ok1 hS'.rows hS'.disj hk hZ (fun k _ => hst k) rfl rfl rfl (fun _ _ => rfl)
   exact ⟨hr.row,fun b hb => hmine b (hr.fresh b hb),hr.nodup⟩
theorem RunK.fresh {c:Code} (hd:s.heap.all (fun p => !p.2.deep) = true)
  (h:∀ M':Nat→Prop,(∀ b,M' b→M b)→(∀ key k xs,look key s.heap = some (.row k xs false)→∀ b ∈ rowMarks xs,¬ M' b)→RunK P cfg M' c [] Q s):RunK P cfg M c [] Q s :=
 Runs.fresh hd h
end
end Go.Proofs.YtgngidchldajhaaGreat
