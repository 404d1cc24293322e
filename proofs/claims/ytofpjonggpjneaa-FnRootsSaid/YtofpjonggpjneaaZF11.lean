/- Lemmas (11). -/
import Derived.BigQuiet
import Derived.Laws.Small
import Derived.Test.YtofpjonggpjneaaZF2
import Derived.Test.YtofpjonggpjneaaZF7
import Derived.Test.YtofpjonggpjneaaZF8
import Derived.Test.YtofpjonggpjneaaZF9
import Derived.Test.YtofpjonggpjneaaZF10
set_option linter.unusedSimpArgs false
set_option linter.unusedVariables false
namespace Go.Proofs.Ytofpjonggpjneaa
open Go.RowKit
theorem rrOf_in (t:List Int) (n:Int):In64 (rrOf t n).2:=by unfold rrOf;split <;> (try split) <;> (unfold In64;simp)
theorem bpOf_in (u v:List Int):In64 (bpOf u v).2:=by unfold bpOf ckOf;split <;> (try split) <;> (try split) <;> (unfold In64;simp)
theorem supOf_in (t:List Int):In64 (supOf t).2:=by unfold supOf;split <;> (unfold In64;simp)
theorem tab_two {A:Nat→Prop} {w:World} {s t:List Int} {vs:List Value} (h:relArgs A w [eL s,eL t] vs):∃ v u,vs = [v,u]∧Rd (RS RI) w [v] s∧Rd (RS RI) w [u] t:=by
 obtain ⟨v1,_,e1,h1,v2,_,e2,h2,e3⟩:=h
 have e3:_ = []:=e3
 subst e3;subst e2;subst e1
 exact ⟨v1,v2,rfl,Rd.of (rd1 h1),Rd.of (rd1 h2)⟩
theorem tab_LI {A:Nat→Prop} {w:World} {t:List Int} {n:Int} {vs:List Value} (h:relArgs A w [eL t,eI n] vs):∃ v,vs = [v,.int .i64 n]∧Rd (RS RI) w [v] t∧In64 n:=by
 obtain ⟨v1,_,e1,h1,v2,_,e2,h2,e3⟩:=h
 have e3:_ = []:=e3
 obtain ⟨k1,k2⟩:=rdV_int.1 h2
 subst e3;subst e2;subst e1
 exact ⟨v1,by rw [k1],Rd.of (rd1 h1),k2⟩
theorem a_impl_RerootAt (t:List Int) (n:Int):AFn Try.prog 37 [eL t,eI n] (· = [.own 1 ((rrOf t n).1.map eI) true,.val (.int (rrOf t n).2)]) :=
 AFn.of_oc encI (rrOf_in t n) (enters_of Try.func37 rfl rfl) (fun w A vs h => by
  obtain ⟨v,rfl,h1,h2⟩:=tab_LI h
  exact k_impl_RerootAt v n t w h1 h2)
theorem a_spec_RerootAt (t:List Int) (n:Int) (hsz:t.length ≤ 1048576):AFn Try.prog 38 [eL t,eI n] (· = [.own 1 ((rrOf t n).1.map eI) true,.val (.int (rrOf t n).2)]) :=
 AFn.of_oc encI (rrOf_in t n) (enters_of Try.func38 rfl rfl) (fun w A vs h => by
  obtain ⟨v,rfl,h1,h2⟩:=tab_LI h
  exact k_spec_RerootAt v n t w h1 h2 hsz)
theorem a_impl_ButcherProduct (u v:List Int):AFn Try.prog 43 [eL u,eL v] (· = [.own 1 ((bpOf u v).1.map eI) true,.val (.int (bpOf u v).2)]) :=
 AFn.of_oc encI (bpOf_in u v) (enters_of Try.func43 rfl rfl) (fun w A vs h => by
  obtain ⟨v1,v2,rfl,h1,h2⟩:=tab_two h
  exact k_impl_ButcherProduct v1 v2 u v w h1 h2)
theorem a_impl_IsSuperfluous (t:List Int):AFn Try.prog 42 [eL t] (· = [.val (.bool (supOf t).1),.val (.int (supOf t).2)]) :=
 AFn.of_v2 (enters_of Try.func42 rfl rfl) (fun _ _ => rdV_bool.2 rfl) (fun _ _ => rdV_int.2 ⟨rfl,supOf_in t⟩) (fun w A vs h => by
  obtain ⟨v,rfl,hr⟩:=tab_one h
  exact k_impl_IsSuperfluous v t w hr)
end Go.Proofs.Ytofpjonggpjneaa
namespace Go.Proofs.Ytofpjonggpjneaa
open Go.RowKit
noncomputable def TDw {code:List Int} (hc:Bytes code) (hl:code.length ≤ 1000000000):Tab Try.prog :=
 ((Tab.none.pin 108 (nxtE code) (nxt_l01Next hc hl)).pin 91 (drwE code (drw1 (drawAnyG code))) (p_l03DrawAny hc hl).ok).pin 92 (drwE code (drwL (pickG code))) (p_l01Pick hc hl).ok
end Go.Proofs.Ytofpjonggpjneaa
namespace Go.Proofs.Ytofpjonggpjneaa
open Go.RowKit
def drawCA (code:List Int):List Int × Int :=
 let p:=drawAnyF code (src0 code) 8
 let x:=nxtF code p.2 (p.1.length + 1)
 let y:=nxtF code x.2 16
 (p.1,x.1 - Int.tdiv y.1 15)
theorem drawCA_ok {code:List Int} (hc:Bytes code):AOk 17 (drawCA code).1∧-1 ≤ (drawCA code).2∧(drawCA code).2 ≤ 17:=by
 obtain ⟨h1,h2⟩:=drawAnyF_ok hc (s:=src0 code) (m:=8) (Nat.zero_le _)
 refine ⟨h1,?_⟩
 have hl:=h1.len
 have h8:(9 + (8:Int).toNat) = 17:=rfl
 have b1:=nxtF_bd hc (drawAnyF code (src0 code) 8).2 ((drawAnyF code (src0 code) 8).1.length + 1)
 have b2:=nxtF_bd hc (nxtF code (drawAnyF code (src0 code) 8).2 ((drawAnyF code (src0 code) 8).1.length + 1)).2 16
 unfold drawCA
 simp only
 generalize (nxtF code (nxtF code (drawAnyF code (src0 code) 8).2 ((drawAnyF code (src0 code) 8).1.length + 1)).2 16).1 = y at b2
 have h3:0 ≤ y.tdiv 15∧y.tdiv 15 ≤ 1:=by
  rw [Int.tdiv_eq_ediv_of_nonneg (by omega)]
  omega
 omega
set_option maxHeartbeats 4000000 in
theorem a_DrawCutAbove {code:List Int} (hc:Bytes code) (hl:code.length ≤ 1000000000):AFn Try.prog 27 [eCode code] (· = [.own 1 ((drawCA code).1.map eI) true,.val (.int (drawCA code).2)]):=by
 have hfrom:=p_l01From hc hl
 have hs:(src0 code).1 ≤ code.length:=Nat.zero_le _
 obtain ⟨h1,h2⟩:=drawAnyF_ok hc (s:=src0 code) (m:=8) hs
 have hd1:=drw1_eq (G:=drawAnyG code) hs (m:=8) (by omega)
 unfold drawCA
 have e1:drawAnyG code (src0 code) 8 = ([.own 1 ((drawAnyF code (src0 code) 8).1.map eI) true],(drawAnyF code (src0 code) 8).2):=rfl
 rw [e1] at hd1
 obtain ⟨⟨t,s1⟩,hp⟩:∃ p,p = drawAnyF code (src0 code) 8:=⟨_,rfl⟩
 rw [← hp] at hd1 h1 h2 ⊢
 simp only at hd1 h1 h2 ⊢
 have hdr2:=nxtE_eq code s1 (t.length + 1) h2
 have hbd2:=nxtF_bd hc s1 (t.length + 1)
 have hat2:=nxtF_at (n:=(t.length:Int) + 1) h2
 obtain ⟨⟨x,s2⟩,hq2⟩:∃ p,p = nxtF code s1 (t.length + 1):=⟨_,rfl⟩
 rw [← hq2] at hdr2 hbd2 hat2 ⊢
 simp only at hdr2 hbd2 hat2 ⊢
 have hdr3:=nxtE_eq code s2 16 hat2
 have hbd3:=nxtF_bd hc s2 16
 obtain ⟨⟨y,s3⟩,hq3⟩:∃ p,p = nxtF code s2 16:=⟨_,rfl⟩
 rw [← hq3] at hdr3 hbd3 ⊢
 simp only [eI] at hdr2 hdr3 hbd3 ⊢
 have hl17:t.length ≤ 17:=h1.len
 have hlm:(t.map eI).length = t.length:=List.length_map _
 have w1:w64 ((t.length:Int) + 1) = (t.length:Int) + 1:=w64_eq (by omega)
 have ht:0 ≤ y.tdiv 15∧y.tdiv 15 ≤ 1:=by
  rw [Int.tdiv_eq_ediv_of_nonneg (by omega)]
  omega
 have w2:w64 (y.tdiv 15) = y.tdiv 15:=w64_eq (by omega)
 have w3:w64 (x - y.tdiv 15) = x - y.tdiv 15:=w64_eq (by omega)
 simp only [eCode,dCode] at hfrom ⊢
 refine AFn.of_runs (cfg_ok 20) Try.func27 rfl rfl rfl (by simp only [List.length_cons,List.length_nil];decide) ?_
 have hres:Try.f27.results.toList = [.tmp 2,.tmp 3]:=rfl
 have hrts:Try.f27.resultTypes.toList = [24,2]:=rfl
 simp only [argRegs,argAV1,eL,eI,eLL,eB,Nat.zero_add,Nat.reduceAdd,eCode,dCode]
 intro M
 refine RunK.of ?_
 ((repeat' (first|with_reducible (first|refine Q1 ?_|refine Q2 ?_|refine Q3 ?_|refine Q4 ?_|refine Q5 ?_|refine Q6 ?_|refine Q7 ?_|refine Q8 ?_|refine Q9 ?_|refine Qa ?_|refine Qb ?_|refine Qc ?_|refine Qd ?_|refine Qe ?_|refine Qf ?_)|((with_reducible refine Qo ?_ ?_);focus rfl)|((with_reducible first|refine QT 6 (l:=?_) ?_ ?_|refine QF 6 (l:=?_) ?_ ?_);rotate_left 1;focus (simp only [Zu,Nat.reduceSub,Nat.reduceBEq];with_reducible rfl))|((with_reducible refine QC (b:=?_) ?_ ?_);rotate_left 1;focus ((with_reducible refine QW ?_);simp only [Zg,seval,if_true,if_false,reduceCtorEq,Nat.reduceEqDiff];with_reducible rfl))));((with_reducible refine QS (cfg_ok 20) Tab.none (s':=?_) ?_ ?_);rotate_left 1;focus ((with_reducible refine QW ?_);simp only [Zg,seval,if_true,if_false,reduceCtorEq,Nat.reduceEqDiff];with_reducible rfl));(repeat' (first|with_reducible (first|refine Q1 ?_|refine Q2 ?_|refine Q3 ?_|refine Q4 ?_|refine Q5 ?_|refine Q6 ?_|refine Q7 ?_|refine Q8 ?_|refine Q9 ?_|refine Qa ?_|refine Qb ?_|refine Qc ?_|refine Qd ?_|refine Qe ?_|refine Qf ?_)|((with_reducible refine Qo ?_ ?_);focus rfl)|((with_reducible first|refine QT 6 (l:=?_) ?_ ?_|refine QF 6 (l:=?_) ?_ ?_);rotate_left 1;focus (simp only [Zu,Nat.reduceSub,Nat.reduceBEq];with_reducible rfl))|((with_reducible refine QC (b:=?_) ?_ ?_);rotate_left 1;focus ((with_reducible refine QW ?_);simp only [Zg,seval,if_true,if_false,reduceCtorEq,Nat.reduceEqDiff];with_reducible rfl)))))
 ((repeat' (first|with_reducible (first|refine Q1 ?_|refine Q2 ?_|refine Q3 ?_|refine Q4 ?_|refine Q5 ?_|refine Q6 ?_|refine Q7 ?_|refine Q8 ?_|refine Q9 ?_|refine Qa ?_|refine Qb ?_|refine Qc ?_|refine Qd ?_|refine Qe ?_|refine Qf ?_)|((with_reducible refine Qo ?_ ?_);focus rfl)|((with_reducible first|refine QT 6 (l:=?_) ?_ ?_|refine QF 6 (l:=?_) ?_ ?_);rotate_left 1;focus (simp only [Zu,Nat.reduceSub,Nat.reduceBEq];with_reducible rfl))|((with_reducible refine QC (b:=?_) ?_ ?_);rotate_left 1;focus ((with_reducible refine QW ?_);simp only [Zg,seval,if_true,if_false,reduceCtorEq,Nat.reduceEqDiff];with_reducible rfl))));(with_reducible refine RunK.regCut (cfg_ok 20) Tab.none 1 (s1:=?_) ?_ ?_);rotate_left 1;(focus ((with_reducible refine QW ?_);simp only [Zg,seval,if_true,if_false,reduceCtorEq,Nat.reduceEqDiff];with_reducible rfl));simp only [List.toList_toArray,List.drop_succ_cons,List.drop_zero])
 refine ROps.callR (cfg_ok 20) rfl (d:=7) rfl (by decide) rfl rfl rfl rfl hfrom rfl ?_
 intro b
 (refine ROps.opsT (cfg_ok 20) (T:=Tab.none) (s':=?_) ?_ ?_;rotate_left 1;focus (simp only [Zg,seval,if_true,if_false,reduceCtorEq,Nat.reduceEqDiff];with_reducible rfl))
 ((repeat' (first|with_reducible (first|refine Q1 ?_|refine Q2 ?_|refine Q3 ?_|refine Q4 ?_|refine Q5 ?_|refine Q6 ?_|refine Q7 ?_|refine Q8 ?_|refine Q9 ?_|refine Qa ?_|refine Qb ?_|refine Qc ?_|refine Qd ?_|refine Qe ?_|refine Qf ?_)|((with_reducible refine Qo ?_ ?_);focus rfl)|((with_reducible first|refine QT 6 (l:=?_) ?_ ?_|refine QF 6 (l:=?_) ?_ ?_);rotate_left 1;focus (simp only [Zu,Nat.reduceSub,Nat.reduceBEq];with_reducible rfl))|((with_reducible refine QC (b:=?_) ?_ ?_);rotate_left 1;focus ((with_reducible refine QW ?_);simp only [Zg,seval,if_true,if_false,reduceCtorEq,Nat.reduceEqDiff,TDw,hd1,drwE,srcD_len];with_reducible rfl))));(with_reducible refine RunK.regCut (cfg_ok 20) (TDw hc hl) 0 (s1:=?_) ?_ ?_);rotate_left 1;(focus ((with_reducible refine QW ?_);simp only [Zg,seval,if_true,if_false,reduceCtorEq,Nat.reduceEqDiff,TDw,hd1,drwE,srcD_len];with_reducible rfl));simp only [List.toList_toArray,List.drop_succ_cons,List.drop_zero])
 (refine ROps.opsT (cfg_ok 20) (T:=TDw hc hl) (s':=?_) ?_ ?_;rotate_left 1;focus (simp only [Zg,seval,if_true,if_false,reduceCtorEq,Nat.reduceEqDiff,TDw,hd1,drwE,srcD_len];with_reducible rfl))
 repeat' (first|with_reducible (first|refine Q1 ?_|refine Q2 ?_|refine Q3 ?_|refine Q4 ?_|refine Q5 ?_|refine Q6 ?_|refine Q7 ?_|refine Q8 ?_|refine Q9 ?_|refine Qa ?_|refine Qb ?_|refine Qc ?_|refine Qd ?_|refine Qe ?_|refine Qf ?_)|((with_reducible refine Qo ?_ ?_);focus rfl)|((with_reducible first|refine QT 6 (l:=?_) ?_ ?_|refine QF 6 (l:=?_) ?_ ?_);rotate_left 1;focus (simp only [Zu,Nat.reduceSub,Nat.reduceBEq];with_reducible rfl))|((with_reducible first|refine QS (cfg_ok 20) (TDw hc hl) (s':=?_) ?_ ?_|refine QC (b:=?_) ?_ ?_);rotate_left 1;focus ((with_reducible refine QW ?_);simp only [Zg,seval,if_true,if_false,reduceCtorEq,Nat.reduceEqDiff,TDw,hdr2,hdr3,drwE,nxtE,srcD_len,hlm,w1,w2,w3];with_reducible rfl)))
 (refine Ends.mk (by simp) (rs:=?_) (ks:=?_) hres hrts ?_ ?_ ?_;rotate_left 2;(focus (simp only [Ze,Zg,seval,if_true,if_false,reduceCtorEq,Nat.reduceEqDiff];with_reducible rfl));(focus simp);focus (first|with_reducible rfl|(simp only [Zv];done)))
theorem a_DrawRerootAt {code:List Int} (hc:Bytes code) (hl:code.length ≤ 1000000000):AFn Try.prog 36 [eCode code] (· = [.own 1 ((drawCA code).1.map eI) true,.val (.int (drawCA code).2)]):=by
 have h:=a_DrawCutAbove hc hl
 simp only [eCode,dCode] at h ⊢
 refine AFn.of_runs (cfg_ok 8) Try.func36 rfl rfl rfl (by simp only [List.length_cons,List.length_nil];decide) ?_
 have hres:Try.f36.results.toList = [.tmp 2,.tmp 3]:=rfl
 have hrts:Try.f36.resultTypes.toList = [24,2]:=rfl
 simp only [argRegs,argAV1,eL,eI,eLL,eB,Nat.zero_add,Nat.reduceAdd,eCode,dCode]
 intro M
 refine RunK.of ?_
 repeat' (first|with_reducible (first|refine Q1 ?_|refine Q2 ?_|refine Q3 ?_|refine Q4 ?_|refine Q5 ?_|refine Q6 ?_|refine Q7 ?_|refine Q8 ?_|refine Q9 ?_|refine Qa ?_|refine Qb ?_|refine Qc ?_|refine Qd ?_|refine Qe ?_|refine Qf ?_)|((with_reducible refine Qo ?_ ?_);focus rfl)|((with_reducible first|refine QT 4 (l:=?_) ?_ ?_|refine QF 4 (l:=?_) ?_ ?_);rotate_left 1;focus (simp only [Zu,Nat.reduceSub,Nat.reduceBEq];with_reducible rfl))|((with_reducible first|refine QS (cfg_ok 8) (Tab.none.at' 27 h) (s':=?_) ?_ ?_|refine QC (b:=?_) ?_ ?_);rotate_left 1;focus ((with_reducible refine QW ?_);simp only [Zg,seval,if_true,if_false,reduceCtorEq,Nat.reduceEqDiff];with_reducible rfl)))
 (refine Ends.mk (by simp) (rs:=?_) (ks:=?_) hres hrts ?_ ?_ ?_;rotate_left 2;(focus (simp only [Ze,Zg,seval,if_true,if_false,reduceCtorEq,Nat.reduceEqDiff];with_reducible rfl));(focus simp);focus (first|with_reducible rfl|(simp only [Zv];done)))
end Go.Proofs.Ytofpjonggpjneaa
namespace Go.Proofs.Ytofpjonggpjneaa
open Go.RowKit
theorem AOk.small {n:Nat} {t:List Int} (h:AOk n t) (hn:n ≤ 1000):t.length ≤ 1000:=by have:=h.len;omega
theorem tmsF_nn {L:List (List Int × Int)} (h:∀ z ∈ L,0 ≤ z.2) (t:List Int):∀ i,i ≤ L.length→0 ≤ tmsF L t i
 | 0,_ => by simp [tmsF]
 | i + 1,hi => by
  have h1:=tmsF_nn h t i (by omega)
  have e:L.getD i ([],0) = L[i]:=by rw [List.getD_eq_getElem?_getD,List.getElem?_eq_getElem (by omega)];rfl
  have h2:=h L[i] (List.getElem_mem _)
  unfold tmsF
  rw [e]
  split <;> omega
theorem tmsF_pos {L:List (List Int × Int)} (h:∀ z ∈ L,1 ≤ z.2) {t:List Int} (hm:∃ z ∈ L,z.1 = t):1 ≤ tmsF L t L.length:=by
 obtain ⟨z,hz,e⟩:=hm
 obtain ⟨k,hk,rfl⟩:=List.mem_iff_getElem.1 hz
 have key:∀ j,k < j→j ≤ L.length→1 ≤ tmsF L t j:=by
  intro j
  induction j with
  | zero => intro h;omega
  | succ j ih =>
   intro h1 h2
   have e2:L.getD j ([],0) = L[j]:=by rw [List.getD_eq_getElem?_getD,List.getElem?_eq_getElem (by omega)];rfl
   have h3:=h L[j] (List.getElem_mem _)
   have h4:=tmsF_nn (fun z hz => by have:=h z hz;omega) t j (by omega)
   unfold tmsF
   rw [e2]
   by_cases hkj:k = j
   ·subst hkj
    rw [if_pos e];omega
   ·have:=ih (by omega) (by omega)
    split <;> omega
 exact key _ hk (Nat.le_refl _)
theorem totF_bd {L:List (List Int × Int)} (h:∀ z ∈ L,0 ≤ z.2∧z.2 ≤ 1000):∀ i,i ≤ L.length→0 ≤ totF L i∧totF L i ≤ 1000 * i
 | 0,_ => by simp [totF]
 | i + 1,hi => by
  have h1:=totF_bd h i (by omega)
  have e:L.getD i ([],0) = L[i]:=by rw [List.getD_eq_getElem?_getD,List.getElem?_eq_getElem (by omega)];rfl
  have h2:=h L[i] (List.getElem_mem _)
  unfold totF
  rw [e]
  omega
end Go.Proofs.Ytofpjonggpjneaa
namespace Go.Proofs.Ytofpjonggpjneaa
open Go.RowKit
theorem totF_exp (L:List (List Int × Int)) (h:∀ z ∈ L,1 ≤ z.2):∀ i,i ≤ L.length→totF L i = ((expN (L.take i)).length:Int)
 | 0,_ => by simp [totF,expN]
 | i + 1,hi => by
  have e:L.getD i ([],0) = L[i]:=by rw [List.getD_eq_getElem?_getD,List.getElem?_eq_getElem (by omega)];rfl
  have h1:=h L[i] (List.getElem_mem _)
  unfold totF
  rw [totF_exp L h i (by omega),List.take_succ_eq_append_getElem (by omega),expN_app,List.length_append,e]
  show _ = ((_ + (List.flatMap (fun p:List Int × Int => List.replicate p.2.toNat p.1) [L[i]]).length:Nat):Int)
  simp only [List.flatMap_cons,List.flatMap_nil,List.append_nil,List.length_replicate]
  omega
theorem totF_sum (ts:List (List Int)):totF (sumOf ts) (sumOf ts).length = (ts.length:Int):=by
 have h:=sumOf_is ts
 rw [totF_exp _ h.1.2 _ (Nat.le_refl _),List.take_length,h.2.length_eq]
structure RoF (t u:List Int) (L:List (List Int × Int)) (f:List Int) (d:Bool):Prop where
 u8:lev8 u = true
 rt:rtsOf t = (L,0)
 ru:rtsOf u = (L,0)
 fr:frOf t = (f,0)
 sf:asfOf t u = (true,0)
 st:supOf t = (d,0)
 su:supOf u = (d,0)
 pos:1 ≤ L.length∧L.length ≤ 8
 hd:(L.getD 0 ([],0)).1 = f
 all:∀ z ∈ L,z.1.length ≤ 8∧1 ≤ z.2∧z.2 ≤ 8
 tot:totF L L.length = (t.length:Int)
 mem:∃ z ∈ L,z.1 = u
 dbl:d = (Nat.beq (t.length % 2) 0 && (treesN (t.length / 2)).any fun p => decide (∃ z ∈ L,z.1 = bpT p))
theorem turn_can {t:List Int} (h:lev8 t = true) {n:Nat} (hn:n < t.length):canon (turnF 8 t n) = turnF 8 t n:=by
 unfold turnF
 split
 ·exact canon_idem (lev8_lev h)
 ·rename_i h0
  have hc:=cuts_lev h (by omega) hn
  have hp:=par_ok h (by omega) hn
  have hp2:=par_lt t n
  have hlt:(parAt t n).toNat < (cutT t n).length:=by
   unfold cutT
   rw [List.length_append,List.length_take]
   omega
  have ih:=turnF_lev 7 (cutT t n) (parAt t n).toNat hc.1 hlt
  exact canon_idem (append_lev (lev8_lev hc.2) ih.1)
theorem ro_all {t:List Int} (h:lev8 t = true) {n:Nat} (hn:n < t.length):∃ L f d,RoF t (turnF 8 (canon t) n) L f d:=by
 have hu:=lev8_canon h
 have hul:=canon_len (lev8_lev h)
 have ht8:=lev8_len h
 have hpos:=(lev8_lev h).pos
 obtain ⟨v,hv⟩:∃ v,v = canon t:=⟨_,rfl⟩
 have hvc:canon v = v:=by rw [hv];exact canon_idem (lev8_lev h)
 rw [← hv] at hu hul ⊢
 obtain ⟨u,hU⟩:∃ u,u = turnF 8 v n:=⟨_,rfl⟩
 have hl:=turnF_lev 8 v n hu (by omega)
 have huc:=turn_can hu (n:=n) (by omega)
 rw [← hU] at hl huc ⊢
 have u8:lev8 u = true:=lev8_mk hl.1 (by omega)
 have hm:∀ {x:List Int},lev8 x = true→canon x = x→x ∈ trees8:=fun h1 h2 => mem_trees8 h1 h2
 have hmem:u ∈ roots v:=by
  rw [hU]
  unfold roots
  exact List.mem_map.2 ⟨n,List.mem_range.2 (by omega),rfl⟩
 have s1:∀ {x:List Int},x ∈ trees8→sumOf (roots x) = sumOf (roots (freeT x)):=fun hx => of_decide_eq_true (List.all_eq_true.1 ro_1 _ hx)
 have hd1:∀ x,headT (sumOf (roots x)) = freeT x:=fun x => headT_sumOf _
 have hff:freeT (freeT v) = freeT v:=by
  have e:=s1 (hm hu hvc)
  rw [← hd1 (freeT v),← e,hd1]
 have perm:∀ {x y:List (List Int)},sumOf x = sumOf y→x.Perm y:=fun {x y} e => by
  have h1:=(sumOf_is x).2
  have h2:=(sumOf_is y).2
  rw [e] at h1
  exact h1.symm.trans h2
 have hfm:freeT v ∈ trees8:=by
  have:freeT v ∈ roots v:=by
   have h0:0 < (roots v).length:=by rw [roots_len];omega
   have hne:sumOf (roots v) ≠ []:=by
    intro e
    have:=(sumOf_is (roots v)).2.length_eq
    rw [e] at this
    simp [expN] at this
    omega
   have hk:=(sumOf_is (roots v)).key
   rw [← hd1 v]
   unfold headT
   cases hs:sumOf (roots v) with
   | nil => exact absurd hs hne
   | cons z s => exact hk z (by rw [hs];simp)
  unfold roots at this
  obtain ⟨k,hk,e⟩:=List.mem_map.1 this
  have hk:=List.mem_range.1 hk
  have g1:=turnF_lev 8 v k hu hk
  have g2:=turn_can hu hk
  rw [e] at g1 g2
  exact hm (lev8_mk g1.1 (by omega)) g2
 have s2:∀ {x:List Int},x ∈ roots (freeT v)→sumOf (roots x) = sumOf (roots (freeT v)):=fun {x} hx => by
  have k:=List.all_eq_true.1 ro_2 _ hfm
  unfold roOK at k
  rw [Bool.or_eq_true] at k
  have k:=k.resolve_left (fun e => by rw [decide_eq_true hff] at e;cases e)
  exact of_decide_eq_true (List.all_eq_true.1 k x hx)
 have e1:sumOf (roots v) = sumOf (roots (freeT v)):=s1 (hm hu hvc)
 have e2:sumOf (roots u) = sumOf (roots v):=(s2 ((perm e1).mem_iff.1 hmem)).trans e1.symm
 have ef:freeT u = freeT v:=by rw [← hd1 u,e2,hd1]
 have s3:∀ {x:List Int},x ∈ trees8→isSup x = isSup (freeT x):=fun hx => by simpa using List.all_eq_true.1 ro_3 _ hx
 have hsu:isSup u = isSup v:=by rw [s3 (hm u8 huc),ef,← s3 (hm hu hvc)]
 have et:sumOf (roots t) = sumOf (roots v):=by
  have:=rts_eq h
  rw [← hv,cntOf_sumOf] at this
  exact this.symm
 have his:=sumOf_is (roots v)
 have hlen:=his.len
 rw [roots_len] at hlen
 have hne:sumOf (roots v) ≠ []:=by
  intro e
  have:=his.2.length_eq
  rw [e,roots_len] at this
  simp [expN] at this
  omega
 refine ⟨sumOf (roots v),freeT v,isSup v,u8,by unfold rtsOf;rw [if_pos h,et],by unfold rtsOf;rw [if_pos u8,e2],by unfold frOf;rw [if_pos h,hv],?_,by rw [supOf_ok h,hv],by rw [supOf_ok u8,huc,hsu],⟨List.length_pos_iff.2 hne,by omega⟩,?_,fun z hz => ?_,?_,?_,?_⟩
 ·unfold asfOf
  rw [h,u8,huc,← hv,ef]
  simp
 ·rw [← hd1 v]
  unfold headT
  cases hs:sumOf (roots v) with
  | nil => exact absurd hs hne
  | cons z s => rfl
 ·have k1:=his.key z hz
  have k2:=his.cnt z hz
  rw [roots_len] at k2
  exact ⟨roots_size hu _ k1,k2.1,by omega⟩
 ·have:=totF_sum (roots v)
  rw [roots_len,hul] at this
  exact this
 ·obtain ⟨z,hz,e⟩:=expN_mem (his.2.mem_iff.2 hmem)
  exact ⟨z,hz,e⟩
 ·have k:isSup v = (Nat.beq (v.length % 2) 0 && halfQ v):=by simpa using List.all_eq_true.1 ro_4 _ (hm hu hvc)
  rw [k,hul]
  unfold halfQ
  rw [hul]
  congr 1
  have hiff:∀ x,x ∈ roots v ↔ ∃ z ∈ sumOf (roots v),z.1 = x:=fun x => by
   refine ⟨fun hx => ?_,fun ⟨z,hz,e⟩ => ?_⟩
   ·obtain ⟨z,hz,e⟩:=expN_mem (his.2.mem_iff.2 hx)
    exact ⟨z,hz,e⟩
   ·rw [← e];exact his.key z hz
  have hfun:(fun p => decide (bpT p ∈ roots v)) = fun p => decide (∃ z ∈ sumOf (roots v),z.1 = bpT p):=by
   funext p
   exact decide_eq_decide.2 (hiff _)
  rw [hfun]
end Go.Proofs.Ytofpjonggpjneaa
namespace Go.Proofs.Ytofpjonggpjneaa
open Go.RowKit
def SmF (f:List (List Int)):Prop:=f.length ≤ 19∧sumLen f ≤ 100
instance (f:List (List Int)):Decidable (SmF f):=inferInstanceAs (Decidable (_∧_))
theorem SmF.b {f:List (List Int)} (h:SmF f):∀ b ∈ f,b.length ≤ 1000:=fun b hb => by have:=sumLen_mem hb;have:=h.2;omega
end Go.Proofs.Ytofpjonggpjneaa
namespace Go.Proofs.Ytofpjonggpjneaa
open Go.RowKit
theorem AFn.valT2 {P:Program} {f:FuncId} {ds:List (List D)} {k:Nat} {xs:List (List D)} {c:Int} (h:AFn P f ds (· = [.own k xs true,.val (.int c)])):AFn P f ds (· = [.val (.sl k xs),.val (.int c)]):=by
 refine ⟨h.call,fun A w vs hA hr => (h.fn A w vs hA hr).mono ?_⟩
 rintro e w' ⟨v,rs,rfl,rfl,hb,us,G,X,rfl,hG1,hG2,hrel⟩
 obtain ⟨v1,us1,G1,G2,Y1,Y2,rfl,e1,e2,ho,⟨og,cap,F,dd,rfl,hrow,hk,e3,e4,hel⟩,hrest⟩:=hrel
 have hel:ownR k w' dd xs F:=hel
 have hv:=ownV_sl.2 ⟨og,dd,F,hrow,hel,rfl⟩
 obtain ⟨v2,us2,G3,G4,Y3,Y4,rfl,f1,f2,ho2,⟨hv2,f3,f4⟩,hend⟩:=hrest
 have hend:us2 = []∧G4 = []∧Y4 = []:=hend
 obtain ⟨rfl,rfl,rfl⟩:=hend
 refine ⟨_,_,rfl,rfl,hb,[_,_],[],[],rfl,List.nodup_nil,(fun b hb => nomatch hb),_,[_],[],[],[],[],rfl,rfl,rfl,ho,⟨?_,rfl,rfl⟩,_,[],[],[],[],[],rfl,rfl,rfl,ho2,⟨rdV_int.2 (rdV_int.1 hv2),rfl,rfl⟩,rfl,rfl,rfl⟩
 exact hv.rd.mono (fun b hb _ => ⟨.inr (hG2 b (by
  rw [e1,e3]
  exact List.mem_append_left _ (by simpa using hb))),by simp⟩)
end Go.Proofs.Ytofpjonggpjneaa
namespace Go.Proofs.Ytofpjonggpjneaa
open Go.RowKit
section
variable {P:Program} {cfg:Cfg} {M:Nat→Prop} {ops:Array Oper} {s:St}
theorem ROps.givesW (o:Oper) {l:List Oper} {Q:St→Prop} {d:Nat} {av:AV} (hw:awanted ops s.regs o = some true) (hd:o.dst = some d) (hdN:d < cfg.N)
  (hG:∀ {w0:W0} {Ok σ a w},Sim w0 Ok cfg.N σ s a w→Gives P a w o (relAV σ s.heap w av)) (h:ROps P cfg M ops l Q ⟨insR d av s.regs,s.heap⟩):ROps P cfg M ops (o :: l) Q s:=by
 intro w0 Ok σ a w Q' hM hS hQ
 refine wpList_step (fun K hK => ?_)
 rw [awanted_spec hS hw]
 simp only [if_true]
 obtain ⟨v,h1,h2⟩:=hG hS
 unfold Oper.wp
 rw [h1]
 show K (a.put o.dst _) _
 rw [hd]
 exact hK _ _ (h w0 Ok σ _ _ Q' hM (Sim.ins hS hdN h2) hQ)
theorem bool_at {w0:W0} {Ok:Nat→Prop} {N:Nat} {σ:Asg} {a:Act} {w:World} (hS:Sim w0 Ok N σ s a w) {z:Operand} {k:Bool} (hz:(opv s.regs z).bind avB = some k):a.eval z = .bool k:=by
 obtain ⟨hv,h3,h4⟩:=bind_some hz
 have hr:=opv_rel hS h3
 unfold avB at h4
 split at h4
 ·cases h4;exact rdV_bool.1 hr.2
 ·cases h4
theorem ROps.boolNe {o:Oper} {l:List Oper} {Q:St→Prop} {x y:Operand} {t u:TypeId} {d:Nat} {m n:Bool} (hu:P.underlying t = some .bool) (ho:o.op = .binOp .neq t x y u) (hw:awanted ops s.regs o = some true) (hd:o.dst = some d) (hdN:d < cfg.N)
  (hx:(opv s.regs x).bind avB = some m) (hy:(opv s.regs y).bind avB = some n) (h:ROps P cfg M ops l Q ⟨insR d (dval (.bool (m != n))) s.regs,s.heap⟩):ROps P cfg M ops (o :: l) Q s:=by
 refine ROps.givesW o hw hd hdN (fun {w0 Ok σ a w} hS => ?_) h
 have e1:=bool_at hS hx
 have e2:=bool_at hS hy
 refine ⟨.bool (m != n),?_,rfl,rdV_bool.2 rfl⟩
 unfold execOp
 rw [ho]
 cases m <;> cases n <;> simp [e1,e2,eqGuard,Go.binOp,run_equal_bool w t _ _ hu]
theorem ROps.boolEq {o:Oper} {l:List Oper} {Q:St→Prop} {x y:Operand} {t u:TypeId} {d:Nat} {m n:Bool} (hu:P.underlying t = some .bool) (ho:o.op = .binOp .eql t x y u) (hw:awanted ops s.regs o = some true) (hd:o.dst = some d) (hdN:d < cfg.N)
  (hx:(opv s.regs x).bind avB = some m) (hy:(opv s.regs y).bind avB = some n) (h:ROps P cfg M ops l Q ⟨insR d (dval (.bool (m == n))) s.regs,s.heap⟩):ROps P cfg M ops (o :: l) Q s:=by
 refine ROps.givesW o hw hd hdN (fun {w0 Ok σ a w} hS => ?_) h
 have e1:=bool_at hS hx
 have e2:=bool_at hS hy
 refine ⟨.bool (m == n),?_,rfl,rdV_bool.2 rfl⟩
 unfold execOp
 rw [ho]
 cases m <;> cases n <;> simp [e1,e2,eqGuard,Go.binOp,run_equal_bool w t _ _ hu]
end
end Go.Proofs.Ytofpjonggpjneaa
namespace Go.Proofs.Ytofpjonggpjneaa
open Go.RowKit
set_option maxRecDepth 100000 in
theorem half_check:[1,2,3,4].all (fun k => (treesN k).all fun p => lev8 p && decide (canon p = p) && Nat.beq p.length k) = true:=by decide +kernel
theorem half_all {k:Nat} (h1:1 ≤ k) (h4:k ≤ 4):∀ p ∈ treesN k,lev8 p = true∧canon p = p∧p.length = k:=fun p hp => by
 have hk:k ∈ [1,2,3,4]:=by
  match k,h1,h4 with
  | 1,_,_|2,_,_|3,_,_|4,_,_ => simp
 have:=List.all_eq_true.1 (List.all_eq_true.1 half_check k hk) p hp
 simp only [Bool.and_eq_true,decide_eq_true_eq] at this
 exact ⟨this.1.1,this.1.2,Nat.eq_of_beq_eq_true this.2⟩
theorem half_len:[1,2,3,4].all (fun k => Nat.ble (treesN k).length 4) = true:=by decide +kernel
theorem tmsF_zero {L:List (List Int × Int)} {t:List Int} (h:∀ z ∈ L,z.1 ≠ t):∀ i,i ≤ L.length→tmsF L t i = 0
 | 0,_ => rfl
 | i + 1,hi => by
  have e:L.getD i ([],0) = L[i]:=by rw [List.getD_eq_getElem?_getD,List.getElem?_eq_getElem (by omega)];rfl
  unfold tmsF
  rw [e,if_neg (h _ (List.getElem_mem _)),tmsF_zero h i (by omega)]
def fndQ (L:List (List Int × Int)) (p:List Int):Bool:=decide (∃ z ∈ L,z.1 = bpT p)
theorem any_take {α:Type} (f:α→Bool) (l:List α) (i:Nat) (hi:i < l.length):(l.take (i + 1)).any f = ((l.take i).any f || f l[i]):=by
 rw [List.take_succ_eq_append_getElem hi,List.any_append];simp
noncomputable def TRoo:Tab Try.prog :=
 (Tab.none.add 39 (tab1 codL fun t => some [.own 2 ((rtsOf t).1.map eCt) true,.val (.int (rtsOf t).2)]) (tab1_ok fun t rs h => by cases h;exact a_impl_RootsOf t)).add
  42 (tab1 codL fun t => some [.val (.bool (supOf t).1),.val (.int (supOf t).2)]) (tab1_ok fun t rs h => by cases h;exact a_impl_IsSuperfluous t)
set_option maxRecDepth 20000 in
set_option maxHeartbeats 16000000 in
theorem a_FnRoots (code:List Int) (hc:Bytes code):AFn Try.prog 6 [eCode code] (· = [.val (.bool true)]):=by
 have hbg:=a_big code
 by_cases hbig:4096 < code.length
 ·rw [decide_eq_true hbig] at hbg
  simp only [eCode,dCode] at hbg
  refine AFn.of_runs (cfg_ok 231) Try.func6 rfl rfl rfl (by simp only [List.length_cons,List.length_nil];decide) ?_
  have hres:Try.f6.results.toList = [.tmp 2]:=rfl
  have hrts:Try.f6.resultTypes.toList = [4]:=rfl
  simp only [argRegs,argAV1,eL,eI,eLL,eB,Nat.zero_add,Nat.reduceAdd,eCode,dCode]
  intro M
  refine RunK.of ?_
  repeat' (first|with_reducible (first|refine Q1 ?_|refine Q2 ?_|refine Q3 ?_|refine Q4 ?_|refine Q5 ?_|refine Q6 ?_|refine Q7 ?_|refine Q8 ?_|refine Q9 ?_|refine Qa ?_|refine Qb ?_|refine Qc ?_|refine Qd ?_|refine Qe ?_|refine Qf ?_)|((with_reducible refine Qo ?_ ?_);focus rfl)|((with_reducible first|refine QT 30 (l:=?_) ?_ ?_|refine QF 30 (l:=?_) ?_ ?_);rotate_left 1;focus (simp only [Zu,Nat.reduceSub,Nat.reduceBEq];with_reducible rfl))|((with_reducible first|refine QS (cfg_ok 231) (Tab.none.at' 13 hbg) (s':=?_) ?_ ?_|refine QC (b:=?_) ?_ ?_);rotate_left 1;focus ((with_reducible refine QW ?_);simp only [Zg,seval,if_true,if_false,reduceCtorEq,Nat.reduceEqDiff];with_reducible rfl))|((with_reducible refine QD (cfg_ok 231) (Tab.none.at' 13 hbg) mixed_ok (tr:=?_) (s':=?_) ?_ ?_ ?_);rotate_left 2;(focus ((with_reducible refine QW ?_);simp only [Zg,Zd,seval,if_true,if_false,reduceCtorEq,Nat.reduceEqDiff];with_reducible rfl));focus ((with_reducible refine QK ?_);simp only [Zk];kernel_rfl)))
  (refine Ends.mk (by simp) (rs:=?_) (ks:=?_) hres hrts ?_ ?_ ?_;rotate_left 2;(focus (simp only [Ze,Zg,seval,if_true,if_false,reduceCtorEq,Nat.reduceEqDiff];with_reducible rfl));(focus simp);focus (first|with_reducible rfl|(simp only [Zv];done)))
 rw [decide_eq_false hbig] at hbg
 have hl:code.length ≤ 1000000000:=by omega
 have hdr:=a_DrawRerootAt hc hl
 obtain ⟨ht0,hn0⟩:=drawCA_ok hc
 obtain ⟨⟨t,nd⟩,hp⟩:∃ p,p = drawCA code:=⟨_,rfl⟩
 rw [← hp] at hdr ht0 hn0
 simp only at hdr ht0 hn0
 have ht1:=ht0.small (by omega)
 have h1:=a_impl_RerootAt t nd
 have h2:=a_spec_RerootAt t nd (by omega)
 have b0:((0:Int) != 0) = false:=by decide
 have b1:((1:Int) != 0) = true:=by decide
 have b2:((2:Int) != 0) = true:=by decide
 have b11:((1:Int) != 1) = false:=by decide
 have b22:((2:Int) != 2) = false:=by decide
 have b00:((0:Int) == 0) = true:=by decide
 have htm:(t.map eI).length = t.length:=List.length_map _
 simp only [eCode,dCode,eL,eI] at hbg hdr h1 h2
 by_cases h8:lev8 t = true
 rotate_left
 ·rw [rrOf_bad (by simpa using h8)] at h1 h2
  refine AFn.of_runs (cfg_ok 231) Try.func6 rfl rfl rfl (by simp only [List.length_cons,List.length_nil];decide) ?_
  have hres:Try.f6.results.toList = [.tmp 2]:=rfl
  have hrts:Try.f6.resultTypes.toList = [4]:=rfl
  simp only [argRegs,argAV1,eL,eI,eLL,eB,Nat.zero_add,Nat.reduceAdd,eCode,dCode]
  intro M
  refine RunK.of ?_
  repeat' (first|with_reducible (first|refine Q1 ?_|refine Q2 ?_|refine Q3 ?_|refine Q4 ?_|refine Q5 ?_|refine Q6 ?_|refine Q7 ?_|refine Q8 ?_|refine Q9 ?_|refine Qa ?_|refine Qb ?_|refine Qc ?_|refine Qd ?_|refine Qe ?_|refine Qf ?_)|((with_reducible refine Qo ?_ ?_);focus rfl)|((with_reducible first|refine QT 30 (l:=?_) ?_ ?_|refine QF 30 (l:=?_) ?_ ?_);rotate_left 1;focus (simp only [Zu,Nat.reduceSub,Nat.reduceBEq];with_reducible rfl))|((with_reducible first|refine QS (cfg_ok 231) ((((Tab.none.at' 13 hbg).at' 36 hdr).at' 37 h1).at' 38 h2) (s':=?_) ?_ ?_|refine QC (b:=?_) ?_ ?_);rotate_left 1;focus ((with_reducible refine QW ?_);simp only [Zg,seval,if_true,if_false,reduceCtorEq,Nat.reduceEqDiff,b1,b11,b00,List.map_nil,List.length_nil,Int.natCast_zero];with_reducible rfl))|((with_reducible refine QD (cfg_ok 231) ((((Tab.none.at' 13 hbg).at' 36 hdr).at' 37 h1).at' 38 h2) mixed_ok (tr:=?_) (s':=?_) ?_ ?_ ?_);rotate_left 2;(focus ((with_reducible refine QW ?_);simp only [Zg,Zd,seval,if_true,if_false,reduceCtorEq,Nat.reduceEqDiff,b1,b11,b00,List.map_nil,List.length_nil,Int.natCast_zero];with_reducible rfl));focus ((with_reducible refine QK ?_);simp only [Zk];kernel_rfl)))
  (refine Ends.mk (by simp) (rs:=?_) (ks:=?_) hres hrts ?_ ?_ ?_;rotate_left 2;(focus (simp only [Ze,Zg,seval,if_true,if_false,reduceCtorEq,Nat.reduceEqDiff];with_reducible rfl));(focus simp);focus (first|with_reducible rfl|(simp only [Zv];done)))
 by_cases hin:inR nd 0 ((t.length:Int) - 1) = true
 rotate_left
 ·rw [rrOf_range h8 (by simpa using hin)] at h1 h2
  refine AFn.of_runs (cfg_ok 231) Try.func6 rfl rfl rfl (by simp only [List.length_cons,List.length_nil];decide) ?_
  have hres:Try.f6.results.toList = [.tmp 2]:=rfl
  have hrts:Try.f6.resultTypes.toList = [4]:=rfl
  simp only [argRegs,argAV1,eL,eI,eLL,eB,Nat.zero_add,Nat.reduceAdd,eCode,dCode]
  intro M
  refine RunK.of ?_
  repeat' (first|with_reducible (first|refine Q1 ?_|refine Q2 ?_|refine Q3 ?_|refine Q4 ?_|refine Q5 ?_|refine Q6 ?_|refine Q7 ?_|refine Q8 ?_|refine Q9 ?_|refine Qa ?_|refine Qb ?_|refine Qc ?_|refine Qd ?_|refine Qe ?_|refine Qf ?_)|((with_reducible refine Qo ?_ ?_);focus rfl)|((with_reducible first|refine QT 30 (l:=?_) ?_ ?_|refine QF 30 (l:=?_) ?_ ?_);rotate_left 1;focus (simp only [Zu,Nat.reduceSub,Nat.reduceBEq];with_reducible rfl))|((with_reducible first|refine QS (cfg_ok 231) ((((Tab.none.at' 13 hbg).at' 36 hdr).at' 37 h1).at' 38 h2) (s':=?_) ?_ ?_|refine QC (b:=?_) ?_ ?_);rotate_left 1;focus ((with_reducible refine QW ?_);simp only [Zg,seval,if_true,if_false,reduceCtorEq,Nat.reduceEqDiff,b2,b22,b00,List.map_nil,List.length_nil,Int.natCast_zero];with_reducible rfl))|((with_reducible refine QD (cfg_ok 231) ((((Tab.none.at' 13 hbg).at' 36 hdr).at' 37 h1).at' 38 h2) mixed_ok (tr:=?_) (s':=?_) ?_ ?_ ?_);rotate_left 2;(focus ((with_reducible refine QW ?_);simp only [Zg,Zd,seval,if_true,if_false,reduceCtorEq,Nat.reduceEqDiff,b2,b22,b00,List.map_nil,List.length_nil,Int.natCast_zero];with_reducible rfl));focus ((with_reducible refine QK ?_);simp only [Zk];kernel_rfl)))
  (refine Ends.mk (by simp) (rs:=?_) (ks:=?_) hres hrts ?_ ?_ ?_;rotate_left 2;(focus (simp only [Ze,Zg,seval,if_true,if_false,reduceCtorEq,Nat.reduceEqDiff];with_reducible rfl));(focus simp);focus (first|with_reducible rfl|(simp only [Zv];done)))
 have hin':=hin
 unfold inR at hin'
 simp only [Bool.and_eq_true,decide_eq_true_eq] at hin'
 obtain ⟨n,rfl⟩:∃ n:Nat,nd = n:=⟨nd.toNat,by omega⟩
 rw [rrOf_ok h8 hin] at h1 h2
 obtain ⟨L,f,d,F⟩:=ro_all h8 (n:=n) (by omega)
 obtain ⟨u,hu⟩:∃ u,u = turnF 8 (canon t) n:=⟨_,rfl⟩
 rw [← hu] at h1 h2 F
 have ht8:=lev8_len h8
 have hu8:=lev8_len F.u8
 have hff:=a_impl_FreeForm t
 rw [F.fr] at hff
 have has:=a_impl_AreSameFree t u
 rw [F.sf] at has
 have r1:(rtsOf t).1 = L:=by rw [F.rt]
 have r2:(rtsOf t).2 = 0:=by rw [F.rt]
 have r3:(rtsOf u).1 = L:=by rw [F.ru]
 have r4:(rtsOf u).2 = 0:=by rw [F.ru]
 have r5:(supOf t).1 = d:=by rw [F.st]
 have r6:(supOf t).2 = 0:=by rw [F.st]
 have r7:(supOf u).1 = d:=by rw [F.su]
 have r8:(supOf u).2 = 0:=by rw [F.su]
 have f1:=F.pos;have f2:=F.hd;have f3:=F.all;have f4:=F.tot;have f5:=F.mem;have f6:=F.dbl
 have hlm:(L.map eCt).length = L.length:=List.length_map _
 obtain ⟨c0,hg0⟩:∃ c0:Int,(L.map eCt)[0]? = some [.sl 1 (f.map eI),.int c0]:=by
  have h0:0 < L.length:=by omega
  have e:L.getD 0 ([],0) = L[0]:=by rw [List.getD_eq_getElem?_getD,List.getElem?_eq_getElem h0];rfl
  rw [e] at f2
  exact ⟨L[0].2,by rw [List.getElem?_map,List.getElem?_eq_getElem h0,← f2];rfl⟩
 have hfl:f.length ≤ 8:=by
  have h0:0 < L.length:=by omega
  have e:L.getD 0 ([],0) = L[0]:=by rw [List.getD_eq_getElem?_getD,List.getElem?_eq_getElem h0];rfl
  rw [e] at f2
  rw [← f2];exact (f3 _ (List.getElem_mem _)).1
 have l1:(f.length ≤ 1000) = True:=eq_true (by omega)
 have l2:decide (f = f) = true:=decide_eq_true rfl
 have i0a:((0:Int) ≤ 0) = True:=eq_true (by omega)
 have i0b:((0:Int) < (L.length:Int)) = True:=eq_true (by omega)
 have t0:(0:Int).toNat = 0:=rfl
 have bL:((L.length:Int) != (L.length:Int)) = false:=by simp
 have bL0:((L.length:Int) == 0) = false:=by simp only [beq_eq_false_iff_ne,ne_eq];omega
 have bd:(d != d) = false:=by simp
 have hlf:=a_likeInts f f (by omega)
 rw [l2] at hlf
 simp only [eL] at hff has hlf
 refine AFn.of_runs (cfg_ok 231) Try.func6 rfl rfl rfl (by simp only [List.length_cons,List.length_nil];decide) ?_
 have hres:Try.f6.results.toList = [.tmp 2]:=rfl
 have hrts:Try.f6.resultTypes.toList = [4]:=rfl
 simp only [argRegs,argAV1,eL,eI,eLL,eB,Nat.zero_add,Nat.reduceAdd,eCode,dCode]
 intro M
 refine RunK.of ?_
 repeat' (first|with_reducible (first|refine Q1 ?_|refine Q2 ?_|refine Q3 ?_|refine Q4 ?_|refine Q5 ?_|refine Q6 ?_|refine Q7 ?_|refine Q8 ?_|refine Q9 ?_|refine Qa ?_|refine Qb ?_|refine Qc ?_|refine Qd ?_|refine Qe ?_|refine Qf ?_)|((with_reducible refine Qo ?_ ?_);focus rfl)|((with_reducible first|refine QT 30 (l:=?_) ?_ ?_|refine QF 30 (l:=?_) ?_ ?_);rotate_left 1;focus (simp only [Zu,Nat.reduceSub,Nat.reduceBEq];with_reducible rfl))|((with_reducible first|refine QS (cfg_ok 231) ((((((TRoo.at' 13 hbg).at' 36 hdr).at' 37 h1).at' 38 h2).at' 40 hff).at' 41 has) (s':=?_) ?_ ?_|refine QC (b:=?_) ?_ ?_);rotate_left 1;focus ((with_reducible refine QW ?_);simp only [Zg,seval,if_true,if_false,reduceCtorEq,Nat.reduceEqDiff,TRoo,b0,r1,r2,r3,r4,r5,r6,r7,r8];with_reducible rfl))|((with_reducible refine QD (cfg_ok 231) ((((((TRoo.at' 13 hbg).at' 36 hdr).at' 37 h1).at' 38 h2).at' 40 hff).at' 41 has) mixed_ok (tr:=?_) (s':=?_) ?_ ?_ ?_);rotate_left 2;(focus ((with_reducible refine QW ?_);simp only [Zg,Zd,seval,if_true,if_false,reduceCtorEq,Nat.reduceEqDiff,TRoo,b0,r1,r2,r3,r4,r5,r6,r7,r8];with_reducible rfl));focus ((with_reducible refine QK ?_);simp only [Zk];kernel_rfl)))
 refine RunK.frz 3 ?_
 refine RunK.frz 5 ?_
 refine RunK.frz 9 ?_
 refine RunK.frz 11 ?_
 refine RunK.frz 13 ?_
 refine RunK.fits (s0:=⟨[(3,.c (.val (.sl 1 (t.map eI)))),(5,.c (.val (.sl 1 (u.map eI)))),(9,.c (.val (.sl 2 (L.map eCt)))),(10,.c (.val (.int 0))),(11,.c (.val (.sl 2 (L.map eCt)))),(12,.c (.val (.int 0))),(13,.c (.val (.sl 1 (f.map eI)))),(14,.c (.val (.int 0))),
  (15,.c (.val (.bool true))),(16,.c (.val (.int 0))),(17,.c (.val (.bool d))),(18,.c (.val (.int 0))),(19,.c (.val (.bool d))),(20,.c (.val (.int 0)))],[]⟩) ?_ ?_
 ·(repeat' (first|with_reducible refine Qn|((with_reducible refine Qr ?_ ?_);focus (first|with_reducible rfl|(simp only [Zz,Nat.reduceBEq,St.frz,frzR,frzH,look,AV.frz,AC.frz,Obj.frz,drop];done)|rfl))|((with_reducible refine Qj (o':=?_) ?_ ?_ ?_);rotate_left 1;focus rfl)|((with_reducible refine Qw ?_ ?_);(focus (first|with_reducible rfl|(simp only [Zv,St.frz,frzR,frzH,look,AV.frz,AC.frz,Obj.frz,drop];done)));focus (first|exact id|exact (fun h => nomatch h)|exact (fun _ => rfl)))))
  all_goals first|exact ⟨rfl,rfl⟩|exact ⟨rfl,rfl,id⟩
 ((repeat' (first|with_reducible (first|refine Q1 ?_|refine Q2 ?_|refine Q3 ?_|refine Q4 ?_|refine Q5 ?_|refine Q6 ?_|refine Q7 ?_|refine Q8 ?_|refine Q9 ?_|refine Qa ?_|refine Qb ?_|refine Qc ?_|refine Qd ?_|refine Qe ?_|refine Qf ?_)|((with_reducible refine Qo ?_ ?_);focus rfl)|((with_reducible first|refine QT 30 (l:=?_) ?_ ?_|refine QF 30 (l:=?_) ?_ ?_);rotate_left 1;focus (simp only [Zu,Nat.reduceSub,Nat.reduceBEq];with_reducible rfl))|((with_reducible refine QC (b:=?_) ?_ ?_);rotate_left 1;focus ((with_reducible refine QW ?_);simp only [Zg,seval,if_true,if_false,reduceCtorEq,Nat.reduceEqDiff,b0,hlm,bL,bL0];with_reducible rfl))));(with_reducible refine RunK.regCut (cfg_ok 231) Tab.none 41 (s1:=?_) ?_ ?_);rotate_left 1;(focus ((with_reducible refine QW ?_);simp only [Zg,seval,if_true,if_false,reduceCtorEq,Nat.reduceEqDiff,b0,hlm,bL,bL0];with_reducible rfl));simp only [List.toList_toArray,List.drop_succ_cons,List.drop_zero])
 refine ROps.boolNe (d:=129) Try.underlying4 rfl (by rfl) rfl (by decide) rfl rfl ?_
 rw [bd]
 (refine ROps.opsT (cfg_ok 231) (T:=Tab.none.at' 35 hlf) (s':=?_) ?_ ?_;rotate_left 1;focus (simp only [Zg,seval,if_true,if_false,reduceCtorEq,Nat.reduceEqDiff,b0,hlm,hg0,i0a,i0b,t0];with_reducible rfl))
 repeat' (first|with_reducible (first|refine Q1 ?_|refine Q2 ?_|refine Q3 ?_|refine Q4 ?_|refine Q5 ?_|refine Q6 ?_|refine Q7 ?_|refine Q8 ?_|refine Q9 ?_|refine Qa ?_|refine Qb ?_|refine Qc ?_|refine Qd ?_|refine Qe ?_|refine Qf ?_)|((with_reducible refine Qo ?_ ?_);focus rfl)|((with_reducible first|refine QT 30 (l:=?_) ?_ ?_|refine QF 30 (l:=?_) ?_ ?_);rotate_left 1;focus (simp only [Zu,Nat.reduceSub,Nat.reduceBEq];with_reducible rfl))|((with_reducible first|refine QS (cfg_ok 231) Tab.none (s':=?_) ?_ ?_|refine QC (b:=?_) ?_ ?_);rotate_left 1;focus ((with_reducible refine QW ?_);simp only [Zg,seval,if_true,if_false,reduceCtorEq,Nat.reduceEqDiff];with_reducible rfl))|((with_reducible refine QD (cfg_ok 231) Tab.none mixed_ok (tr:=?_) (s':=?_) ?_ ?_ ?_);rotate_left 2;(focus ((with_reducible refine QW ?_);simp only [Zg,Zd,seval,if_true,if_false,reduceCtorEq,Nat.reduceEqDiff];with_reducible rfl));focus ((with_reducible refine QK ?_);simp only [Zk];kernel_rfl)))
 refine RunK.loop (β:=Nat) (γ:=Unit) (fun i => ⟨[(3,.c (.val (.sl 1 (t.map eI)))),(5,.c (.val (.sl 1 (u.map eI)))),(9,.c (.val (.sl 2 (L.map eCt)))),(11,.c (.val (.sl 2 (L.map eCt)))),(17,.c (.val (.bool d))),(21,.c (.val (.int (totF L i)))),(22,.c (.val (.int i)))],[]⟩) (fun i => i ≤ L.length) (fun i => L.length - i)
  (fun _ => ⟨[(3,.c (.val (.sl 1 (t.map eI)))),(5,.c (.val (.sl 1 (u.map eI)))),(9,.c (.val (.sl 2 (L.map eCt)))),(17,.c (.val (.bool d))),(21,.c (.val (.int (totF L L.length))))],[]⟩) (fun _ => True) 0 (Nat.zero_le _) ?_ ?_ ?_
 ·(repeat' (first|with_reducible refine Qn|((with_reducible refine Qr ?_ ?_);focus (first|with_reducible rfl|(simp only [Zz,Nat.reduceBEq,Int.natCast_zero,show totF L 0 = 0 from rfl];done)|rfl))|((with_reducible refine Qj (o':=?_) ?_ ?_ ?_);rotate_left 1;focus rfl)|((with_reducible refine Qw ?_ ?_);(focus (first|with_reducible rfl|(simp only [Zv,Int.natCast_zero,show totF L 0 = 0 from rfl];done)));focus (first|exact id|exact (fun h => nomatch h)|exact (fun _ => rfl)))))
 ·intro i hi
  have hi:i ≤ L.length:=hi
  have hw:=w64_succ (n:=i) (by omega)
  by_cases h:i < L.length
  ·have i1:((i:Int) < (L.length:Int)) = True:=eq_true (by omega)
   have i2:((0:Int) ≤ (i:Int)) = True:=eq_true (by omega)
   have e:L.getD i ([],0) = L[i]:=by rw [List.getD_eq_getElem?_getD,List.getElem?_eq_getElem h];rfl
   have hg:(L.map eCt)[i]? = some (eCt L[i]):=by rw [List.getElem?_map,List.getElem?_eq_getElem h];rfl
   have hz:=f3 L[i] (List.getElem_mem _)
   have ht1:totF L (i + 1) = totF L i + L[i].2:=by show totF L i + (L.getD i ([],0)).2 = _;rw [e]
   have hb0:=totF_bd (L:=L) (fun z hz => by have:=f3 z hz;omega) i (by omega)
   obtain ⟨⟨z,k⟩,hzk⟩:∃ q,q = L[i]:=⟨_,rfl⟩
   rw [← hzk] at hg hz ht1
   simp only at hz ht1
   have hlz:=a_likeInts z z (by omega)
   rw [decide_eq_true rfl] at hlz
   have w1:w64 (totF L i + k) = totF L (i + 1):=by rw [ht1];exact w64_eq (by omega)
   have bk:(k != k) = false:=by simp
   simp only [eCt] at hg
   simp only [eL] at hlz
   repeat' (first|with_reducible (first|refine Q1 ?_|refine Q2 ?_|refine Q3 ?_|refine Q4 ?_|refine Q5 ?_|refine Q6 ?_|refine Q7 ?_|refine Q8 ?_|refine Q9 ?_|refine Qa ?_|refine Qb ?_|refine Qc ?_|refine Qd ?_|refine Qe ?_|refine Qf ?_)|((with_reducible refine Qo ?_ ?_);focus rfl)|((with_reducible first|refine QT 30 (l:=?_) ?_ ?_|refine QF 30 (l:=?_) ?_ ?_);rotate_left 1;focus (simp only [Zu,Nat.reduceSub,Nat.reduceBEq];with_reducible rfl))|((with_reducible first|refine QS (cfg_ok 231) (Tab.none.at' 35 hlz) (s':=?_) ?_ ?_|refine QC (b:=?_) ?_ ?_);rotate_left 1;focus ((with_reducible refine QW ?_);simp only [Zg,seval,if_true,if_false,reduceCtorEq,Nat.reduceEqDiff,i1,i2,hlm,hg,w1,bk,hw,Int.toNat_natCast];with_reducible rfl))|((with_reducible refine QD (cfg_ok 231) (Tab.none.at' 35 hlz) mixed_ok (tr:=?_) (s':=?_) ?_ ?_ ?_);rotate_left 2;(focus ((with_reducible refine QW ?_);simp only [Zg,Zd,seval,if_true,if_false,reduceCtorEq,Nat.reduceEqDiff,i1,i2,hlm,hg,w1,bk,hw,Int.toNat_natCast];with_reducible rfl));focus ((with_reducible refine QK ?_);simp only [Zk];kernel_rfl)))
   refine roundK.on (i + 1) ⟨h,by omega⟩ ?_
   (repeat' (first|with_reducible refine Qn|((with_reducible refine Qr ?_ ?_);focus (first|with_reducible rfl|(simp only [Zz,Nat.reduceBEq];done)|rfl))|((with_reducible refine Qj (o':=?_) ?_ ?_ ?_);rotate_left 1;focus rfl)|((with_reducible refine Qw ?_ ?_);(focus (first|with_reducible rfl|(simp only [Zv];done)));focus (first|exact id|exact (fun h => nomatch h)|exact (fun _ => rfl)))))
  ·have i1:((i:Int) < (L.length:Int)) = False:=eq_false (by omega)
   obtain rfl:i = L.length:=by omega
   repeat' (first|with_reducible (first|refine Q1 ?_|refine Q2 ?_|refine Q3 ?_|refine Q4 ?_|refine Q5 ?_|refine Q6 ?_|refine Q7 ?_|refine Q8 ?_|refine Q9 ?_|refine Qa ?_|refine Qb ?_|refine Qc ?_|refine Qd ?_|refine Qe ?_|refine Qf ?_)|((with_reducible refine Qo ?_ ?_);focus rfl)|((with_reducible first|refine QT 30 (l:=?_) ?_ ?_|refine QF 30 (l:=?_) ?_ ?_);rotate_left 1;focus (simp only [Zu,Nat.reduceSub,Nat.reduceBEq];with_reducible rfl))|((with_reducible first|refine QS (cfg_ok 231) Tab.none (s':=?_) ?_ ?_|refine QC (b:=?_) ?_ ?_);rotate_left 1;focus ((with_reducible refine QW ?_);simp only [Zg,seval,if_true,if_false,reduceCtorEq,Nat.reduceEqDiff,i1,hlm];with_reducible rfl))|((with_reducible refine QD (cfg_ok 231) Tab.none mixed_ok (tr:=?_) (s':=?_) ?_ ?_ ?_);rotate_left 2;(focus ((with_reducible refine QW ?_);simp only [Zg,Zd,seval,if_true,if_false,reduceCtorEq,Nat.reduceEqDiff,i1,hlm];with_reducible rfl));focus ((with_reducible refine QK ?_);simp only [Zk];kernel_rfl)))
   refine roundK.out () trivial ?_
   (repeat' (first|with_reducible refine Qn|((with_reducible refine Qr ?_ ?_);focus (first|with_reducible rfl|(simp only [Zz,Nat.reduceBEq];done)|rfl))|((with_reducible refine Qj (o':=?_) ?_ ?_ ?_);rotate_left 1;focus rfl)|((with_reducible refine Qw ?_ ?_);(focus (first|with_reducible rfl|(simp only [Zv];done)));focus (first|exact id|exact (fun h => nomatch h)|exact (fun _ => rfl)))))
 ·intro _ _
  rw [f4]
  have htm9:=a_times9 L u (by omega) (fun z hz => by have:=f3 z hz;omega)
  have htp:=tmsF_pos (L:=L) (fun z hz => (f3 z hz).2.1) f5
  obtain ⟨q,hq⟩:∃ q,q = tmsF L u L.length:=⟨_,rfl⟩
  rw [← hq] at htm9 htp
  have j1:(q == 0) = false:=by simp only [beq_eq_false_iff_ne,ne_eq];omega
  have bt:((t.length:Int) != (t.length:Int)) = false:=by simp
  simp only [eL] at htm9
  by_cases hev:t.length % 2 = 0
  rotate_left
  ·have hr:((t.length:Int).tmod 2 == 0) = false:=by
    rw [Int.tmod_eq_emod_of_nonneg (by omega)]
    simp only [beq_eq_false_iff_ne,ne_eq];omega
   have hd:d = false:=by
    rw [f6]
    have:Nat.beq (t.length % 2) 0 = false:=by rw [show t.length % 2 = 1 by omega];rfl
    rw [this,Bool.false_and]
   rw [hd]
   repeat' (first|with_reducible (first|refine Q1 ?_|refine Q2 ?_|refine Q3 ?_|refine Q4 ?_|refine Q5 ?_|refine Q6 ?_|refine Q7 ?_|refine Q8 ?_|refine Q9 ?_|refine Qa ?_|refine Qb ?_|refine Qc ?_|refine Qd ?_|refine Qe ?_|refine Qf ?_)|((with_reducible refine Qo ?_ ?_);focus rfl)|((with_reducible first|refine QT 30 (l:=?_) ?_ ?_|refine QF 30 (l:=?_) ?_ ?_);rotate_left 1;focus (simp only [Zu,Nat.reduceSub,Nat.reduceBEq];with_reducible rfl))|((with_reducible first|refine QS (cfg_ok 231) (Tab.none.at' 33 htm9) (s':=?_) ?_ ?_|refine QC (b:=?_) ?_ ?_);rotate_left 1;focus ((with_reducible refine QW ?_);simp only [Zg,seval,if_true,if_false,reduceCtorEq,Nat.reduceEqDiff,htm,bt,j1,hr];with_reducible rfl))|((with_reducible refine QD (cfg_ok 231) (Tab.none.at' 33 htm9) mixed_ok (tr:=?_) (s':=?_) ?_ ?_ ?_);rotate_left 2;(focus ((with_reducible refine QW ?_);simp only [Zg,Zd,seval,if_true,if_false,reduceCtorEq,Nat.reduceEqDiff,htm,bt,j1,hr];with_reducible rfl));focus ((with_reducible refine QK ?_);simp only [Zk];kernel_rfl)))
   ((repeat' (first|with_reducible (first|refine Q1 ?_|refine Q2 ?_|refine Q3 ?_|refine Q4 ?_|refine Q5 ?_|refine Q6 ?_|refine Q7 ?_|refine Q8 ?_|refine Q9 ?_|refine Qa ?_|refine Qb ?_|refine Qc ?_|refine Qd ?_|refine Qe ?_|refine Qf ?_)|((with_reducible refine Qo ?_ ?_);focus rfl)|((with_reducible first|refine QT 30 (l:=?_) ?_ ?_|refine QF 30 (l:=?_) ?_ ?_);rotate_left 1;focus (simp only [Zu,Nat.reduceSub,Nat.reduceBEq];with_reducible rfl))|((with_reducible refine QC (b:=?_) ?_ ?_);rotate_left 1;focus ((with_reducible refine QW ?_);simp only [Zg,seval,if_true,if_false,reduceCtorEq,Nat.reduceEqDiff];with_reducible rfl))));(with_reducible refine RunK.regCut (cfg_ok 231) Tab.none 2 (s1:=?_) ?_ ?_);rotate_left 1;(focus ((with_reducible refine QW ?_);simp only [Zg,seval,if_true,if_false,reduceCtorEq,Nat.reduceEqDiff];with_reducible rfl));simp only [List.toList_toArray,List.drop_succ_cons,List.drop_zero])
   refine ROps.boolEq (d:=230) Try.underlying4 rfl (by rfl) rfl (by decide) rfl rfl ?_
   rw [show (false == false) = true from rfl]
   (refine ROps.opsT (cfg_ok 231) (T:=Tab.none) (s':=?_) ?_ ?_;rotate_left 1;focus (simp only [Zg,seval,if_true,if_false,reduceCtorEq,Nat.reduceEqDiff];with_reducible rfl))
   repeat' (first|with_reducible (first|refine Q1 ?_|refine Q2 ?_|refine Q3 ?_|refine Q4 ?_|refine Q5 ?_|refine Q6 ?_|refine Q7 ?_|refine Q8 ?_|refine Q9 ?_|refine Qa ?_|refine Qb ?_|refine Qc ?_|refine Qd ?_|refine Qe ?_|refine Qf ?_)|((with_reducible refine Qo ?_ ?_);focus rfl)|((with_reducible first|refine QT 30 (l:=?_) ?_ ?_|refine QF 30 (l:=?_) ?_ ?_);rotate_left 1;focus (simp only [Zu,Nat.reduceSub,Nat.reduceBEq];with_reducible rfl))|((with_reducible first|refine QS (cfg_ok 231) Tab.none (s':=?_) ?_ ?_|refine QC (b:=?_) ?_ ?_);rotate_left 1;focus ((with_reducible refine QW ?_);simp only [Zg,seval,if_true,if_false,reduceCtorEq,Nat.reduceEqDiff];with_reducible rfl))|((with_reducible refine QD (cfg_ok 231) Tab.none mixed_ok (tr:=?_) (s':=?_) ?_ ?_ ?_);rotate_left 2;(focus ((with_reducible refine QW ?_);simp only [Zg,Zd,seval,if_true,if_false,reduceCtorEq,Nat.reduceEqDiff];with_reducible rfl));focus ((with_reducible refine QK ?_);simp only [Zk];kernel_rfl)))
   (refine Ends.mk (by simp) (rs:=?_) (ks:=?_) hres hrts ?_ ?_ ?_;rotate_left 2;(focus (simp only [Ze,Zg,seval,if_true,if_false,reduceCtorEq,Nat.reduceEqDiff];with_reducible rfl));(focus simp);focus (first|with_reducible rfl|(simp only [Zv];done)))
  have hr:((t.length:Int).tmod 2 == 0) = true:=by
   rw [Int.tmod_eq_emod_of_nonneg (by omega),beq_iff_eq];omega
  have hpt:=(lev8_lev h8).pos
  obtain ⟨k,hk⟩:∃ k,k = t.length / 2:=⟨_,rfl⟩
  have hk1:1 ≤ k∧k ≤ 4:=by omega
  have hqt:w64 ((t.length:Int).tdiv 2) = (k:Int):=by
   rw [Int.tdiv_eq_ediv_of_nonneg (by omega),w64_eq (by omega)];omega
  have htr:=a_impl_TreesOf k
  have hin8:inR (k:Int) 1 8 = true:=by unfold inR;simp;omega
  rw [show trsOf (k:Int) = (treesN k,0) by unfold trsOf;rw [if_pos hin8,Int.toNat_natCast]] at htr
  have hha:=half_all hk1.1 hk1.2
  have hHl:(treesN k).length ≤ 4:=by
   have hm:k ∈ [1,2,3,4]:=by
    match k,hk1.1,hk1.2 with
    | 1,_,_|2,_,_|3,_,_|4,_,_ => simp
   exact Nat.le_of_ble_eq_true (List.all_eq_true.1 half_len k hm)
  have hd:d = (treesN k).any (fndQ L):=by
   rw [f6,← hk]
   have:Nat.beq (t.length % 2) 0 = true:=by rw [hev];rfl
   rw [this,Bool.true_and];rfl
  obtain ⟨H,hH⟩:∃ H,H = treesN k:=⟨_,rfl⟩
  rw [← hH] at htr hha hHl hd
  have hHm:(H.map eL).length = H.length:=List.length_map _
  simp only [eI] at htr
  repeat' (first|with_reducible (first|refine Q1 ?_|refine Q2 ?_|refine Q3 ?_|refine Q4 ?_|refine Q5 ?_|refine Q6 ?_|refine Q7 ?_|refine Q8 ?_|refine Q9 ?_|refine Qa ?_|refine Qb ?_|refine Qc ?_|refine Qd ?_|refine Qe ?_|refine Qf ?_)|((with_reducible refine Qo ?_ ?_);focus rfl)|((with_reducible first|refine QT 30 (l:=?_) ?_ ?_|refine QF 30 (l:=?_) ?_ ?_);rotate_left 1;focus (simp only [Zu,Nat.reduceSub,Nat.reduceBEq];with_reducible rfl))|((with_reducible first|refine QS (cfg_ok 231) ((Tab.none.at' 33 htm9).at' 19 htr) (s':=?_) ?_ ?_|refine QC (b:=?_) ?_ ?_);rotate_left 1;focus ((with_reducible refine QW ?_);simp only [Zg,seval,if_true,if_false,reduceCtorEq,Nat.reduceEqDiff,htm,bt,j1,hr,hqt,b0];with_reducible rfl))|((with_reducible refine QD (cfg_ok 231) ((Tab.none.at' 33 htm9).at' 19 htr) mixed_ok (tr:=?_) (s':=?_) ?_ ?_ ?_);rotate_left 2;(focus ((with_reducible refine QW ?_);simp only [Zg,Zd,seval,if_true,if_false,reduceCtorEq,Nat.reduceEqDiff,htm,bt,j1,hr,hqt,b0];with_reducible rfl));focus ((with_reducible refine QK ?_);simp only [Zk];kernel_rfl)))
  refine RunK.frz 25 ?_
  refine RunK.fits (s0:=⟨[(9,.c (.val (.sl 2 (L.map eCt)))),(17,.c (.val (.bool d))),(23,.c (.val (.bool false))),(25,.c (.val (.sl 1 (H.map eL)))),(27,.c (.val (.int 0)))],[]⟩) ?_ ?_
  ·(repeat' (first|with_reducible refine Qn|((with_reducible refine Qr ?_ ?_);focus (first|with_reducible rfl|(simp only [Zz,Nat.reduceBEq,St.frz,frzR,frzH,look,AV.frz,AC.frz,Obj.frz,drop];done)|rfl))|((with_reducible refine Qj (o':=?_) ?_ ?_ ?_);rotate_left 1;focus rfl)|((with_reducible refine Qw ?_ ?_);(focus (first|with_reducible rfl|(simp only [Zv,St.frz,frzR,frzH,look,AV.frz,AC.frz,Obj.frz,drop];done)));focus (first|exact id|exact (fun h => nomatch h)|exact (fun _ => rfl)))))
   all_goals first|exact ⟨rfl,rfl⟩|exact ⟨rfl,rfl,id⟩
  refine RunK.loop (β:=Nat) (γ:=Unit) (fun i => ⟨[(9,.c (.val (.sl 2 (L.map eCt)))),(17,.c (.val (.bool d))),(23,.c (.val (.bool ((H.take i).any (fndQ L))))),(25,.c (.val (.sl 1 (H.map eL)))),(27,.c (.val (.int i)))],[]⟩) (fun i => i ≤ H.length) (fun i => H.length - i)
   (fun _ => ⟨[(17,.c (.val (.bool d))),(23,.c (.val (.bool d)))],[]⟩) (fun _ => True) 0 (Nat.zero_le _) ?_ ?_ ?_
  ·(repeat' (first|with_reducible refine Qn|((with_reducible refine Qr ?_ ?_);focus (first|with_reducible rfl|(simp only [Zz,Nat.reduceBEq,Int.natCast_zero,List.take_zero,List.any_nil];done)|rfl))|((with_reducible refine Qj (o':=?_) ?_ ?_ ?_);rotate_left 1;focus rfl)|((with_reducible refine Qw ?_ ?_);(focus (first|with_reducible rfl|(simp only [Zv,Int.natCast_zero,List.take_zero,List.any_nil];done)));focus (first|exact id|exact (fun h => nomatch h)|exact (fun _ => rfl)))))
  ·intro i hi
   have hi:i ≤ H.length:=hi
   have hw:=w64_succ (n:=i) (by omega)
   by_cases h:i < H.length
   ·have i1:((i:Int) < (H.length:Int)) = True:=eq_true (by omega)
    have i2:((0:Int) ≤ (i:Int)) = True:=eq_true (by omega)
    obtain ⟨p1,p2,p3⟩:=hha H[i] (List.getElem_mem _)
    have hst:=any_take (fndQ L) H i h
    obtain ⟨p,hpd⟩:∃ p,p = H[i]:=⟨_,rfl⟩
    have hg:(H.map eL)[i]? = some [.sl 1 (p.map eI)]:=by rw [List.getElem?_map,List.getElem?_eq_getElem h,hpd];rfl
    rw [← hpd] at p1 p2 p3 hst
    have hbp:=AFn.valT2 (a_impl_ButcherProduct p p)
    have hck:ckOf [p,p] = 0:=(ck_two p p).2 ⟨⟨p1,p1⟩,by omega⟩
    rw [show bpOf p p = (bpT p,0) by unfold bpOf;rw [if_pos hck,p2];rfl] at hbp
    obtain ⟨x,hx⟩:∃ x,x = bpT p:=⟨_,rfl⟩
    obtain ⟨F0,hF0⟩:∃ F0,F0 = (H.take i).any (fndQ L):=⟨_,rfl⟩
    rw [← hx] at hbp
    rw [← hF0] at hst ⊢
    have htmx:=a_times9 L x (by omega) (fun z hz => by have:=f3 z hz;omega)
    have hfq:fndQ L p = decide (∃ z ∈ L,z.1 = x):=by rw [hx];rfl
    rw [hfq] at hst
    simp only [eL] at hbp htmx
    repeat' (first|with_reducible (first|refine Q1 ?_|refine Q2 ?_|refine Q3 ?_|refine Q4 ?_|refine Q5 ?_|refine Q6 ?_|refine Q7 ?_|refine Q8 ?_|refine Q9 ?_|refine Qa ?_|refine Qb ?_|refine Qc ?_|refine Qd ?_|refine Qe ?_|refine Qf ?_)|((with_reducible refine Qo ?_ ?_);focus rfl)|((with_reducible first|refine QT 30 (l:=?_) ?_ ?_|refine QF 30 (l:=?_) ?_ ?_);rotate_left 1;focus (simp only [Zu,Nat.reduceSub,Nat.reduceBEq];with_reducible rfl))|((with_reducible first|refine QS (cfg_ok 231) Tab.none (s':=?_) ?_ ?_|refine QC (b:=?_) ?_ ?_);rotate_left 1;focus ((with_reducible refine QW ?_);simp only [Zg,seval,if_true,if_false,reduceCtorEq,Nat.reduceEqDiff,i1,i2,hHm,hg,Int.toNat_natCast];with_reducible rfl)))
    (((with_reducible refine RunK.wFz (cfg_ok 231) (Tab.none.at' 43 hbp) mixed_ok [28] (tr:=?_) (s1:=?_) (rest:=?_) ?_ ?_ ?_);rotate_left 3;(focus ((with_reducible refine QW ?_);simp only [Zg,Zd,seval,if_true,if_false,reduceCtorEq,Nat.reduceEqDiff,drunF,devalF,devalB,valD,dregF_mk,List.contains_cons,List.contains_nil,i1,i2,hHm,hg,Int.toNat_natCast];with_reducible rfl));focus ((with_reducible refine QK ?_);simp only [Zk];kernel_rfl));(refine ROps.opsT (cfg_ok 231) (T:=(Tab.none.at' 43 hbp)) (s':=?_) ?_ ?_;rotate_left 1;focus (simp only [Zg,seval,if_true,if_false,reduceCtorEq,Nat.reduceEqDiff,i1,i2,hHm,hg,Int.toNat_natCast];with_reducible rfl)))
    by_cases hf:F0 = true
    ·rw [hf,Bool.true_or] at hst
     rw [hf]
     repeat' (first|with_reducible (first|refine Q1 ?_|refine Q2 ?_|refine Q3 ?_|refine Q4 ?_|refine Q5 ?_|refine Q6 ?_|refine Q7 ?_|refine Q8 ?_|refine Q9 ?_|refine Qa ?_|refine Qb ?_|refine Qc ?_|refine Qd ?_|refine Qe ?_|refine Qf ?_)|((with_reducible refine Qo ?_ ?_);focus rfl)|((with_reducible first|refine QT 30 (l:=?_) ?_ ?_|refine QF 30 (l:=?_) ?_ ?_);rotate_left 1;focus (simp only [Zu,Nat.reduceSub,Nat.reduceBEq];with_reducible rfl))|((with_reducible first|refine QS (cfg_ok 231) Tab.none (s':=?_) ?_ ?_|refine QC (b:=?_) ?_ ?_);rotate_left 1;focus ((with_reducible refine QW ?_);simp only [Zg,seval,if_true,if_false,reduceCtorEq,Nat.reduceEqDiff,b0,hw];with_reducible rfl))|((with_reducible refine QD (cfg_ok 231) Tab.none mixed_ok (tr:=?_) (s':=?_) ?_ ?_ ?_);rotate_left 2;(focus ((with_reducible refine QW ?_);simp only [Zg,Zd,seval,if_true,if_false,reduceCtorEq,Nat.reduceEqDiff,b0,hw];with_reducible rfl));focus ((with_reducible refine QK ?_);simp only [Zk];kernel_rfl)))
     refine roundK.on (i + 1) ⟨h,by omega⟩ ?_
     rw [hst]
     (repeat' (first|with_reducible refine Qn|((with_reducible refine Qr ?_ ?_);focus (first|with_reducible rfl|(simp only [Zz,Nat.reduceBEq];done)|rfl))|((with_reducible refine Qj (o':=?_) ?_ ?_ ?_);rotate_left 1;focus rfl)|((with_reducible refine Qw ?_ ?_);(focus (first|with_reducible rfl|(simp only [Zv];done)));focus (first|exact id|exact (fun h => nomatch h)|exact (fun _ => rfl)))))
    ·have hf:F0 = false:=by simpa using hf
     rw [hf,Bool.false_or] at hst
     rw [hf]
     by_cases he:∃ z ∈ L,z.1 = x
     ·rw [decide_eq_true he] at hst
      have hpos:=tmsF_pos (L:=L) (fun z hz => (f3 z hz).2.1) he
      have j3:(tmsF L x L.length > 0) = True:=eq_true (by omega)
      repeat' (first|with_reducible (first|refine Q1 ?_|refine Q2 ?_|refine Q3 ?_|refine Q4 ?_|refine Q5 ?_|refine Q6 ?_|refine Q7 ?_|refine Q8 ?_|refine Q9 ?_|refine Qa ?_|refine Qb ?_|refine Qc ?_|refine Qd ?_|refine Qe ?_|refine Qf ?_)|((with_reducible refine Qo ?_ ?_);focus rfl)|((with_reducible first|refine QT 30 (l:=?_) ?_ ?_|refine QF 30 (l:=?_) ?_ ?_);rotate_left 1;focus (simp only [Zu,Nat.reduceSub,Nat.reduceBEq];with_reducible rfl))|((with_reducible first|refine QS (cfg_ok 231) (Tab.none.at' 33 htmx) (s':=?_) ?_ ?_|refine QC (b:=?_) ?_ ?_);rotate_left 1;focus ((with_reducible refine QW ?_);simp only [Zg,seval,if_true,if_false,reduceCtorEq,Nat.reduceEqDiff,b0,hw,j3];with_reducible rfl))|((with_reducible refine QD (cfg_ok 231) (Tab.none.at' 33 htmx) mixed_ok (tr:=?_) (s':=?_) ?_ ?_ ?_);rotate_left 2;(focus ((with_reducible refine QW ?_);simp only [Zg,Zd,seval,if_true,if_false,reduceCtorEq,Nat.reduceEqDiff,b0,hw,j3];with_reducible rfl));focus ((with_reducible refine QK ?_);simp only [Zk];kernel_rfl)))
      refine roundK.on (i + 1) ⟨h,by omega⟩ ?_
      rw [hst]
      (repeat' (first|with_reducible refine Qn|((with_reducible refine Qr ?_ ?_);focus (first|with_reducible rfl|(simp only [Zz,Nat.reduceBEq];done)|rfl))|((with_reducible refine Qj (o':=?_) ?_ ?_ ?_);rotate_left 1;focus rfl)|((with_reducible refine Qw ?_ ?_);(focus (first|with_reducible rfl|(simp only [Zv];done)));focus (first|exact id|exact (fun h => nomatch h)|exact (fun _ => rfl)))))
     ·rw [decide_eq_false he] at hst
      have hzero:=tmsF_zero (L:=L) (t:=x) (fun z hz e => he ⟨z,hz,e⟩) L.length (Nat.le_refl _)
      rw [hzero] at htmx
      have j3:((0:Int) > 0) = False:=eq_false (by omega)
      repeat' (first|with_reducible (first|refine Q1 ?_|refine Q2 ?_|refine Q3 ?_|refine Q4 ?_|refine Q5 ?_|refine Q6 ?_|refine Q7 ?_|refine Q8 ?_|refine Q9 ?_|refine Qa ?_|refine Qb ?_|refine Qc ?_|refine Qd ?_|refine Qe ?_|refine Qf ?_)|((with_reducible refine Qo ?_ ?_);focus rfl)|((with_reducible first|refine QT 30 (l:=?_) ?_ ?_|refine QF 30 (l:=?_) ?_ ?_);rotate_left 1;focus (simp only [Zu,Nat.reduceSub,Nat.reduceBEq];with_reducible rfl))|((with_reducible first|refine QS (cfg_ok 231) (Tab.none.at' 33 htmx) (s':=?_) ?_ ?_|refine QC (b:=?_) ?_ ?_);rotate_left 1;focus ((with_reducible refine QW ?_);simp only [Zg,seval,if_true,if_false,reduceCtorEq,Nat.reduceEqDiff,b0,hw,j3];with_reducible rfl))|((with_reducible refine QD (cfg_ok 231) (Tab.none.at' 33 htmx) mixed_ok (tr:=?_) (s':=?_) ?_ ?_ ?_);rotate_left 2;(focus ((with_reducible refine QW ?_);simp only [Zg,Zd,seval,if_true,if_false,reduceCtorEq,Nat.reduceEqDiff,b0,hw,j3];with_reducible rfl));focus ((with_reducible refine QK ?_);simp only [Zk];kernel_rfl)))
      refine roundK.on (i + 1) ⟨h,by omega⟩ ?_
      rw [hst]
      (repeat' (first|with_reducible refine Qn|((with_reducible refine Qr ?_ ?_);focus (first|with_reducible rfl|(simp only [Zz,Nat.reduceBEq];done)|rfl))|((with_reducible refine Qj (o':=?_) ?_ ?_ ?_);rotate_left 1;focus rfl)|((with_reducible refine Qw ?_ ?_);(focus (first|with_reducible rfl|(simp only [Zv];done)));focus (first|exact id|exact (fun h => nomatch h)|exact (fun _ => rfl)))))
   ·have i1:((i:Int) < (H.length:Int)) = False:=eq_false (by omega)
    obtain rfl:i = H.length:=by omega
    rw [List.take_length,← hd]
    repeat' (first|with_reducible (first|refine Q1 ?_|refine Q2 ?_|refine Q3 ?_|refine Q4 ?_|refine Q5 ?_|refine Q6 ?_|refine Q7 ?_|refine Q8 ?_|refine Q9 ?_|refine Qa ?_|refine Qb ?_|refine Qc ?_|refine Qd ?_|refine Qe ?_|refine Qf ?_)|((with_reducible refine Qo ?_ ?_);focus rfl)|((with_reducible first|refine QT 30 (l:=?_) ?_ ?_|refine QF 30 (l:=?_) ?_ ?_);rotate_left 1;focus (simp only [Zu,Nat.reduceSub,Nat.reduceBEq];with_reducible rfl))|((with_reducible first|refine QS (cfg_ok 231) Tab.none (s':=?_) ?_ ?_|refine QC (b:=?_) ?_ ?_);rotate_left 1;focus ((with_reducible refine QW ?_);simp only [Zg,seval,if_true,if_false,reduceCtorEq,Nat.reduceEqDiff,i1,hHm];with_reducible rfl))|((with_reducible refine QD (cfg_ok 231) Tab.none mixed_ok (tr:=?_) (s':=?_) ?_ ?_ ?_);rotate_left 2;(focus ((with_reducible refine QW ?_);simp only [Zg,Zd,seval,if_true,if_false,reduceCtorEq,Nat.reduceEqDiff,i1,hHm];with_reducible rfl));focus ((with_reducible refine QK ?_);simp only [Zk];kernel_rfl)))
    refine roundK.out () trivial ?_
    (repeat' (first|with_reducible refine Qn|((with_reducible refine Qr ?_ ?_);focus (first|with_reducible rfl|(simp only [Zz,Nat.reduceBEq];done)|rfl))|((with_reducible refine Qj (o':=?_) ?_ ?_ ?_);rotate_left 1;focus rfl)|((with_reducible refine Qw ?_ ?_);(focus (first|with_reducible rfl|(simp only [Zv];done)));focus (first|exact id|exact (fun h => nomatch h)|exact (fun _ => rfl)))))
  ·intro _ _
   have bdd:(d == d) = true:=by simp
   repeat' (first|with_reducible (first|refine Q1 ?_|refine Q2 ?_|refine Q3 ?_|refine Q4 ?_|refine Q5 ?_|refine Q6 ?_|refine Q7 ?_|refine Q8 ?_|refine Q9 ?_|refine Qa ?_|refine Qb ?_|refine Qc ?_|refine Qd ?_|refine Qe ?_|refine Qf ?_)|((with_reducible refine Qo ?_ ?_);focus rfl)|((with_reducible first|refine QT 30 (l:=?_) ?_ ?_|refine QF 30 (l:=?_) ?_ ?_);rotate_left 1;focus (simp only [Zu,Nat.reduceSub,Nat.reduceBEq];with_reducible rfl))|((with_reducible first|refine QS (cfg_ok 231) Tab.none (s':=?_) ?_ ?_|refine QC (b:=?_) ?_ ?_);rotate_left 1;focus ((with_reducible refine QW ?_);simp only [Zg,seval,if_true,if_false,reduceCtorEq,Nat.reduceEqDiff];with_reducible rfl))|((with_reducible refine QD (cfg_ok 231) Tab.none mixed_ok (tr:=?_) (s':=?_) ?_ ?_ ?_);rotate_left 2;(focus ((with_reducible refine QW ?_);simp only [Zg,Zd,seval,if_true,if_false,reduceCtorEq,Nat.reduceEqDiff];with_reducible rfl));focus ((with_reducible refine QK ?_);simp only [Zk];kernel_rfl)))
   ((repeat' (first|with_reducible (first|refine Q1 ?_|refine Q2 ?_|refine Q3 ?_|refine Q4 ?_|refine Q5 ?_|refine Q6 ?_|refine Q7 ?_|refine Q8 ?_|refine Q9 ?_|refine Qa ?_|refine Qb ?_|refine Qc ?_|refine Qd ?_|refine Qe ?_|refine Qf ?_)|((with_reducible refine Qo ?_ ?_);focus rfl)|((with_reducible first|refine QT 30 (l:=?_) ?_ ?_|refine QF 30 (l:=?_) ?_ ?_);rotate_left 1;focus (simp only [Zu,Nat.reduceSub,Nat.reduceBEq];with_reducible rfl))|((with_reducible refine QC (b:=?_) ?_ ?_);rotate_left 1;focus ((with_reducible refine QW ?_);simp only [Zg,seval,if_true,if_false,reduceCtorEq,Nat.reduceEqDiff];with_reducible rfl))));(with_reducible refine RunK.regCut (cfg_ok 231) Tab.none 2 (s1:=?_) ?_ ?_);rotate_left 1;(focus ((with_reducible refine QW ?_);simp only [Zg,seval,if_true,if_false,reduceCtorEq,Nat.reduceEqDiff];with_reducible rfl));simp only [List.toList_toArray,List.drop_succ_cons,List.drop_zero])
   refine ROps.boolEq (d:=230) Try.underlying4 rfl (by rfl) rfl (by decide) rfl rfl ?_
   rw [bdd]
   (refine ROps.opsT (cfg_ok 231) (T:=Tab.none) (s':=?_) ?_ ?_;rotate_left 1;focus (simp only [Zg,seval,if_true,if_false,reduceCtorEq,Nat.reduceEqDiff];with_reducible rfl))
   repeat' (first|with_reducible (first|refine Q1 ?_|refine Q2 ?_|refine Q3 ?_|refine Q4 ?_|refine Q5 ?_|refine Q6 ?_|refine Q7 ?_|refine Q8 ?_|refine Q9 ?_|refine Qa ?_|refine Qb ?_|refine Qc ?_|refine Qd ?_|refine Qe ?_|refine Qf ?_)|((with_reducible refine Qo ?_ ?_);focus rfl)|((with_reducible first|refine QT 30 (l:=?_) ?_ ?_|refine QF 30 (l:=?_) ?_ ?_);rotate_left 1;focus (simp only [Zu,Nat.reduceSub,Nat.reduceBEq];with_reducible rfl))|((with_reducible first|refine QS (cfg_ok 231) Tab.none (s':=?_) ?_ ?_|refine QC (b:=?_) ?_ ?_);rotate_left 1;focus ((with_reducible refine QW ?_);simp only [Zg,seval,if_true,if_false,reduceCtorEq,Nat.reduceEqDiff];with_reducible rfl))|((with_reducible refine QD (cfg_ok 231) Tab.none mixed_ok (tr:=?_) (s':=?_) ?_ ?_ ?_);rotate_left 2;(focus ((with_reducible refine QW ?_);simp only [Zg,Zd,seval,if_true,if_false,reduceCtorEq,Nat.reduceEqDiff];with_reducible rfl));focus ((with_reducible refine QK ?_);simp only [Zk];kernel_rfl)))
   (refine Ends.mk (by simp) (rs:=?_) (ks:=?_) hres hrts ?_ ?_ ?_;rotate_left 2;(focus (simp only [Ze,Zg,seval,if_true,if_false,reduceCtorEq,Nat.reduceEqDiff];with_reducible rfl));(focus simp);focus (first|with_reducible rfl|(simp only [Zv];done)))
theorem walk_FnRoots (v0:Value) (x0:List Int) (w:World) (h0:Rd RBytes w [v0] x0):Calls Try.prog 6 #[v0] w (RetV w (.bool true)):=law_code (fun code hc => a_FnRoots code hc) v0 x0 w h0
end Go.Proofs.Ytofpjonggpjneaa
