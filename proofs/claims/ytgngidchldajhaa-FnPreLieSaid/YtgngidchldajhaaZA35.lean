/- Lemmas (35). -/
import Derived.Test.YtgngidchldajhaaZA6
import Derived.Test.YtgngidchldajhaaZA7
import Derived.Test.YtgngidchldajhaaZA8
import Derived.Test.YtgngidchldajhaaZA9
import Derived.Test.YtgngidchldajhaaZA10
import Derived.Test.YtgngidchldajhaaZA11
import Derived.Test.YtgngidchldajhaaZA29
import Derived.Test.YtgngidchldajhaaZA30
import Derived.Test.YtgngidchldajhaaZA31
import Derived.Test.YtgngidchldajhaaZA33
import Derived.Test.YtgngidchldajhaaZA34
set_option linter.unusedSimpArgs false
set_option linter.unusedVariables false
namespace Go.Proofs.Ytgngidchldajhaa
open Go.RowKit
theorem totF_exp (L:List (List Int × Int)) (h:∀ z ∈ L,1 ≤ z.2):∀ i,i ≤ L.length→totF L i = ((expN (L.take i)).length:Int)
 | 0,_ => by simp [totF,expN]
 | i + 1,hi => by
  have e:L.getD i ([],0) = L[i]:=by rw [List.getD_eq_getElem?_getD,List.getElem?_eq_getElem (by omega)];rfl
  have h1:=h L[i] (List.getElem_mem _)
  unfold totF
  rw [totF_exp L h i (by omega),List.take_succ_eq_append_getElem (by omega),expN_app,List.length_append,e]
  show _ = ((_ + (List.flatMap (fun p:List Int × Int => List.replicate p.2.toNat p.1) [L[i]]).length:Nat):Int)
  simp only [List.flatMap_cons,List.flatMap_nil,List.append_nil,List.length_replicate]
  omega
theorem totF_sum (ts:List (List Int)):totF (sumOf ts) (sumOf ts).length = (ts.length:Int):=by
 have h:=sumOf_is ts
 rw [totF_exp _ h.1.2 _ (Nat.le_refl _),List.take_length,h.2.length_eq]
structure RoF (t u:List Int) (L:List (List Int × Int)) (f:List Int) (d:Bool):Prop where
 u8:lev8 u = true
 rt:rtsOf t = (L,0)
 ru:rtsOf u = (L,0)
 fr:frOf t = (f,0)
 sf:asfOf t u = (true,0)
 st:supOf t = (d,0)
 su:supOf u = (d,0)
 pos:1 ≤ L.length∧L.length ≤ 8
 hd:(L.getD 0 ([],0)).1 = f
 all:∀ z ∈ L,z.1.length ≤ 8∧1 ≤ z.2∧z.2 ≤ 8
 tot:totF L L.length = (t.length:Int)
 mem:∃ z ∈ L,z.1 = u
 dbl:d = (Nat.beq (t.length % 2) 0 && (treesN (t.length / 2)).any fun p => decide (∃ z ∈ L,z.1 = bpT p))
end Go.Proofs.Ytgngidchldajhaa
namespace Go.Proofs.Ytgngidchldajhaa
open Go.RowKit
set_option maxRecDepth 20000 in
set_option maxHeartbeats 16000000 in
theorem a_FnPreLie (code:List Int) (hc:Bytes code):AFn Try.prog 3 [eCode code] (· = [.val (.bool true)]):=by
 have hbg:=a_big code
 by_cases hbig:4096 < code.length
 ·rw [decide_eq_true hbig] at hbg
  simp only [eCode,dCode] at hbg
  refine AFn.of_runs (cfg_ok 188) Try.func3 rfl rfl rfl (by simp only [List.length_cons,List.length_nil];decide) ?_
  have hres:Try.f3.results.toList = [.tmp 2]:=rfl
  have hrts:Try.f3.resultTypes.toList = [4]:=rfl
  simp only [argRegs,argAV1,eL,eI,eLL,eB,Nat.zero_add,Nat.reduceAdd,eCode,dCode]
  intro M
  refine RunK.of ?_
  repeat' (first|with_reducible (first|refine Q1 ?_|refine Q2 ?_|refine Q3 ?_|refine Q4 ?_|refine Q5 ?_|refine Q6 ?_|refine Q7 ?_|refine Q8 ?_|refine Q9 ?_|refine Qa ?_|refine Qb ?_|refine Qc ?_|refine Qd ?_|refine Qe ?_|refine Qf ?_)|((with_reducible refine Qo ?_ ?_);focus rfl)|((with_reducible first|refine QT 30 (l:=?_) ?_ ?_|refine QF 30 (l:=?_) ?_ ?_);rotate_left 1;focus (simp only [Zu,Nat.reduceSub,Nat.reduceBEq];with_reducible rfl))|((with_reducible first|refine QS (cfg_ok 188) (Tab.none.at' 6 hbg) (s':=?_) ?_ ?_|refine QC (b:=?_) ?_ ?_);rotate_left 1;focus ((with_reducible refine QW ?_);simp only [Zg,seval,if_true,if_false,reduceCtorEq,Nat.reduceEqDiff];with_reducible rfl))|((with_reducible refine QD (cfg_ok 188) (Tab.none.at' 6 hbg) mixed_ok (tr:=?_) (s':=?_) ?_ ?_ ?_);rotate_left 2;(focus ((with_reducible refine QW ?_);simp only [Zg,Zd,seval,if_true,if_false,reduceCtorEq,Nat.reduceEqDiff];with_reducible rfl));focus ((with_reducible refine QK ?_);simp only [Zk];kernel_rfl)))
  (refine Ends.mk (by simp) (rs:=?_) (ks:=?_) hres hrts ?_ ?_ ?_;rotate_left 2;(focus (simp only [Ze,Zg,seval,if_true,if_false,reduceCtorEq,Nat.reduceEqDiff];with_reducible rfl));(focus simp);focus (first|with_reducible rfl|(simp only [Zv];done)))
 rw [decide_eq_false hbig] at hbg
 have hl:code.length ≤ 1000000000:=by omega
 have hroll:=p_roll hc hl 1041 (by decide)
 obtain ⟨s0,hs0⟩:∃ s0,s0 = dice0 1041 code:=⟨_,rfl⟩
 have hs0l:s0.1 ≤ code.length:=by rw [hs0];exact Nat.zero_le _
 rw [← hs0] at hroll
 have hd1:drwG code (drw1 (drawG code)) 3 [srcD code s0] [[.int (3:Int)]] = some ([.own 1 ((drawF code s0 3).1.map eI) true],[srcD code (drawF code s0 3).2]):=drw1_eq hs0l (by omega)
 obtain ⟨hu,hs1⟩:=drawF_ok hc (m:=3) hs0l
 have hul:(drawF code s0 3).1.length ≤ 3:=drawF_len hc hs0l (by omega)
 obtain ⟨⟨u,s1⟩,hp1⟩:∃ p,p = drawF code s0 3:=⟨_,rfl⟩
 rw [← hp1] at hd1 hu hs1 hul
 simp only at hd1 hu hs1 hul
 have hd2:drwG code (drw1 (drawG code)) 3 [srcD code s1] [[.int (3:Int)]] = some ([.own 1 ((drawF code s1 3).1.map eI) true],[srcD code (drawF code s1 3).2]):=drw1_eq hs1 (by omega)
 obtain ⟨hv,hs2⟩:=drawF_ok hc (m:=3) hs1
 have hvl:(drawF code s1 3).1.length ≤ 3:=drawF_len hc hs1 (by omega)
 obtain ⟨⟨v,s2⟩,hp2⟩:∃ p,p = drawF code s1 3:=⟨_,rfl⟩
 rw [← hp2] at hd2 hv hs2 hvl
 simp only at hd2 hv hs2 hvl
 have hd3:drwG code (drw1 (drawG code)) 3 [srcD code s2] [[.int (2:Int)]] = some ([.own 1 ((drawF code s2 2).1.map eI) true],[srcD code (drawF code s2 2).2]):=drw1_eq hs2 (by omega)
 obtain ⟨hw,hs3⟩:=drawF_ok hc (m:=2) hs2
 have hwl:(drawF code s2 2).1.length ≤ 2:=drawF_len hc hs2 (by omega)
 obtain ⟨⟨w,s3⟩,hp3⟩:∃ p,p = drawF code s2 2:=⟨_,rfl⟩
 rw [← hp3] at hd3 hw hs3 hwl
 simp only at hd3 hw hs3 hwl
 have F:=pl_all hu hv hw hul hvl hwl
 have h1:=AFn.valT2 (a_impl_GraftSum u v (by omega) (by omega))
 have h2:=AFn.valT2 (a_impl_GraftSum v w (by omega) (by omega))
 have h3:=AFn.valT2 (a_impl_ForestOf9 [v,w] (by unfold szII sumLen;simp;omega))
 have hfl:=F.fl
 have hfs:=F.fs
 have h4:=AFn.valT2 (a_impl_GraftForest u (forOf [v,w]).1 (by omega) (by omega) (by omega))
 rw [F.g1] at h1
 rw [F.g2] at h2
 rw [F.fo] at h3
 rw [F.gf] at h4
 have hr1:=F.r1
 have hr2:=F.r2
 have sm0:Sm9 0 0 []:=⟨by simp,by simp⟩
 have h5:=AFn.nil1 (by decide) (a_graft9 [] (gsOf u v).1 [(w,1)] 1 hr1 sm0 (by omega) (by omega) (by omega))
 have pb1:(pairs9 (gsOf u v).1 [(w,1)] 1).length ≤ 64∧∀ q ∈ pairs9 (gsOf u v).1 [(w,1)] 1,q.1.length ≤ 8∧-512 ≤ q.2∧q.2 ≤ 512:=by
  obtain ⟨a1,a2⟩:=flat_b (fun l => [((w,1):List Int × Int)].flatMap fun r => prt9 1 l r) 8 (gsOf u v).1 (fun l hl => by
   have k:=prt9_b hr1 hl (r:=(w,1)) (by simp)
   rw [List.flatMap_cons,List.flatMap_nil,List.append_nil]
   exact k)
  have:=F.l1
  exact ⟨Nat.le_trans a1 (by omega),a2⟩
 have pb2:(pairs9 [(u,1)] (gsOf v w).1 (-1)).length ≤ 64∧∀ q ∈ pairs9 [(u,1)] (gsOf v w).1 (-1),q.1.length ≤ 8∧-512 ≤ q.2∧q.2 ≤ 512:=by
  obtain ⟨a1,a2⟩:=flat_b (fun r => prt9 (-1) (u,1) r) 8 (gsOf v w).1 (fun r hr => prt9_b hr2 (l:=(u,1)) (by simp) hr)
  have:=F.l2
  unfold pairs9
  rw [List.flatMap_cons,List.flatMap_nil,List.append_nil]
  exact ⟨Nat.le_trans a1 (by omega),a2⟩
 have sm1:=add9_sm sm0 (by omega) pb1.2
 have h6:=a_graft9 (add9 [] (pairs9 (gsOf u v).1 [(w,1)] 1)) [(u,1)] (gsOf v w).1 (-1) hr2 sm1 (by omega) (by omega) (by omega)
 have sm2:=add9_sm sm1 (by omega) pb2.2
 have hG:=F.all
 have hGl:=F.len
 have hGp:=F.pos
 have hz:=F.zero
 unfold plM at hz
 unfold plG at hG hGl hGp hz
 obtain ⟨A,hA⟩:∃ A,A = (gsOf u v).1:=⟨_,rfl⟩
 obtain ⟨B,hB⟩:∃ B,B = (gsOf v w).1:=⟨_,rfl⟩
 obtain ⟨f,hf⟩:∃ f,f = (forOf [v,w]).1:=⟨_,rfl⟩
 rw [← hf] at h3 h4 hG hGl hGp hz
 obtain ⟨G,hGe⟩:∃ G,G = (gfOf u f).1:=⟨_,rfl⟩
 rw [← hA] at h1 h5 h6 pb1 sm1 sm2 hz
 rw [← hB] at h2 h6 pb2 sm2 hz
 rw [← hGe] at h4 hG hGl hGp hz
 obtain ⟨M1,hM1⟩:∃ X,X = add9 [] (pairs9 A [(w,1)] 1):=⟨_,rfl⟩
 rw [← hM1] at h5 h6 sm2 hz
 obtain ⟨Mx,hM⟩:∃ X,X = add9 M1 (pairs9 [(u,1)] B (-1)):=⟨_,rfl⟩
 rw [← hM] at h6 sm2 hz
 have hGm:(G.map eCt).length = G.length:=List.length_map _
 have g0:((G.length:Int) == 0) = false:=by
  rw [beq_eq_false_iff_ne];omega
 have hdg:=a_DrawGraftForest hc hl
 obtain ⟨hk1,hk2⟩:=drawGF_ok hc
 obtain ⟨⟨g,bad⟩,hgb⟩:∃ p,p = drawGF code:=⟨_,rfl⟩
 rw [← hgb] at hdg hk1 hk2
 simp only at hdg hk1 hk2
 have hgl1:=hk1.len
 have hb1:=hk2.sum
 have hb2:=hk2.len
 have q1:=AFn.valT2 (a_impl_GraftForest g bad (by omega) (by omega) (by omega))
 have q2:=a_spec_GraftForest g bad (by omega) (by omega) (by omega)
 have b0:((0:Int) != 0) = false:=by decide
 obtain ⟨C,hC⟩:∃ C,C = code.map eU:=⟨_,rfl⟩
 simp only [eCode,dCode] at hbg hroll hdg
 rw [← hC] at hbg hroll hdg
 simp only [eL,eLL,List.map_cons,List.map_nil,eCt,eI] at h1 h2 h3 h4 h5 h6
 refine AFn.of_runs (cfg_ok 188) Try.func3 rfl rfl rfl (by simp only [List.length_cons,List.length_nil];decide) ?_
 have hres:Try.f3.results.toList = [.tmp 2]:=rfl
 have hrts:Try.f3.resultTypes.toList = [4]:=rfl
 simp only [argRegs,argAV1,eL,eI,eLL,eB,Nat.zero_add,Nat.reduceAdd,eCode,dCode]
 intro M
 refine RunK.of ?_
 rw [← hC]
 ((repeat' (first|with_reducible (first|refine Q1 ?_|refine Q2 ?_|refine Q3 ?_|refine Q4 ?_|refine Q5 ?_|refine Q6 ?_|refine Q7 ?_|refine Q8 ?_|refine Q9 ?_|refine Qa ?_|refine Qb ?_|refine Qc ?_|refine Qd ?_|refine Qe ?_|refine Qf ?_)|((with_reducible refine Qo ?_ ?_);focus rfl)|((with_reducible first|refine QT 30 (l:=?_) ?_ ?_|refine QF 30 (l:=?_) ?_ ?_);rotate_left 1;focus (simp only [Zu,Nat.reduceSub,Nat.reduceBEq];with_reducible rfl))|((with_reducible refine QC (b:=?_) ?_ ?_);rotate_left 1;focus ((with_reducible refine QW ?_);simp only [Zg,seval,if_true,if_false,reduceCtorEq,Nat.reduceEqDiff];with_reducible rfl))));((with_reducible refine QS (cfg_ok 188) Tab.none (s':=?_) ?_ ?_);rotate_left 1;focus ((with_reducible refine QW ?_);simp only [Zg,seval,if_true,if_false,reduceCtorEq,Nat.reduceEqDiff];with_reducible rfl));(repeat' (first|with_reducible (first|refine Q1 ?_|refine Q2 ?_|refine Q3 ?_|refine Q4 ?_|refine Q5 ?_|refine Q6 ?_|refine Q7 ?_|refine Q8 ?_|refine Q9 ?_|refine Qa ?_|refine Qb ?_|refine Qc ?_|refine Qd ?_|refine Qe ?_|refine Qf ?_)|((with_reducible refine Qo ?_ ?_);focus rfl)|((with_reducible first|refine QT 30 (l:=?_) ?_ ?_|refine QF 30 (l:=?_) ?_ ?_);rotate_left 1;focus (simp only [Zu,Nat.reduceSub,Nat.reduceBEq];with_reducible rfl))|((with_reducible refine QC (b:=?_) ?_ ?_);rotate_left 1;focus ((with_reducible refine QW ?_);simp only [Zg,seval,if_true,if_false,reduceCtorEq,Nat.reduceEqDiff];with_reducible rfl)))))
 ((repeat' (first|with_reducible (first|refine Q1 ?_|refine Q2 ?_|refine Q3 ?_|refine Q4 ?_|refine Q5 ?_|refine Q6 ?_|refine Q7 ?_|refine Q8 ?_|refine Q9 ?_|refine Qa ?_|refine Qb ?_|refine Qc ?_|refine Qd ?_|refine Qe ?_|refine Qf ?_)|((with_reducible refine Qo ?_ ?_);focus rfl)|((with_reducible first|refine QT 30 (l:=?_) ?_ ?_|refine QF 30 (l:=?_) ?_ ?_);rotate_left 1;focus (simp only [Zu,Nat.reduceSub,Nat.reduceBEq];with_reducible rfl))|((with_reducible refine QC (b:=?_) ?_ ?_);rotate_left 1;focus ((with_reducible refine QW ?_);simp only [Zg,seval,if_true,if_false,reduceCtorEq,Nat.reduceEqDiff];with_reducible rfl))));((with_reducible refine QS (cfg_ok 188) (Tab.none.at' 6 hbg) (s':=?_) ?_ ?_);rotate_left 1;focus ((with_reducible refine QW ?_);simp only [Zg,seval,if_true,if_false,reduceCtorEq,Nat.reduceEqDiff];with_reducible rfl));(repeat' (first|with_reducible (first|refine Q1 ?_|refine Q2 ?_|refine Q3 ?_|refine Q4 ?_|refine Q5 ?_|refine Q6 ?_|refine Q7 ?_|refine Q8 ?_|refine Q9 ?_|refine Qa ?_|refine Qb ?_|refine Qc ?_|refine Qd ?_|refine Qe ?_|refine Qf ?_)|((with_reducible refine Qo ?_ ?_);focus rfl)|((with_reducible first|refine QT 30 (l:=?_) ?_ ?_|refine QF 30 (l:=?_) ?_ ?_);rotate_left 1;focus (simp only [Zu,Nat.reduceSub,Nat.reduceBEq];with_reducible rfl))|((with_reducible refine QC (b:=?_) ?_ ?_);rotate_left 1;focus ((with_reducible refine QW ?_);simp only [Zg,seval,if_true,if_false,reduceCtorEq,Nat.reduceEqDiff];with_reducible rfl)))))
 ((repeat' (first|with_reducible (first|refine Q1 ?_|refine Q2 ?_|refine Q3 ?_|refine Q4 ?_|refine Q5 ?_|refine Q6 ?_|refine Q7 ?_|refine Q8 ?_|refine Q9 ?_|refine Qa ?_|refine Qb ?_|refine Qc ?_|refine Qd ?_|refine Qe ?_|refine Qf ?_)|((with_reducible refine Qo ?_ ?_);focus rfl)|((with_reducible first|refine QT 30 (l:=?_) ?_ ?_|refine QF 30 (l:=?_) ?_ ?_);rotate_left 1;focus (simp only [Zu,Nat.reduceSub,Nat.reduceBEq];with_reducible rfl))|((with_reducible refine QC (b:=?_) ?_ ?_);rotate_left 1;focus ((with_reducible refine QW ?_);simp only [Zg,seval,if_true,if_false,reduceCtorEq,Nat.reduceEqDiff];with_reducible rfl))));(with_reducible refine RunK.regCut (cfg_ok 188) Tab.none 1 (s1:=?_) ?_ ?_);rotate_left 1;(focus ((with_reducible refine QW ?_);simp only [Zg,seval,if_true,if_false,reduceCtorEq,Nat.reduceEqDiff];with_reducible rfl));simp only [List.toList_toArray,List.drop_succ_cons,List.drop_zero])
 refine ROps.callR (cfg_ok 188) rfl (d:=33) rfl (by decide) rfl rfl rfl rfl hroll rfl ?_
 intro b
 (refine ROps.opsT (cfg_ok 188) (T:=Tab.none) (s':=?_) ?_ ?_;rotate_left 1;focus (simp only [Zg,seval,if_true,if_false,reduceCtorEq,Nat.reduceEqDiff];with_reducible rfl))
 ((repeat' (first|with_reducible (first|refine Q1 ?_|refine Q2 ?_|refine Q3 ?_|refine Q4 ?_|refine Q5 ?_|refine Q6 ?_|refine Q7 ?_|refine Q8 ?_|refine Q9 ?_|refine Qa ?_|refine Qb ?_|refine Qc ?_|refine Qd ?_|refine Qe ?_|refine Qf ?_)|((with_reducible refine Qo ?_ ?_);focus rfl)|((with_reducible first|refine QT 30 (l:=?_) ?_ ?_|refine QF 30 (l:=?_) ?_ ?_);rotate_left 1;focus (simp only [Zu,Nat.reduceSub,Nat.reduceBEq];with_reducible rfl))|((with_reducible refine QC (b:=?_) ?_ ?_);rotate_left 1;focus ((with_reducible refine QW ?_);simp only [Zg,seval,if_true,if_false,reduceCtorEq,Nat.reduceEqDiff,TDi,hd1,hd2,hd3,drwE,nxtE,srcD_len];with_reducible rfl))));((with_reducible refine QS (cfg_ok 188) (TDi hc hl) (s':=?_) ?_ ?_);rotate_left 1;focus ((with_reducible refine QW ?_);simp only [Zg,seval,if_true,if_false,reduceCtorEq,Nat.reduceEqDiff,TDi,hd1,hd2,hd3,drwE,nxtE,srcD_len];with_reducible rfl));(repeat' (first|with_reducible (first|refine Q1 ?_|refine Q2 ?_|refine Q3 ?_|refine Q4 ?_|refine Q5 ?_|refine Q6 ?_|refine Q7 ?_|refine Q8 ?_|refine Q9 ?_|refine Qa ?_|refine Qb ?_|refine Qc ?_|refine Qd ?_|refine Qe ?_|refine Qf ?_)|((with_reducible refine Qo ?_ ?_);focus rfl)|((with_reducible first|refine QT 30 (l:=?_) ?_ ?_|refine QF 30 (l:=?_) ?_ ?_);rotate_left 1;focus (simp only [Zu,Nat.reduceSub,Nat.reduceBEq];with_reducible rfl))|((with_reducible refine QC (b:=?_) ?_ ?_);rotate_left 1;focus ((with_reducible refine QW ?_);simp only [Zg,seval,if_true,if_false,reduceCtorEq,Nat.reduceEqDiff,TDi,hd1,hd2,hd3,drwE,nxtE,srcD_len];with_reducible rfl)))))
 refine RunK.frz 4 ?_
 refine RunK.frz 5 ?_
 refine RunK.frz 6 ?_
 refine RunK.fits (s0:=⟨[(0,.c (.val (.sl 1 C))),(2,.c (.val (.bool false))),(4,.c (.val (.sl 1 (u.map eI)))),(5,.c (.val (.sl 1 (v.map eI)))),(6,.c (.val (.sl 1 (w.map eI))))],[]⟩) ?_ ?_
 ·(repeat' (first|with_reducible refine Qn|((with_reducible refine Qr ?_ ?_);focus (first|with_reducible rfl|(simp only [Zz,Nat.reduceBEq,St.frz,frzR,frzH,look,AV.frz,AC.frz,Obj.frz,drop];done)|rfl))|((with_reducible refine Qj (o':=?_) ?_ ?_ ?_);rotate_left 1;focus rfl)|((with_reducible refine Qw ?_ ?_);(focus (first|with_reducible rfl|(simp only [Zv,St.frz,frzR,frzH,look,AV.frz,AC.frz,Obj.frz,drop];done)));focus (first|exact id|exact (fun h => nomatch h)|exact (fun _ => rfl)))))
  all_goals first|exact ⟨rfl,rfl⟩|exact ⟨rfl,rfl,id⟩
 ((repeat' (first|with_reducible (first|refine Q1 ?_|refine Q2 ?_|refine Q3 ?_|refine Q4 ?_|refine Q5 ?_|refine Q6 ?_|refine Q7 ?_|refine Q8 ?_|refine Q9 ?_|refine Qa ?_|refine Qb ?_|refine Qc ?_|refine Qd ?_|refine Qe ?_|refine Qf ?_)|((with_reducible refine Qo ?_ ?_);focus rfl)|((with_reducible first|refine QT 30 (l:=?_) ?_ ?_|refine QF 30 (l:=?_) ?_ ?_);rotate_left 1;focus (simp only [Zu,Nat.reduceSub,Nat.reduceBEq];with_reducible rfl))|((with_reducible refine QC (b:=?_) ?_ ?_);rotate_left 1;focus ((with_reducible refine QW ?_);simp only [Zg,seval,if_true,if_false,reduceCtorEq,Nat.reduceEqDiff];with_reducible rfl))));((with_reducible refine QS (cfg_ok 188) Tab.none (s':=?_) ?_ ?_);rotate_left 1;focus ((with_reducible refine QW ?_);simp only [Zg,seval,if_true,if_false,reduceCtorEq,Nat.reduceEqDiff];with_reducible rfl));(repeat' (first|with_reducible (first|refine Q1 ?_|refine Q2 ?_|refine Q3 ?_|refine Q4 ?_|refine Q5 ?_|refine Q6 ?_|refine Q7 ?_|refine Q8 ?_|refine Q9 ?_|refine Qa ?_|refine Qb ?_|refine Qc ?_|refine Qd ?_|refine Qe ?_|refine Qf ?_)|((with_reducible refine Qo ?_ ?_);focus rfl)|((with_reducible first|refine QT 30 (l:=?_) ?_ ?_|refine QF 30 (l:=?_) ?_ ?_);rotate_left 1;focus (simp only [Zu,Nat.reduceSub,Nat.reduceBEq];with_reducible rfl))|((with_reducible refine QC (b:=?_) ?_ ?_);rotate_left 1;focus ((with_reducible refine QW ?_);simp only [Zg,seval,if_true,if_false,reduceCtorEq,Nat.reduceEqDiff];with_reducible rfl)))))
 refine RunK.frz 7 ?_
 ((repeat' (first|with_reducible (first|refine Q1 ?_|refine Q2 ?_|refine Q3 ?_|refine Q4 ?_|refine Q5 ?_|refine Q6 ?_|refine Q7 ?_|refine Q8 ?_|refine Q9 ?_|refine Qa ?_|refine Qb ?_|refine Qc ?_|refine Qd ?_|refine Qe ?_|refine Qf ?_)|((with_reducible refine Qo ?_ ?_);focus rfl)|((with_reducible first|refine QT 30 (l:=?_) ?_ ?_|refine QF 30 (l:=?_) ?_ ?_);rotate_left 1;focus (simp only [Zu,Nat.reduceSub,Nat.reduceBEq];with_reducible rfl))|((with_reducible refine QC (b:=?_) ?_ ?_);rotate_left 1;focus ((with_reducible refine QW ?_);simp only [Zg,seval,if_true,if_false,reduceCtorEq,Nat.reduceEqDiff];with_reducible rfl))));((with_reducible refine QS (cfg_ok 188) (Tab.none.at' 9 h1) (s':=?_) ?_ ?_);rotate_left 1;focus ((with_reducible refine QW ?_);simp only [Zg,seval,if_true,if_false,reduceCtorEq,Nat.reduceEqDiff];with_reducible rfl));(repeat' (first|with_reducible (first|refine Q1 ?_|refine Q2 ?_|refine Q3 ?_|refine Q4 ?_|refine Q5 ?_|refine Q6 ?_|refine Q7 ?_|refine Q8 ?_|refine Q9 ?_|refine Qa ?_|refine Qb ?_|refine Qc ?_|refine Qd ?_|refine Qe ?_|refine Qf ?_)|((with_reducible refine Qo ?_ ?_);focus rfl)|((with_reducible first|refine QT 30 (l:=?_) ?_ ?_|refine QF 30 (l:=?_) ?_ ?_);rotate_left 1;focus (simp only [Zu,Nat.reduceSub,Nat.reduceBEq];with_reducible rfl))|((with_reducible refine QC (b:=?_) ?_ ?_);rotate_left 1;focus ((with_reducible refine QW ?_);simp only [Zg,seval,if_true,if_false,reduceCtorEq,Nat.reduceEqDiff];with_reducible rfl)))))
 ((repeat' (first|with_reducible (first|refine Q1 ?_|refine Q2 ?_|refine Q3 ?_|refine Q4 ?_|refine Q5 ?_|refine Q6 ?_|refine Q7 ?_|refine Q8 ?_|refine Q9 ?_|refine Qa ?_|refine Qb ?_|refine Qc ?_|refine Qd ?_|refine Qe ?_|refine Qf ?_)|((with_reducible refine Qo ?_ ?_);focus rfl)|((with_reducible first|refine QT 30 (l:=?_) ?_ ?_|refine QF 30 (l:=?_) ?_ ?_);rotate_left 1;focus (simp only [Zu,Nat.reduceSub,Nat.reduceBEq];with_reducible rfl))|((with_reducible refine QC (b:=?_) ?_ ?_);rotate_left 1;focus ((with_reducible refine QW ?_);simp only [Zg,seval,if_true,if_false,reduceCtorEq,Nat.reduceEqDiff];with_reducible rfl))));((with_reducible refine QS (cfg_ok 188) (Tab.none.at' 9 h2) (s':=?_) ?_ ?_);rotate_left 1;focus ((with_reducible refine QW ?_);simp only [Zg,seval,if_true,if_false,reduceCtorEq,Nat.reduceEqDiff];with_reducible rfl));(repeat' (first|with_reducible (first|refine Q1 ?_|refine Q2 ?_|refine Q3 ?_|refine Q4 ?_|refine Q5 ?_|refine Q6 ?_|refine Q7 ?_|refine Q8 ?_|refine Q9 ?_|refine Qa ?_|refine Qb ?_|refine Qc ?_|refine Qd ?_|refine Qe ?_|refine Qf ?_)|((with_reducible refine Qo ?_ ?_);focus rfl)|((with_reducible first|refine QT 30 (l:=?_) ?_ ?_|refine QF 30 (l:=?_) ?_ ?_);rotate_left 1;focus (simp only [Zu,Nat.reduceSub,Nat.reduceBEq];with_reducible rfl))|((with_reducible refine QC (b:=?_) ?_ ?_);rotate_left 1;focus ((with_reducible refine QW ?_);simp only [Zg,seval,if_true,if_false,reduceCtorEq,Nat.reduceEqDiff];with_reducible rfl)))))
 ((repeat' (first|with_reducible (first|refine Q1 ?_|refine Q2 ?_|refine Q3 ?_|refine Q4 ?_|refine Q5 ?_|refine Q6 ?_|refine Q7 ?_|refine Q8 ?_|refine Q9 ?_|refine Qa ?_|refine Qb ?_|refine Qc ?_|refine Qd ?_|refine Qe ?_|refine Qf ?_)|((with_reducible refine Qo ?_ ?_);focus rfl)|((with_reducible first|refine QT 30 (l:=?_) ?_ ?_|refine QF 30 (l:=?_) ?_ ?_);rotate_left 1;focus (simp only [Zu,Nat.reduceSub,Nat.reduceBEq];with_reducible rfl))|((with_reducible refine QC (b:=?_) ?_ ?_);rotate_left 1;focus ((with_reducible refine QW ?_);simp only [Zg,seval,if_true,if_false,reduceCtorEq,Nat.reduceEqDiff];with_reducible rfl))));(with_reducible refine RunK.regCut (cfg_ok 188) Tab.none 3 (s1:=?_) ?_ ?_);rotate_left 1;(focus ((with_reducible refine QW ?_);simp only [Zg,seval,if_true,if_false,reduceCtorEq,Nat.reduceEqDiff];with_reducible rfl));simp only [List.toList_toArray,List.drop_succ_cons,List.drop_zero])
 refine ROps.frzs [58] ?_
 (refine ROps.opsT (cfg_ok 188) (T:=Tab.none.at' 10 h3) (s':=?_) ?_ ?_;rotate_left 1;focus (simp only [Zg,seval,if_true,if_false,reduceCtorEq,Nat.reduceEqDiff];with_reducible rfl))
 ((repeat' (first|with_reducible (first|refine Q1 ?_|refine Q2 ?_|refine Q3 ?_|refine Q4 ?_|refine Q5 ?_|refine Q6 ?_|refine Q7 ?_|refine Q8 ?_|refine Q9 ?_|refine Qa ?_|refine Qb ?_|refine Qc ?_|refine Qd ?_|refine Qe ?_|refine Qf ?_)|((with_reducible refine Qo ?_ ?_);focus rfl)|((with_reducible first|refine QT 30 (l:=?_) ?_ ?_|refine QF 30 (l:=?_) ?_ ?_);rotate_left 1;focus (simp only [Zu,Nat.reduceSub,Nat.reduceBEq];with_reducible rfl))|((with_reducible refine QC (b:=?_) ?_ ?_);rotate_left 1;focus ((with_reducible refine QW ?_);simp only [Zg,seval,if_true,if_false,reduceCtorEq,Nat.reduceEqDiff];with_reducible rfl))));((with_reducible refine QS (cfg_ok 188) (Tab.none.at' 11 h4) (s':=?_) ?_ ?_);rotate_left 1;focus ((with_reducible refine QW ?_);simp only [Zg,seval,if_true,if_false,reduceCtorEq,Nat.reduceEqDiff];with_reducible rfl));(repeat' (first|with_reducible (first|refine Q1 ?_|refine Q2 ?_|refine Q3 ?_|refine Q4 ?_|refine Q5 ?_|refine Q6 ?_|refine Q7 ?_|refine Q8 ?_|refine Q9 ?_|refine Qa ?_|refine Qb ?_|refine Qc ?_|refine Qd ?_|refine Qe ?_|refine Qf ?_)|((with_reducible refine Qo ?_ ?_);focus rfl)|((with_reducible first|refine QT 30 (l:=?_) ?_ ?_|refine QF 30 (l:=?_) ?_ ?_);rotate_left 1;focus (simp only [Zu,Nat.reduceSub,Nat.reduceBEq];with_reducible rfl))|((with_reducible refine QC (b:=?_) ?_ ?_);rotate_left 1;focus ((with_reducible refine QW ?_);simp only [Zg,seval,if_true,if_false,reduceCtorEq,Nat.reduceEqDiff];with_reducible rfl)))))
 ((repeat' (first|with_reducible (first|refine Q1 ?_|refine Q2 ?_|refine Q3 ?_|refine Q4 ?_|refine Q5 ?_|refine Q6 ?_|refine Q7 ?_|refine Q8 ?_|refine Q9 ?_|refine Qa ?_|refine Qb ?_|refine Qc ?_|refine Qd ?_|refine Qe ?_|refine Qf ?_)|((with_reducible refine Qo ?_ ?_);focus rfl)|((with_reducible first|refine QT 30 (l:=?_) ?_ ?_|refine QF 30 (l:=?_) ?_ ?_);rotate_left 1;focus (simp only [Zu,Nat.reduceSub,Nat.reduceBEq];with_reducible rfl))|((with_reducible refine QC (b:=?_) ?_ ?_);rotate_left 1;focus ((with_reducible refine QW ?_);simp only [Zg,seval,if_true,if_false,reduceCtorEq,Nat.reduceEqDiff,b0,g0,hGm];with_reducible rfl))));((with_reducible refine QS (cfg_ok 188) Tab.none (s':=?_) ?_ ?_);rotate_left 1;focus ((with_reducible refine QW ?_);simp only [Zg,seval,if_true,if_false,reduceCtorEq,Nat.reduceEqDiff,b0,g0,hGm];with_reducible rfl));(repeat' (first|with_reducible (first|refine Q1 ?_|refine Q2 ?_|refine Q3 ?_|refine Q4 ?_|refine Q5 ?_|refine Q6 ?_|refine Q7 ?_|refine Q8 ?_|refine Q9 ?_|refine Qa ?_|refine Qb ?_|refine Qc ?_|refine Qd ?_|refine Qe ?_|refine Qf ?_)|((with_reducible refine Qo ?_ ?_);focus rfl)|((with_reducible first|refine QT 30 (l:=?_) ?_ ?_|refine QF 30 (l:=?_) ?_ ?_);rotate_left 1;focus (simp only [Zu,Nat.reduceSub,Nat.reduceBEq];with_reducible rfl))|((with_reducible refine QC (b:=?_) ?_ ?_);rotate_left 1;focus ((with_reducible refine QW ?_);simp only [Zg,seval,if_true,if_false,reduceCtorEq,Nat.reduceEqDiff,b0,g0,hGm];with_reducible rfl)))))
 ((repeat' (first|with_reducible (first|refine Q1 ?_|refine Q2 ?_|refine Q3 ?_|refine Q4 ?_|refine Q5 ?_|refine Q6 ?_|refine Q7 ?_|refine Q8 ?_|refine Q9 ?_|refine Qa ?_|refine Qb ?_|refine Qc ?_|refine Qd ?_|refine Qe ?_|refine Qf ?_)|((with_reducible refine Qo ?_ ?_);focus rfl)|((with_reducible first|refine QT 30 (l:=?_) ?_ ?_|refine QF 30 (l:=?_) ?_ ?_);rotate_left 1;focus (simp only [Zu,Nat.reduceSub,Nat.reduceBEq];with_reducible rfl))|((with_reducible refine QC (b:=?_) ?_ ?_);rotate_left 1;focus ((with_reducible refine QW ?_);simp only [Zg,seval,if_true,if_false,reduceCtorEq,Nat.reduceEqDiff];with_reducible rfl))));(with_reducible refine RunK.regCut (cfg_ok 188) Tab.none 4 (s1:=?_) ?_ ?_);rotate_left 1;(focus ((with_reducible refine QW ?_);simp only [Zg,seval,if_true,if_false,reduceCtorEq,Nat.reduceEqDiff];with_reducible rfl));simp only [List.toList_toArray,List.drop_succ_cons,List.drop_zero])
 refine ROps.frzs [91] ?_
 refine ROps.callNilP (cfg_ok 188) (d:=92) (g:=12) (xs:=[]) (tx:=[]) (pre:=[]) (ys:=[.tmp 88,.tmp 91,.const (.int .i64 1)]) (ty:=[31,31,2]) (post:=[[.sl 2 (A.map eCt)],[.sl 2 [[.sl 1 (w.map eI),.int 1]]],[.int 1]]) rfl (by decide) rfl rfl rfl rfl rfl rfl rfl rfl h5 rfl ?_
 (refine ROps.opsT (cfg_ok 188) (T:=Tab.none) (s':=?_) ?_ ?_;rotate_left 1;focus (simp only [Zg,seval,if_true,if_false,reduceCtorEq,Nat.reduceEqDiff];with_reducible rfl))
 ((repeat' (first|with_reducible (first|refine Q1 ?_|refine Q2 ?_|refine Q3 ?_|refine Q4 ?_|refine Q5 ?_|refine Q6 ?_|refine Q7 ?_|refine Q8 ?_|refine Q9 ?_|refine Qa ?_|refine Qb ?_|refine Qc ?_|refine Qd ?_|refine Qe ?_|refine Qf ?_)|((with_reducible refine Qo ?_ ?_);focus rfl)|((with_reducible first|refine QT 30 (l:=?_) ?_ ?_|refine QF 30 (l:=?_) ?_ ?_);rotate_left 1;focus (simp only [Zu,Nat.reduceSub,Nat.reduceBEq];with_reducible rfl))|((with_reducible refine QC (b:=?_) ?_ ?_);rotate_left 1;focus ((with_reducible refine QW ?_);simp only [Zg,seval,if_true,if_false,reduceCtorEq,Nat.reduceEqDiff];with_reducible rfl))));((with_reducible refine QS (cfg_ok 188) Tab.none (s':=?_) ?_ ?_);rotate_left 1;focus ((with_reducible refine QW ?_);simp only [Zg,seval,if_true,if_false,reduceCtorEq,Nat.reduceEqDiff];with_reducible rfl));(repeat' (first|with_reducible (first|refine Q1 ?_|refine Q2 ?_|refine Q3 ?_|refine Q4 ?_|refine Q5 ?_|refine Q6 ?_|refine Q7 ?_|refine Q8 ?_|refine Q9 ?_|refine Qa ?_|refine Qb ?_|refine Qc ?_|refine Qd ?_|refine Qe ?_|refine Qf ?_)|((with_reducible refine Qo ?_ ?_);focus rfl)|((with_reducible first|refine QT 30 (l:=?_) ?_ ?_|refine QF 30 (l:=?_) ?_ ?_);rotate_left 1;focus (simp only [Zu,Nat.reduceSub,Nat.reduceBEq];with_reducible rfl))|((with_reducible refine QC (b:=?_) ?_ ?_);rotate_left 1;focus ((with_reducible refine QW ?_);simp only [Zg,seval,if_true,if_false,reduceCtorEq,Nat.reduceEqDiff];with_reducible rfl)))))
 ((repeat' (first|with_reducible (first|refine Q1 ?_|refine Q2 ?_|refine Q3 ?_|refine Q4 ?_|refine Q5 ?_|refine Q6 ?_|refine Q7 ?_|refine Q8 ?_|refine Q9 ?_|refine Qa ?_|refine Qb ?_|refine Qc ?_|refine Qd ?_|refine Qe ?_|refine Qf ?_)|((with_reducible refine Qo ?_ ?_);focus rfl)|((with_reducible first|refine QT 30 (l:=?_) ?_ ?_|refine QF 30 (l:=?_) ?_ ?_);rotate_left 1;focus (simp only [Zu,Nat.reduceSub,Nat.reduceBEq];with_reducible rfl))|((with_reducible refine QC (b:=?_) ?_ ?_);rotate_left 1;focus ((with_reducible refine QW ?_);simp only [Zg,seval,if_true,if_false,reduceCtorEq,Nat.reduceEqDiff];with_reducible rfl))));((with_reducible refine QS (cfg_ok 188) (Tab.none.at' 12 h6) (s':=?_) ?_ ?_);rotate_left 1;focus ((with_reducible refine QW ?_);simp only [Zg,seval,if_true,if_false,reduceCtorEq,Nat.reduceEqDiff];with_reducible rfl));(repeat' (first|with_reducible (first|refine Q1 ?_|refine Q2 ?_|refine Q3 ?_|refine Q4 ?_|refine Q5 ?_|refine Q6 ?_|refine Q7 ?_|refine Q8 ?_|refine Q9 ?_|refine Qa ?_|refine Qb ?_|refine Qc ?_|refine Qd ?_|refine Qe ?_|refine Qf ?_)|((with_reducible refine Qo ?_ ?_);focus rfl)|((with_reducible first|refine QT 30 (l:=?_) ?_ ?_|refine QF 30 (l:=?_) ?_ ?_);rotate_left 1;focus (simp only [Zu,Nat.reduceSub,Nat.reduceBEq];with_reducible rfl))|((with_reducible refine QC (b:=?_) ?_ ?_);rotate_left 1;focus ((with_reducible refine QW ?_);simp only [Zg,seval,if_true,if_false,reduceCtorEq,Nat.reduceEqDiff];with_reducible rfl)))))
 repeat' (first|with_reducible (first|refine Q1 ?_|refine Q2 ?_|refine Q3 ?_|refine Q4 ?_|refine Q5 ?_|refine Q6 ?_|refine Q7 ?_|refine Q8 ?_|refine Q9 ?_|refine Qa ?_|refine Qb ?_|refine Qc ?_|refine Qd ?_|refine Qe ?_|refine Qf ?_)|((with_reducible refine Qo ?_ ?_);focus rfl)|((with_reducible first|refine QT 30 (l:=?_) ?_ ?_|refine QF 30 (l:=?_) ?_ ?_);rotate_left 1;focus (simp only [Zu,Nat.reduceSub,Nat.reduceBEq];with_reducible rfl))|((with_reducible first|refine QS (cfg_ok 188) Tab.none (s':=?_) ?_ ?_|refine QC (b:=?_) ?_ ?_);rotate_left 1;focus ((with_reducible refine QW ?_);simp only [Zg,seval,if_true,if_false,reduceCtorEq,Nat.reduceEqDiff];with_reducible rfl))|((with_reducible refine QD (cfg_ok 188) Tab.none mixed_ok (tr:=?_) (s':=?_) ?_ ?_ ?_);rotate_left 2;(focus ((with_reducible refine QW ?_);simp only [Zg,Zd,seval,if_true,if_false,reduceCtorEq,Nat.reduceEqDiff];with_reducible rfl));focus ((with_reducible refine QK ?_);simp only [Zk];kernel_rfl)))
 refine RunK.loop (β:=Nat) (γ:=Unit) (fun i => ⟨[(0,.c (.val (.sl 1 C))),(14,.c (.val (.sl 2 (G.map eCt)))),(16,.c (.val (.sl 2 ((add9 Mx (neg9 (G.take i))).map eCt)))),(18,.c (.val (.int i)))],[]⟩) (fun i => i ≤ G.length) (fun i => G.length - i)
  (fun _ => ⟨[(0,.c (.val (.sl 1 C))),(16,.c (.val (.sl 2 ((add9 Mx (neg9 G)).map eCt))))],[]⟩) (fun _ => True) 0 (Nat.zero_le _) ?_ ?_ ?_
 ·(repeat' (first|with_reducible refine Qn|((with_reducible refine Qr ?_ ?_);focus (first|with_reducible rfl|(simp only [Zz,Nat.reduceBEq,List.take_zero,neg9,List.map_nil,add9,List.foldl_nil,Int.natCast_zero];done)|rfl))|((with_reducible refine Qj (o':=?_) ?_ ?_ ?_);rotate_left 1;focus rfl)|((with_reducible refine Qw ?_ ?_);(focus (first|with_reducible rfl|(simp only [Zv,List.take_zero,neg9,List.map_nil,add9,List.foldl_nil,Int.natCast_zero];done)));focus (first|exact id|exact (fun h => nomatch h)|exact (fun _ => rfl)))))
 ·intro i hi
  have hi:i ≤ G.length:=hi
  have hwi:=w64_succ (n:=i) (by omega)
  by_cases h:i < G.length
  ·have i1:((i:Int) < (G.length:Int)) = True:=eq_true (by omega)
   have i2:((0:Int) ≤ (i:Int)) = True:=eq_true (by omega)
   have hp:=hG G[i] (List.getElem_mem _)
   have htk:neg9 (G.take (i + 1)) = neg9 (G.take i) ++ [(G[i].1,-G[i].2)]:=by
    rw [List.take_succ_eq_append_getElem h];unfold neg9;rw [List.map_append];rfl
   have hnl:(neg9 (G.take i)).length ≤ 64:=by unfold neg9;rw [List.length_map,List.length_take];omega
   have sm3:=add9_sm sm2 (by omega) (ps:=neg9 (G.take i)) (fun q hq => by
    obtain ⟨y,hy,rfl⟩:=List.mem_map.1 hq
    have:=hG y (List.mem_of_mem_take hy)
    simp only
    omega)
   obtain ⟨⟨pt,pc⟩,hpd⟩:∃ p,p = G[i]:=⟨_,rfl⟩
   have hgp:(G.map eCt)[i]? = some (eCt (pt,pc)):=by rw [List.getElem?_map,List.getElem?_eq_getElem h,hpd];rfl
   rw [← hpd] at hp htk
   simp only at hp htk
   have hn3:add9 Mx (neg9 (G.take (i + 1))) = sum9F (add9 Mx (neg9 (G.take i))) pt (-pc):=by rw [htk,add9_app];rfl
   obtain ⟨W,hW⟩:∃ W,W = add9 Mx (neg9 (G.take i)):=⟨_,rfl⟩
   rw [← hW] at sm3 hn3 ⊢
   have hsm:=AFn.val1 (a_sum9 W pt (-pc) sm3 (by omega) (by omega) (by omega) (by omega))
   have w0:w64 (0 - pc) = -pc:=by rw [w64_eq (by omega)];omega
   simp only [eCt] at hgp
   simp only [eL,eI] at hsm
   repeat' (first|with_reducible (first|refine Q1 ?_|refine Q2 ?_|refine Q3 ?_|refine Q4 ?_|refine Q5 ?_|refine Q6 ?_|refine Q7 ?_|refine Q8 ?_|refine Q9 ?_|refine Qa ?_|refine Qb ?_|refine Qc ?_|refine Qd ?_|refine Qe ?_|refine Qf ?_)|((with_reducible refine Qo ?_ ?_);focus rfl)|((with_reducible first|refine QT 30 (l:=?_) ?_ ?_|refine QF 30 (l:=?_) ?_ ?_);rotate_left 1;focus (simp only [Zu,Nat.reduceSub,Nat.reduceBEq];with_reducible rfl))|((with_reducible first|refine QS (cfg_ok 188) (Tab.none.at' 13 hsm) (s':=?_) ?_ ?_|refine QC (b:=?_) ?_ ?_);rotate_left 1;focus ((with_reducible refine QW ?_);simp only [Zg,seval,if_true,if_false,reduceCtorEq,Nat.reduceEqDiff,i1,i2,hGm,hgp,w0,hwi,Int.toNat_natCast];with_reducible rfl))|((with_reducible refine QD (cfg_ok 188) (Tab.none.at' 13 hsm) mixed_ok (tr:=?_) (s':=?_) ?_ ?_ ?_);rotate_left 2;(focus ((with_reducible refine QW ?_);simp only [Zg,Zd,seval,if_true,if_false,reduceCtorEq,Nat.reduceEqDiff,i1,i2,hGm,hgp,w0,hwi,Int.toNat_natCast];with_reducible rfl));focus ((with_reducible refine QK ?_);simp only [Zk];kernel_rfl)))
   refine roundK.on (i + 1) ⟨h,by omega⟩ ?_
   rw [hn3]
   (repeat' (first|with_reducible refine Qn|((with_reducible refine Qr ?_ ?_);focus (first|with_reducible rfl|(simp only [Zz,Nat.reduceBEq];done)|rfl))|((with_reducible refine Qj (o':=?_) ?_ ?_ ?_);rotate_left 1;focus rfl)|((with_reducible refine Qw ?_ ?_);(focus (first|with_reducible rfl|(simp only [Zv];done)));focus (first|exact id|exact (fun h => nomatch h)|exact (fun _ => rfl)))))
  ·have i1:((i:Int) < (G.length:Int)) = False:=eq_false (by omega)
   obtain rfl:i = G.length:=by omega
   rw [List.take_length]
   repeat' (first|with_reducible (first|refine Q1 ?_|refine Q2 ?_|refine Q3 ?_|refine Q4 ?_|refine Q5 ?_|refine Q6 ?_|refine Q7 ?_|refine Q8 ?_|refine Q9 ?_|refine Qa ?_|refine Qb ?_|refine Qc ?_|refine Qd ?_|refine Qe ?_|refine Qf ?_)|((with_reducible refine Qo ?_ ?_);focus rfl)|((with_reducible first|refine QT 30 (l:=?_) ?_ ?_|refine QF 30 (l:=?_) ?_ ?_);rotate_left 1;focus (simp only [Zu,Nat.reduceSub,Nat.reduceBEq];with_reducible rfl))|((with_reducible first|refine QS (cfg_ok 188) Tab.none (s':=?_) ?_ ?_|refine QC (b:=?_) ?_ ?_);rotate_left 1;focus ((with_reducible refine QW ?_);simp only [Zg,seval,if_true,if_false,reduceCtorEq,Nat.reduceEqDiff,i1,hGm];with_reducible rfl))|((with_reducible refine QD (cfg_ok 188) Tab.none mixed_ok (tr:=?_) (s':=?_) ?_ ?_ ?_);rotate_left 2;(focus ((with_reducible refine QW ?_);simp only [Zg,Zd,seval,if_true,if_false,reduceCtorEq,Nat.reduceEqDiff,i1,hGm];with_reducible rfl));focus ((with_reducible refine QK ?_);simp only [Zk];kernel_rfl)))
   refine roundK.out () trivial ?_
   (repeat' (first|with_reducible refine Qn|((with_reducible refine Qr ?_ ?_);focus (first|with_reducible rfl|(simp only [Zz,Nat.reduceBEq];done)|rfl))|((with_reducible refine Qj (o':=?_) ?_ ?_ ?_);rotate_left 1;focus rfl)|((with_reducible refine Qw ?_ ?_);(focus (first|with_reducible rfl|(simp only [Zv];done)));focus (first|exact id|exact (fun h => nomatch h)|exact (fun _ => rfl)))))
 intro _ _
 have sm3:=add9_sm sm2 (by omega) (ps:=neg9 G) (fun q hq => by
  obtain ⟨y,hy,rfl⟩:=List.mem_map.1 hq
  have:=hG y hy
  simp only
  omega)
 have hnl:(neg9 G).length ≤ 64:=by unfold neg9;rw [List.length_map];omega
 obtain ⟨Z,hZ⟩:∃ Z,Z = add9 Mx (neg9 G):=⟨_,rfl⟩
 rw [← hZ] at sm3 hz ⊢
 have hZl:=sm3.1
 have hZm:(Z.map eCt).length = Z.length:=List.length_map _
 repeat' (first|with_reducible (first|refine Q1 ?_|refine Q2 ?_|refine Q3 ?_|refine Q4 ?_|refine Q5 ?_|refine Q6 ?_|refine Q7 ?_|refine Q8 ?_|refine Q9 ?_|refine Qa ?_|refine Qb ?_|refine Qc ?_|refine Qd ?_|refine Qe ?_|refine Qf ?_)|((with_reducible refine Qo ?_ ?_);focus rfl)|((with_reducible first|refine QT 30 (l:=?_) ?_ ?_|refine QF 30 (l:=?_) ?_ ?_);rotate_left 1;focus (simp only [Zu,Nat.reduceSub,Nat.reduceBEq];with_reducible rfl))|((with_reducible first|refine QS (cfg_ok 188) Tab.none (s':=?_) ?_ ?_|refine QC (b:=?_) ?_ ?_);rotate_left 1;focus ((with_reducible refine QW ?_);simp only [Zg,seval,if_true,if_false,reduceCtorEq,Nat.reduceEqDiff];with_reducible rfl))|((with_reducible refine QD (cfg_ok 188) Tab.none mixed_ok (tr:=?_) (s':=?_) ?_ ?_ ?_);rotate_left 2;(focus ((with_reducible refine QW ?_);simp only [Zg,Zd,seval,if_true,if_false,reduceCtorEq,Nat.reduceEqDiff];with_reducible rfl));focus ((with_reducible refine QK ?_);simp only [Zk];kernel_rfl)))
 refine RunK.loop (β:=Nat) (γ:=Unit) (fun i => ⟨[(0,.c (.val (.sl 1 C))),(16,.c (.val (.sl 2 (Z.map eCt)))),(19,.c (.val (.int i)))],[]⟩) (fun i => i ≤ Z.length) (fun i => Z.length - i)
  (fun _ => ⟨[(0,.c (.val (.sl 1 C)))],[]⟩) (fun _ => True) 0 (Nat.zero_le _) ?_ ?_ ?_
 ·(repeat' (first|with_reducible refine Qn|((with_reducible refine Qr ?_ ?_);focus (first|with_reducible rfl|(simp only [Zz,Nat.reduceBEq,Int.natCast_zero];done)|rfl))|((with_reducible refine Qj (o':=?_) ?_ ?_ ?_);rotate_left 1;focus rfl)|((with_reducible refine Qw ?_ ?_);(focus (first|with_reducible rfl|(simp only [Zv,Int.natCast_zero];done)));focus (first|exact id|exact (fun h => nomatch h)|exact (fun _ => rfl)))))
 ·intro i hi
  have hi:i ≤ Z.length:=hi
  have hwi:=w64_succ (n:=i) (by omega)
  by_cases h:i < Z.length
  ·have i1:((i:Int) < (Z.length:Int)) = True:=eq_true (by omega)
   have i2:((0:Int) ≤ (i:Int)) = True:=eq_true (by omega)
   have hgp:(Z.map eCt)[i]? = some [.sl 1 (Z[i].1.map eI),.int 0]:=by
    have e:=hz Z[i] (List.getElem_mem _)
    rw [List.getElem?_map,List.getElem?_eq_getElem h]
    show some [D.sl 1 (Z[i].1.map eI),D.int Z[i].2] = _
    rw [e]
   repeat' (first|with_reducible (first|refine Q1 ?_|refine Q2 ?_|refine Q3 ?_|refine Q4 ?_|refine Q5 ?_|refine Q6 ?_|refine Q7 ?_|refine Q8 ?_|refine Q9 ?_|refine Qa ?_|refine Qb ?_|refine Qc ?_|refine Qd ?_|refine Qe ?_|refine Qf ?_)|((with_reducible refine Qo ?_ ?_);focus rfl)|((with_reducible first|refine QT 30 (l:=?_) ?_ ?_|refine QF 30 (l:=?_) ?_ ?_);rotate_left 1;focus (simp only [Zu,Nat.reduceSub,Nat.reduceBEq];with_reducible rfl))|((with_reducible first|refine QS (cfg_ok 188) Tab.none (s':=?_) ?_ ?_|refine QC (b:=?_) ?_ ?_);rotate_left 1;focus ((with_reducible refine QW ?_);simp only [Zg,seval,if_true,if_false,reduceCtorEq,Nat.reduceEqDiff,i1,i2,hZm,hgp,b0,hwi,Int.toNat_natCast];with_reducible rfl))|((with_reducible refine QD (cfg_ok 188) Tab.none mixed_ok (tr:=?_) (s':=?_) ?_ ?_ ?_);rotate_left 2;(focus ((with_reducible refine QW ?_);simp only [Zg,Zd,seval,if_true,if_false,reduceCtorEq,Nat.reduceEqDiff,i1,i2,hZm,hgp,b0,hwi,Int.toNat_natCast];with_reducible rfl));focus ((with_reducible refine QK ?_);simp only [Zk];kernel_rfl)))
   refine roundK.on (i + 1) ⟨h,by omega⟩ ?_
   (repeat' (first|with_reducible refine Qn|((with_reducible refine Qr ?_ ?_);focus (first|with_reducible rfl|(simp only [Zz,Nat.reduceBEq];done)|rfl))|((with_reducible refine Qj (o':=?_) ?_ ?_ ?_);rotate_left 1;focus rfl)|((with_reducible refine Qw ?_ ?_);(focus (first|with_reducible rfl|(simp only [Zv];done)));focus (first|exact id|exact (fun h => nomatch h)|exact (fun _ => rfl)))))
  ·have i1:((i:Int) < (Z.length:Int)) = False:=eq_false (by omega)
   repeat' (first|with_reducible (first|refine Q1 ?_|refine Q2 ?_|refine Q3 ?_|refine Q4 ?_|refine Q5 ?_|refine Q6 ?_|refine Q7 ?_|refine Q8 ?_|refine Q9 ?_|refine Qa ?_|refine Qb ?_|refine Qc ?_|refine Qd ?_|refine Qe ?_|refine Qf ?_)|((with_reducible refine Qo ?_ ?_);focus rfl)|((with_reducible first|refine QT 30 (l:=?_) ?_ ?_|refine QF 30 (l:=?_) ?_ ?_);rotate_left 1;focus (simp only [Zu,Nat.reduceSub,Nat.reduceBEq];with_reducible rfl))|((with_reducible first|refine QS (cfg_ok 188) Tab.none (s':=?_) ?_ ?_|refine QC (b:=?_) ?_ ?_);rotate_left 1;focus ((with_reducible refine QW ?_);simp only [Zg,seval,if_true,if_false,reduceCtorEq,Nat.reduceEqDiff,i1,hZm];with_reducible rfl))|((with_reducible refine QD (cfg_ok 188) Tab.none mixed_ok (tr:=?_) (s':=?_) ?_ ?_ ?_);rotate_left 2;(focus ((with_reducible refine QW ?_);simp only [Zg,Zd,seval,if_true,if_false,reduceCtorEq,Nat.reduceEqDiff,i1,hZm];with_reducible rfl));focus ((with_reducible refine QK ?_);simp only [Zk];kernel_rfl)))
   refine roundK.out () trivial ?_
   (repeat' (first|with_reducible refine Qn|((with_reducible refine Qr ?_ ?_);focus (first|with_reducible rfl|(simp only [Zz,Nat.reduceBEq];done)|rfl))|((with_reducible refine Qj (o':=?_) ?_ ?_ ?_);rotate_left 1;focus rfl)|((with_reducible refine Qw ?_ ?_);(focus (first|with_reducible rfl|(simp only [Zv];done)));focus (first|exact id|exact (fun h => nomatch h)|exact (fun _ => rfl)))))
 intro _ _
 ((repeat' (first|with_reducible (first|refine Q1 ?_|refine Q2 ?_|refine Q3 ?_|refine Q4 ?_|refine Q5 ?_|refine Q6 ?_|refine Q7 ?_|refine Q8 ?_|refine Q9 ?_|refine Qa ?_|refine Qb ?_|refine Qc ?_|refine Qd ?_|refine Qe ?_|refine Qf ?_)|((with_reducible refine Qo ?_ ?_);focus rfl)|((with_reducible first|refine QT 30 (l:=?_) ?_ ?_|refine QF 30 (l:=?_) ?_ ?_);rotate_left 1;focus (simp only [Zu,Nat.reduceSub,Nat.reduceBEq];with_reducible rfl))|((with_reducible refine QC (b:=?_) ?_ ?_);rotate_left 1;focus ((with_reducible refine QW ?_);simp only [Zg,seval,if_true,if_false,reduceCtorEq,Nat.reduceEqDiff];with_reducible rfl))));((with_reducible refine QS (cfg_ok 188) (Tab.none.at' 14 hdg) (s':=?_) ?_ ?_);rotate_left 1;focus ((with_reducible refine QW ?_);simp only [Zg,seval,if_true,if_false,reduceCtorEq,Nat.reduceEqDiff];with_reducible rfl));(repeat' (first|with_reducible (first|refine Q1 ?_|refine Q2 ?_|refine Q3 ?_|refine Q4 ?_|refine Q5 ?_|refine Q6 ?_|refine Q7 ?_|refine Q8 ?_|refine Q9 ?_|refine Qa ?_|refine Qb ?_|refine Qc ?_|refine Qd ?_|refine Qe ?_|refine Qf ?_)|((with_reducible refine Qo ?_ ?_);focus rfl)|((with_reducible first|refine QT 30 (l:=?_) ?_ ?_|refine QF 30 (l:=?_) ?_ ?_);rotate_left 1;focus (simp only [Zu,Nat.reduceSub,Nat.reduceBEq];with_reducible rfl))|((with_reducible refine QC (b:=?_) ?_ ?_);rotate_left 1;focus ((with_reducible refine QW ?_);simp only [Zg,seval,if_true,if_false,reduceCtorEq,Nat.reduceEqDiff];with_reducible rfl)))))
 refine RunK.frz 20 ?_
 refine RunK.frz 21 ?_
 refine RunK.fits (s0:=⟨[(20,.c (.val (.sl 1 (g.map eI)))),(21,.c (.val (.sl 1 (bad.map eL))))],[]⟩) ?_ ?_
 ·(repeat' (first|with_reducible refine Qn|((with_reducible refine Qr ?_ ?_);focus (first|with_reducible rfl|(simp only [Zz,Nat.reduceBEq,St.frz,frzR,frzH,look,AV.frz,AC.frz,Obj.frz,drop];done)|rfl))|((with_reducible refine Qj (o':=?_) ?_ ?_ ?_);rotate_left 1;focus rfl)|((with_reducible refine Qw ?_ ?_);(focus (first|with_reducible rfl|(simp only [Zv,St.frz,frzR,frzH,look,AV.frz,AC.frz,Obj.frz,drop];done)));focus (first|exact id|exact (fun h => nomatch h)|exact (fun _ => rfl)))))
  all_goals first|exact ⟨rfl,rfl⟩|exact ⟨rfl,rfl,id⟩
 have b1:((1:Int) != 0) = true:=by decide
 have b3:((3:Int) != 0) = true:=by decide
 have b11:((1:Int) != 1) = false:=by decide
 have b33:((3:Int) != 3) = false:=by decide
 have b00:((0:Int) == 0) = true:=by decide
 simp only [eL,eLL] at q1 q2
 by_cases hb:(lev8 g && forB bad) = true
 rotate_left
 ·have e:gfOf g bad = ([],1):=by unfold gfOf;rw [if_neg hb]
  have hfl:(!(lev8 g && forB bad && decide (g.length + sumLen bad ≤ 8))) = true:=by
   rw [Bool.not_eq_true] at hb
   rw [hb];rfl
  rw [e] at q1 q2
  rw [hfl] at q2
  repeat' (first|with_reducible (first|refine Q1 ?_|refine Q2 ?_|refine Q3 ?_|refine Q4 ?_|refine Q5 ?_|refine Q6 ?_|refine Q7 ?_|refine Q8 ?_|refine Q9 ?_|refine Qa ?_|refine Qb ?_|refine Qc ?_|refine Qd ?_|refine Qe ?_|refine Qf ?_)|((with_reducible refine Qo ?_ ?_);focus rfl)|((with_reducible first|refine QT 30 (l:=?_) ?_ ?_|refine QF 30 (l:=?_) ?_ ?_);rotate_left 1;focus (simp only [Zu,Nat.reduceSub,Nat.reduceBEq];with_reducible rfl))|((with_reducible first|refine QS (cfg_ok 188) ((Tab.none.at' 11 q1).at' 15 q2) (s':=?_) ?_ ?_|refine QC (b:=?_) ?_ ?_);rotate_left 1;focus ((with_reducible refine QW ?_);simp only [Zg,seval,if_true,if_false,reduceCtorEq,Nat.reduceEqDiff,b1,b11,b00,List.map_nil,List.length_nil,Int.natCast_zero];with_reducible rfl))|((with_reducible refine QD (cfg_ok 188) ((Tab.none.at' 11 q1).at' 15 q2) mixed_ok (tr:=?_) (s':=?_) ?_ ?_ ?_);rotate_left 2;(focus ((with_reducible refine QW ?_);simp only [Zg,Zd,seval,if_true,if_false,reduceCtorEq,Nat.reduceEqDiff,b1,b11,b00,List.map_nil,List.length_nil,Int.natCast_zero];with_reducible rfl));focus ((with_reducible refine QK ?_);simp only [Zk];kernel_rfl)))
  (refine Ends.mk (by simp) (rs:=?_) (ks:=?_) hres hrts ?_ ?_ ?_;rotate_left 2;(focus (simp only [Ze,Zg,seval,if_true,if_false,reduceCtorEq,Nat.reduceEqDiff];with_reducible rfl));(focus simp);focus (first|with_reducible rfl|(simp only [Zv];done)))
 by_cases h8:g.length + sumLen bad ≤ 8
 rotate_left
 ·have e:gfOf g bad = ([],3):=by unfold gfOf;rw [if_pos hb,if_neg h8]
  have hfl:(!(lev8 g && forB bad && decide (g.length + sumLen bad ≤ 8))) = true:=by
   rw [decide_eq_false h8,Bool.and_false];rfl
  rw [e] at q1 q2
  rw [hfl] at q2
  repeat' (first|with_reducible (first|refine Q1 ?_|refine Q2 ?_|refine Q3 ?_|refine Q4 ?_|refine Q5 ?_|refine Q6 ?_|refine Q7 ?_|refine Q8 ?_|refine Q9 ?_|refine Qa ?_|refine Qb ?_|refine Qc ?_|refine Qd ?_|refine Qe ?_|refine Qf ?_)|((with_reducible refine Qo ?_ ?_);focus rfl)|((with_reducible first|refine QT 30 (l:=?_) ?_ ?_|refine QF 30 (l:=?_) ?_ ?_);rotate_left 1;focus (simp only [Zu,Nat.reduceSub,Nat.reduceBEq];with_reducible rfl))|((with_reducible first|refine QS (cfg_ok 188) ((Tab.none.at' 11 q1).at' 15 q2) (s':=?_) ?_ ?_|refine QC (b:=?_) ?_ ?_);rotate_left 1;focus ((with_reducible refine QW ?_);simp only [Zg,seval,if_true,if_false,reduceCtorEq,Nat.reduceEqDiff,b3,b33,b00,List.map_nil,List.length_nil,Int.natCast_zero];with_reducible rfl))|((with_reducible refine QD (cfg_ok 188) ((Tab.none.at' 11 q1).at' 15 q2) mixed_ok (tr:=?_) (s':=?_) ?_ ?_ ?_);rotate_left 2;(focus ((with_reducible refine QW ?_);simp only [Zg,Zd,seval,if_true,if_false,reduceCtorEq,Nat.reduceEqDiff,b3,b33,b00,List.map_nil,List.length_nil,Int.natCast_zero];with_reducible rfl));focus ((with_reducible refine QK ?_);simp only [Zk];kernel_rfl)))
  (refine Ends.mk (by simp) (rs:=?_) (ks:=?_) hres hrts ?_ ?_ ?_;rotate_left 2;(focus (simp only [Ze,Zg,seval,if_true,if_false,reduceCtorEq,Nat.reduceEqDiff];with_reducible rfl));(focus simp);focus (first|with_reducible rfl|(simp only [Zv];done)))
 have e:gfOf g bad = (sumOf (gfT g bad),0):=by unfold gfOf;rw [if_pos hb,if_pos h8]
 have hfl:(!(lev8 g && forB bad && decide (g.length + sumLen bad ≤ 8))) = false:=by
  rw [decide_eq_true h8,Bool.and_true,hb];rfl
 rw [e] at q1 q2
 rw [hfl] at q2
 rw [Bool.and_eq_true] at hb
 have FG:=gf_all hb.1 hb.2 h8
 have hpow:=FG.pow
 have hgp1:=(lev8_lev hb.1).pos
 have htl:(gfT g bad).length = g.length ^ bad.length:=by unfold gfT;rw [List.length_map,plcO_len]
 obtain ⟨pw,hpw⟩:∃ pw:Nat→Nat,∀ i,pw i = g.length ^ i:=⟨fun i => g.length ^ i,fun _ => rfl⟩
 have hpwl:∀ i,i ≤ bad.length→pw i ≤ 256:=fun i hi => by
  rw [hpw];exact Nat.le_trans (Nat.pow_le_pow_right hgp1 hi) hpow
 have hpws:∀ i,(pw i:Int) * (g.length:Int) = (pw (i + 1):Int):=fun i => by rw [hpw,hpw,Nat.pow_succ,Int.natCast_mul]
 have hpw0:pw 0 = 1:=by rw [hpw];rfl
 have htot:=totF_sum (gfT g bad)
 rw [htl,← hpw] at htot
 have his:=sumOf_is (gfT g bad)
 have hLl:=sumOf_len (gfT g bad)
 have hcn:∀ z ∈ sumOf (gfT g bad),0 ≤ z.2∧z.2 ≤ 1000:=fun z hz => by
  have k1:=his.1.2 z hz
  have k2:=his.cnt z hz
  omega
 obtain ⟨L,hL⟩:∃ L,L = sumOf (gfT g bad):=⟨_,rfl⟩
 rw [← hL] at q1 q2 htot hLl hcn
 have hbd:=totF_bd hcn
 have hLm:(L.map eCt).length = L.length:=List.length_map _
 have hgm:(g.map eI).length = g.length:=List.length_map _
 have hbm:(bad.map eL).length = bad.length:=List.length_map _
 repeat' (first|with_reducible (first|refine Q1 ?_|refine Q2 ?_|refine Q3 ?_|refine Q4 ?_|refine Q5 ?_|refine Q6 ?_|refine Q7 ?_|refine Q8 ?_|refine Q9 ?_|refine Qa ?_|refine Qb ?_|refine Qc ?_|refine Qd ?_|refine Qe ?_|refine Qf ?_)|((with_reducible refine Qo ?_ ?_);focus rfl)|((with_reducible first|refine QT 30 (l:=?_) ?_ ?_|refine QF 30 (l:=?_) ?_ ?_);rotate_left 1;focus (simp only [Zu,Nat.reduceSub,Nat.reduceBEq];with_reducible rfl))|((with_reducible first|refine QS (cfg_ok 188) ((Tab.none.at' 11 q1).at' 15 q2) (s':=?_) ?_ ?_|refine QC (b:=?_) ?_ ?_);rotate_left 1;focus ((with_reducible refine QW ?_);simp only [Zg,seval,if_true,if_false,reduceCtorEq,Nat.reduceEqDiff,b0];with_reducible rfl))|((with_reducible refine QD (cfg_ok 188) ((Tab.none.at' 11 q1).at' 15 q2) mixed_ok (tr:=?_) (s':=?_) ?_ ?_ ?_);rotate_left 2;(focus ((with_reducible refine QW ?_);simp only [Zg,Zd,seval,if_true,if_false,reduceCtorEq,Nat.reduceEqDiff,b0];with_reducible rfl));focus ((with_reducible refine QK ?_);simp only [Zk];kernel_rfl)))
 refine RunK.loop (β:=Nat) (γ:=Unit) (fun i => ⟨[(20,.c (.val (.sl 1 (g.map eI)))),(21,.c (.val (.sl 1 (bad.map eL)))),(22,.c (.val (.sl 2 (L.map eCt)))),(26,.c (.val (.int (totF L i)))),(27,.c (.val (.int 1))),(28,.c (.val (.int i)))],[]⟩) (fun i => i ≤ L.length) (fun i => L.length - i)
  (fun _ => ⟨[(20,.c (.val (.sl 1 (g.map eI)))),(21,.c (.val (.sl 1 (bad.map eL)))),(26,.c (.val (.int (pw bad.length)))),(27,.c (.val (.int 1)))],[]⟩) (fun _ => True) 0 (Nat.zero_le _) ?_ ?_ ?_
 ·(repeat' (first|with_reducible refine Qn|((with_reducible refine Qr ?_ ?_);focus (first|with_reducible rfl|(simp only [Zz,Nat.reduceBEq,Int.natCast_zero,show totF L 0 = 0 from rfl];done)|rfl))|((with_reducible refine Qj (o':=?_) ?_ ?_ ?_);rotate_left 1;focus rfl)|((with_reducible refine Qw ?_ ?_);(focus (first|with_reducible rfl|(simp only [Zv,Int.natCast_zero,show totF L 0 = 0 from rfl];done)));focus (first|exact id|exact (fun h => nomatch h)|exact (fun _ => rfl)))))
 ·intro i hi
  have hi:i ≤ L.length:=hi
  have hwi:=w64_succ (n:=i) (by omega)
  by_cases h:i < L.length
  ·have i1:((i:Int) < (L.length:Int)) = True:=eq_true (by omega)
   have i2:((0:Int) ≤ (i:Int)) = True:=eq_true (by omega)
   have e:L.getD i ([],0) = L[i]:=by rw [List.getD_eq_getElem?_getD,List.getElem?_eq_getElem h];rfl
   have hg:(L.map eCt)[i]? = some (eCt L[i]):=by rw [List.getElem?_map,List.getElem?_eq_getElem h];rfl
   have ht1:totF L (i + 1) = totF L i + L[i].2:=by show totF L i + (L.getD i ([],0)).2 = _;rw [e]
   have hb0:=hbd i (by omega)
   have hc0:=hcn L[i] (List.getElem_mem _)
   have w1:w64 (totF L i + L[i].2) = totF L (i + 1):=by rw [ht1];exact w64_eq (by omega)
   simp only [eCt] at hg
   repeat' (first|with_reducible (first|refine Q1 ?_|refine Q2 ?_|refine Q3 ?_|refine Q4 ?_|refine Q5 ?_|refine Q6 ?_|refine Q7 ?_|refine Q8 ?_|refine Q9 ?_|refine Qa ?_|refine Qb ?_|refine Qc ?_|refine Qd ?_|refine Qe ?_|refine Qf ?_)|((with_reducible refine Qo ?_ ?_);focus rfl)|((with_reducible first|refine QT 30 (l:=?_) ?_ ?_|refine QF 30 (l:=?_) ?_ ?_);rotate_left 1;focus (simp only [Zu,Nat.reduceSub,Nat.reduceBEq];with_reducible rfl))|((with_reducible first|refine QS (cfg_ok 188) Tab.none (s':=?_) ?_ ?_|refine QC (b:=?_) ?_ ?_);rotate_left 1;focus ((with_reducible refine QW ?_);simp only [Zg,seval,if_true,if_false,reduceCtorEq,Nat.reduceEqDiff,i1,i2,hLm,hg,w1,hwi,Int.toNat_natCast];with_reducible rfl))|((with_reducible refine QD (cfg_ok 188) Tab.none mixed_ok (tr:=?_) (s':=?_) ?_ ?_ ?_);rotate_left 2;(focus ((with_reducible refine QW ?_);simp only [Zg,Zd,seval,if_true,if_false,reduceCtorEq,Nat.reduceEqDiff,i1,i2,hLm,hg,w1,hwi,Int.toNat_natCast];with_reducible rfl));focus ((with_reducible refine QK ?_);simp only [Zk];kernel_rfl)))
   refine roundK.on (i + 1) ⟨h,by omega⟩ ?_
   (repeat' (first|with_reducible refine Qn|((with_reducible refine Qr ?_ ?_);focus (first|with_reducible rfl|(simp only [Zz,Nat.reduceBEq];done)|rfl))|((with_reducible refine Qj (o':=?_) ?_ ?_ ?_);rotate_left 1;focus rfl)|((with_reducible refine Qw ?_ ?_);(focus (first|with_reducible rfl|(simp only [Zv];done)));focus (first|exact id|exact (fun h => nomatch h)|exact (fun _ => rfl)))))
  ·have i1:((i:Int) < (L.length:Int)) = False:=eq_false (by omega)
   obtain rfl:i = L.length:=by omega
   rw [htot]
   repeat' (first|with_reducible (first|refine Q1 ?_|refine Q2 ?_|refine Q3 ?_|refine Q4 ?_|refine Q5 ?_|refine Q6 ?_|refine Q7 ?_|refine Q8 ?_|refine Q9 ?_|refine Qa ?_|refine Qb ?_|refine Qc ?_|refine Qd ?_|refine Qe ?_|refine Qf ?_)|((with_reducible refine Qo ?_ ?_);focus rfl)|((with_reducible first|refine QT 30 (l:=?_) ?_ ?_|refine QF 30 (l:=?_) ?_ ?_);rotate_left 1;focus (simp only [Zu,Nat.reduceSub,Nat.reduceBEq];with_reducible rfl))|((with_reducible first|refine QS (cfg_ok 188) Tab.none (s':=?_) ?_ ?_|refine QC (b:=?_) ?_ ?_);rotate_left 1;focus ((with_reducible refine QW ?_);simp only [Zg,seval,if_true,if_false,reduceCtorEq,Nat.reduceEqDiff,i1,hLm];with_reducible rfl))|((with_reducible refine QD (cfg_ok 188) Tab.none mixed_ok (tr:=?_) (s':=?_) ?_ ?_ ?_);rotate_left 2;(focus ((with_reducible refine QW ?_);simp only [Zg,Zd,seval,if_true,if_false,reduceCtorEq,Nat.reduceEqDiff,i1,hLm];with_reducible rfl));focus ((with_reducible refine QK ?_);simp only [Zk];kernel_rfl)))
   refine roundK.out () trivial ?_
   (repeat' (first|with_reducible refine Qn|((with_reducible refine Qr ?_ ?_);focus (first|with_reducible rfl|(simp only [Zz,Nat.reduceBEq];done)|rfl))|((with_reducible refine Qj (o':=?_) ?_ ?_ ?_);rotate_left 1;focus rfl)|((with_reducible refine Qw ?_ ?_);(focus (first|with_reducible rfl|(simp only [Zv];done)));focus (first|exact id|exact (fun h => nomatch h)|exact (fun _ => rfl)))))
 intro _ _
 repeat' (first|with_reducible (first|refine Q1 ?_|refine Q2 ?_|refine Q3 ?_|refine Q4 ?_|refine Q5 ?_|refine Q6 ?_|refine Q7 ?_|refine Q8 ?_|refine Q9 ?_|refine Qa ?_|refine Qb ?_|refine Qc ?_|refine Qd ?_|refine Qe ?_|refine Qf ?_)|((with_reducible refine Qo ?_ ?_);focus rfl)|((with_reducible first|refine QT 30 (l:=?_) ?_ ?_|refine QF 30 (l:=?_) ?_ ?_);rotate_left 1;focus (simp only [Zu,Nat.reduceSub,Nat.reduceBEq];with_reducible rfl))|((with_reducible first|refine QS (cfg_ok 188) Tab.none (s':=?_) ?_ ?_|refine QC (b:=?_) ?_ ?_);rotate_left 1;focus ((with_reducible refine QW ?_);simp only [Zg,seval,if_true,if_false,reduceCtorEq,Nat.reduceEqDiff];with_reducible rfl))|((with_reducible refine QD (cfg_ok 188) Tab.none mixed_ok (tr:=?_) (s':=?_) ?_ ?_ ?_);rotate_left 2;(focus ((with_reducible refine QW ?_);simp only [Zg,Zd,seval,if_true,if_false,reduceCtorEq,Nat.reduceEqDiff];with_reducible rfl));focus ((with_reducible refine QK ?_);simp only [Zk];kernel_rfl)))
 refine RunK.loop (β:=Nat) (γ:=Unit) (fun i => ⟨[(20,.c (.val (.sl 1 (g.map eI)))),(21,.c (.val (.sl 1 (bad.map eL)))),(26,.c (.val (.int (pw bad.length)))),(27,.c (.val (.int (pw i)))),(29,.c (.val (.int i)))],[]⟩) (fun i => i ≤ bad.length) (fun i => bad.length - i)
  (fun _ => ⟨[(26,.c (.val (.int (pw bad.length)))),(27,.c (.val (.int (pw bad.length))))],[]⟩) (fun _ => True) 0 (Nat.zero_le _) ?_ ?_ ?_
 ·(repeat' (first|with_reducible refine Qn|((with_reducible refine Qr ?_ ?_);focus (first|with_reducible rfl|(simp only [Zz,Nat.reduceBEq,Int.natCast_zero,hpw0,Int.natCast_one];done)|rfl))|((with_reducible refine Qj (o':=?_) ?_ ?_ ?_);rotate_left 1;focus rfl)|((with_reducible refine Qw ?_ ?_);(focus (first|with_reducible rfl|(simp only [Zv,Int.natCast_zero,hpw0,Int.natCast_one];done)));focus (first|exact id|exact (fun h => nomatch h)|exact (fun _ => rfl)))))
 ·intro i hi
  have hi:i ≤ bad.length:=hi
  have hwi:=w64_succ (n:=i) (by omega)
  by_cases h:i < bad.length
  ·have i1:((i:Int) < (bad.length:Int)) = True:=eq_true (by omega)
   have hpl:=hpwl (i + 1) (by omega)
   have w1:w64 ((pw i:Int) * (g.length:Int)) = (pw (i + 1):Int):=by rw [hpws];exact w64_eq (by omega)
   repeat' (first|with_reducible (first|refine Q1 ?_|refine Q2 ?_|refine Q3 ?_|refine Q4 ?_|refine Q5 ?_|refine Q6 ?_|refine Q7 ?_|refine Q8 ?_|refine Q9 ?_|refine Qa ?_|refine Qb ?_|refine Qc ?_|refine Qd ?_|refine Qe ?_|refine Qf ?_)|((with_reducible refine Qo ?_ ?_);focus rfl)|((with_reducible first|refine QT 30 (l:=?_) ?_ ?_|refine QF 30 (l:=?_) ?_ ?_);rotate_left 1;focus (simp only [Zu,Nat.reduceSub,Nat.reduceBEq];with_reducible rfl))|((with_reducible first|refine QS (cfg_ok 188) Tab.none (s':=?_) ?_ ?_|refine QC (b:=?_) ?_ ?_);rotate_left 1;focus ((with_reducible refine QW ?_);simp only [Zg,seval,if_true,if_false,reduceCtorEq,Nat.reduceEqDiff,i1,hbm,hgm,w1,hwi];with_reducible rfl))|((with_reducible refine QD (cfg_ok 188) Tab.none mixed_ok (tr:=?_) (s':=?_) ?_ ?_ ?_);rotate_left 2;(focus ((with_reducible refine QW ?_);simp only [Zg,Zd,seval,if_true,if_false,reduceCtorEq,Nat.reduceEqDiff,i1,hbm,hgm,w1,hwi];with_reducible rfl));focus ((with_reducible refine QK ?_);simp only [Zk];kernel_rfl)))
   refine roundK.on (i + 1) ⟨h,by omega⟩ ?_
   (repeat' (first|with_reducible refine Qn|((with_reducible refine Qr ?_ ?_);focus (first|with_reducible rfl|(simp only [Zz,Nat.reduceBEq];done)|rfl))|((with_reducible refine Qj (o':=?_) ?_ ?_ ?_);rotate_left 1;focus rfl)|((with_reducible refine Qw ?_ ?_);(focus (first|with_reducible rfl|(simp only [Zv];done)));focus (first|exact id|exact (fun h => nomatch h)|exact (fun _ => rfl)))))
  ·have i1:((i:Int) < (bad.length:Int)) = False:=eq_false (by omega)
   obtain rfl:i = bad.length:=by omega
   repeat' (first|with_reducible (first|refine Q1 ?_|refine Q2 ?_|refine Q3 ?_|refine Q4 ?_|refine Q5 ?_|refine Q6 ?_|refine Q7 ?_|refine Q8 ?_|refine Q9 ?_|refine Qa ?_|refine Qb ?_|refine Qc ?_|refine Qd ?_|refine Qe ?_|refine Qf ?_)|((with_reducible refine Qo ?_ ?_);focus rfl)|((with_reducible first|refine QT 30 (l:=?_) ?_ ?_|refine QF 30 (l:=?_) ?_ ?_);rotate_left 1;focus (simp only [Zu,Nat.reduceSub,Nat.reduceBEq];with_reducible rfl))|((with_reducible first|refine QS (cfg_ok 188) Tab.none (s':=?_) ?_ ?_|refine QC (b:=?_) ?_ ?_);rotate_left 1;focus ((with_reducible refine QW ?_);simp only [Zg,seval,if_true,if_false,reduceCtorEq,Nat.reduceEqDiff,i1,hbm];with_reducible rfl))|((with_reducible refine QD (cfg_ok 188) Tab.none mixed_ok (tr:=?_) (s':=?_) ?_ ?_ ?_);rotate_left 2;(focus ((with_reducible refine QW ?_);simp only [Zg,Zd,seval,if_true,if_false,reduceCtorEq,Nat.reduceEqDiff,i1,hbm];with_reducible rfl));focus ((with_reducible refine QK ?_);simp only [Zk];kernel_rfl)))
   refine roundK.out () trivial ?_
   (repeat' (first|with_reducible refine Qn|((with_reducible refine Qr ?_ ?_);focus (first|with_reducible rfl|(simp only [Zz,Nat.reduceBEq];done)|rfl))|((with_reducible refine Qj (o':=?_) ?_ ?_ ?_);rotate_left 1;focus rfl)|((with_reducible refine Qw ?_ ?_);(focus (first|with_reducible rfl|(simp only [Zv];done)));focus (first|exact id|exact (fun h => nomatch h)|exact (fun _ => rfl)))))
 intro _ _
 have be:((pw bad.length:Int) == (pw bad.length:Int)) = true:=by simp
 repeat' (first|with_reducible (first|refine Q1 ?_|refine Q2 ?_|refine Q3 ?_|refine Q4 ?_|refine Q5 ?_|refine Q6 ?_|refine Q7 ?_|refine Q8 ?_|refine Q9 ?_|refine Qa ?_|refine Qb ?_|refine Qc ?_|refine Qd ?_|refine Qe ?_|refine Qf ?_)|((with_reducible refine Qo ?_ ?_);focus rfl)|((with_reducible first|refine QT 30 (l:=?_) ?_ ?_|refine QF 30 (l:=?_) ?_ ?_);rotate_left 1;focus (simp only [Zu,Nat.reduceSub,Nat.reduceBEq];with_reducible rfl))|((with_reducible first|refine QS (cfg_ok 188) Tab.none (s':=?_) ?_ ?_|refine QC (b:=?_) ?_ ?_);rotate_left 1;focus ((with_reducible refine QW ?_);simp only [Zg,seval,if_true,if_false,reduceCtorEq,Nat.reduceEqDiff,be];with_reducible rfl))|((with_reducible refine QD (cfg_ok 188) Tab.none mixed_ok (tr:=?_) (s':=?_) ?_ ?_ ?_);rotate_left 2;(focus ((with_reducible refine QW ?_);simp only [Zg,Zd,seval,if_true,if_false,reduceCtorEq,Nat.reduceEqDiff,be];with_reducible rfl));focus ((with_reducible refine QK ?_);simp only [Zk];kernel_rfl)))
 (refine Ends.mk (by simp) (rs:=?_) (ks:=?_) hres hrts ?_ ?_ ?_;rotate_left 2;(focus (simp only [Ze,Zg,seval,if_true,if_false,reduceCtorEq,Nat.reduceEqDiff];with_reducible rfl));(focus simp);focus (first|with_reducible rfl|(simp only [Zv];done)))
theorem walk_FnPreLie (v0:Value) (x0:List Int) (w:World) (h0:Rd RBytes w [v0] x0):Calls Try.prog 3 #[v0] w (RetV w (.bool true)):=law_code (fun code hc => a_FnPreLie code hc) v0 x0 w h0
end Go.Proofs.Ytgngidchldajhaa
