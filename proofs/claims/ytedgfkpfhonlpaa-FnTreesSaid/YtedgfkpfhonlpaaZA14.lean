/- Lemmas (14). -/
import Derived.Test.YtedgfkpfhonlpaaZA7
import Derived.Test.YtedgfkpfhonlpaaZA8
import Derived.Test.YtedgfkpfhonlpaaZA9
import Derived.Test.YtedgfkpfhonlpaaZA12
import Derived.Test.YtedgfkpfhonlpaaZA13
set_option linter.unusedSimpArgs false
set_option linter.unusedVariables false
namespace Go.Proofs.Ytedgfkpfhonlpaa
open Go.RowKit
def revU (B:List (List Int)) (k:Nat):List Int:=0 :: (B.drop k).reverse.flatMap fun b => b.map (· + 1)
theorem revU_all (B:List (List Int)):revU B B.length = [0]:=by unfold revU;rw [List.drop_length];rfl
theorem revU_succ (B:List (List Int)) (k:Nat) (h:k < B.length):revU B k = revU B (k + 1) ++ B[k].map (· + 1):=by
 unfold revU
 rw [List.drop_eq_getElem_cons h,List.reverse_cons,List.flatMap_append]
 simp
theorem revU_len (B:List (List Int)):∀ k,(revU B k).length ≤ 1 + sumLen B:=by
 intro k
 have h1:((B.drop k).reverse.flatMap fun b => b.map (· + 1)).length = sumLen (B.drop k).reverse:=by
  simp [sumLen,List.length_flatMap,Function.comp_def]
 have h2:sumLen (B.drop k).reverse = sumLen (B.drop k):=sumLen_perm (List.reverse_perm _)
 have h3:sumLen (B.drop k) ≤ sumLen B:=by
  have:sumLen B = sumLen (B.take k) + sumLen (B.drop k):=by
   simp only [sumLen,List.map_take,List.map_drop]
   rw [← List.sum_append,List.take_append_drop]
  omega
 unfold revU
 rw [List.length_cons,h1,h2];omega
def drawCT (code:List Int):List Int × List Int :=
 let p:=drawAnyF code (src0 code) 7
 let q:=drawAnyF code p.2 7
 (p.1,if lev8 p.1 = true∧(nxtF code q.2 2).1 = 0 then revU (brs p.1) 0 else q.1)
theorem drawCT_len {code:List Int} (hc:Bytes code):(drawCT code).1.length ≤ 16∧(drawCT code).2.length ≤ 16:=by
 obtain ⟨h1,h2⟩:=drawAnyF_ok hc (s:=src0 code) (m:=7) (Nat.zero_le _)
 obtain ⟨h3,h4⟩:=drawAnyF_ok hc (s:=(drawAnyF code (src0 code) 7).2) (m:=7) h2
 have e1:=h1.len
 have e3:=h3.len
 refine ⟨e1,?_⟩
 unfold drawCT
 simp only
 split
 ·rename_i h
  have:=revU_len (brs (drawAnyF code (src0 code) 7).1) 0
  have h5:=sumLen_brs (lev8_lev h.1)
  have h6:=lev8_len h.1
  omega
 ·exact e3
noncomputable def TDc {code:List Int} (hc:Bytes code) (hl:code.length ≤ 1000000000):Tab Try.prog :=
 (Tab.none.pin 39 (nxtE code) (nxt_l01Next hc hl)).pin 37 (drwE code (drw1 (drawAnyG code))) (p_l03DrawAny hc hl).ok
set_option maxHeartbeats 8000000 in
theorem a_DrawCompareTrees {code:List Int} (hc:Bytes code) (hl:code.length ≤ 1000000000):AFn Try.prog 6 [eCode code] (· = [.val (.sl 1 ((drawCT code).1.map eI)),.own 1 ((drawCT code).2.map eI) true]):=by
 have hfrom:=p_l01From hc hl
 have hs:(src0 code).1 ≤ code.length:=Nat.zero_le _
 obtain ⟨h1,h2⟩:=drawAnyF_ok hc (s:=src0 code) (m:=7) hs
 have hd1:=drw1_eq (G:=drawAnyG code) hs (m:=7) (by omega)
 have hd2:=drw1_eq (G:=drawAnyG code) h2 (m:=7) (by omega)
 obtain ⟨h3,h4⟩:=drawAnyF_ok hc (s:=(drawAnyF code (src0 code) 7).2) (m:=7) h2
 have hdr:=nxtE_eq code (drawAnyF code (drawAnyF code (src0 code) 7).2 7).2 2 h4
 unfold drawCT
 have e1:drawAnyG code (src0 code) 7 = ([.own 1 ((drawAnyF code (src0 code) 7).1.map eI) true],(drawAnyF code (src0 code) 7).2):=rfl
 rw [e1] at hd1
 obtain ⟨⟨t,s1⟩,hp⟩:∃ p,p = drawAnyF code (src0 code) 7:=⟨_,rfl⟩
 rw [← hp] at hd1 hd2 h1 h2 h3 h4 hdr ⊢
 simp only at hd1 hd2 h1 h2 h3 h4 hdr ⊢
 have e2:drawAnyG code s1 7 = ([.own 1 ((drawAnyF code s1 7).1.map eI) true],(drawAnyF code s1 7).2):=rfl
 rw [e2] at hd2
 obtain ⟨⟨u,s2⟩,hq⟩:∃ p,p = drawAnyF code s1 7:=⟨_,rfl⟩
 rw [← hq] at hd2 h3 h4 hdr ⊢
 simp only at hd2 h3 h4 hdr ⊢
 obtain ⟨⟨x,s3⟩,hx⟩:∃ p,p = nxtF code s2 2:=⟨_,rfl⟩
 rw [← hx] at hdr ⊢
 have hlt16:=h1.len
 have hli:=a_spec_l03Is t (by omega)
 simp only [eI,eL] at hdr hli ⊢
 simp only [eCode,dCode] at hfrom ⊢
 refine AFn.of_runs (cfg_ok 55) Try.func6 rfl rfl rfl (by simp only [List.length_cons,List.length_nil];decide) ?_
 have hres:Try.f6.results.toList = [.tmp 2,.tmp 3]:=rfl
 have hrts:Try.f6.resultTypes.toList = [24,24]:=rfl
 simp only [argRegs,argAV1,eL,eI,eLL,eB,Nat.zero_add,Nat.reduceAdd,eCode,dCode]
 intro M
 refine RunK.of ?_
 ((repeat' (first|with_reducible (first|refine Q1 ?_|refine Q2 ?_|refine Q3 ?_|refine Q4 ?_|refine Q5 ?_|refine Q6 ?_|refine Q7 ?_|refine Q8 ?_|refine Q9 ?_|refine Qa ?_|refine Qb ?_|refine Qc ?_|refine Qd ?_|refine Qe ?_|refine Qf ?_)|((with_reducible refine Qo ?_ ?_);focus rfl)|((with_reducible first|refine QT 10 (l:=?_) ?_ ?_|refine QF 10 (l:=?_) ?_ ?_);rotate_left 1;focus (simp only [Zu,Nat.reduceSub,Nat.reduceBEq];with_reducible rfl))|((with_reducible refine QC (b:=?_) ?_ ?_);rotate_left 1;focus ((with_reducible refine QW ?_);simp only [Zg,seval,if_true,if_false,reduceCtorEq,Nat.reduceEqDiff];with_reducible rfl))));((with_reducible refine QS (cfg_ok 55) Tab.none (s':=?_) ?_ ?_);rotate_left 1;focus ((with_reducible refine QW ?_);simp only [Zg,seval,if_true,if_false,reduceCtorEq,Nat.reduceEqDiff];with_reducible rfl));(repeat' (first|with_reducible (first|refine Q1 ?_|refine Q2 ?_|refine Q3 ?_|refine Q4 ?_|refine Q5 ?_|refine Q6 ?_|refine Q7 ?_|refine Q8 ?_|refine Q9 ?_|refine Qa ?_|refine Qb ?_|refine Qc ?_|refine Qd ?_|refine Qe ?_|refine Qf ?_)|((with_reducible refine Qo ?_ ?_);focus rfl)|((with_reducible first|refine QT 10 (l:=?_) ?_ ?_|refine QF 10 (l:=?_) ?_ ?_);rotate_left 1;focus (simp only [Zu,Nat.reduceSub,Nat.reduceBEq];with_reducible rfl))|((with_reducible refine QC (b:=?_) ?_ ?_);rotate_left 1;focus ((with_reducible refine QW ?_);simp only [Zg,seval,if_true,if_false,reduceCtorEq,Nat.reduceEqDiff];with_reducible rfl)))))
 ((repeat' (first|with_reducible (first|refine Q1 ?_|refine Q2 ?_|refine Q3 ?_|refine Q4 ?_|refine Q5 ?_|refine Q6 ?_|refine Q7 ?_|refine Q8 ?_|refine Q9 ?_|refine Qa ?_|refine Qb ?_|refine Qc ?_|refine Qd ?_|refine Qe ?_|refine Qf ?_)|((with_reducible refine Qo ?_ ?_);focus rfl)|((with_reducible first|refine QT 10 (l:=?_) ?_ ?_|refine QF 10 (l:=?_) ?_ ?_);rotate_left 1;focus (simp only [Zu,Nat.reduceSub,Nat.reduceBEq];with_reducible rfl))|((with_reducible refine QC (b:=?_) ?_ ?_);rotate_left 1;focus ((with_reducible refine QW ?_);simp only [Zg,seval,if_true,if_false,reduceCtorEq,Nat.reduceEqDiff];with_reducible rfl))));(with_reducible refine RunK.regCut (cfg_ok 55) Tab.none 1 (s1:=?_) ?_ ?_);rotate_left 1;(focus ((with_reducible refine QW ?_);simp only [Zg,seval,if_true,if_false,reduceCtorEq,Nat.reduceEqDiff];with_reducible rfl));simp only [List.toList_toArray,List.drop_succ_cons,List.drop_zero])
 refine ROps.callR (cfg_ok 55) rfl (d:=11) rfl (by decide) rfl rfl rfl rfl hfrom rfl ?_
 intro b
 (refine ROps.opsT (cfg_ok 55) (T:=Tab.none) (s':=?_) ?_ ?_;rotate_left 1;focus (simp only [Zg,seval,if_true,if_false,reduceCtorEq,Nat.reduceEqDiff];with_reducible rfl))
 ((repeat' (first|with_reducible (first|refine Q1 ?_|refine Q2 ?_|refine Q3 ?_|refine Q4 ?_|refine Q5 ?_|refine Q6 ?_|refine Q7 ?_|refine Q8 ?_|refine Q9 ?_|refine Qa ?_|refine Qb ?_|refine Qc ?_|refine Qd ?_|refine Qe ?_|refine Qf ?_)|((with_reducible refine Qo ?_ ?_);focus rfl)|((with_reducible first|refine QT 10 (l:=?_) ?_ ?_|refine QF 10 (l:=?_) ?_ ?_);rotate_left 1;focus (simp only [Zu,Nat.reduceSub,Nat.reduceBEq];with_reducible rfl))|((with_reducible refine QC (b:=?_) ?_ ?_);rotate_left 1;focus ((with_reducible refine QW ?_);simp only [Zg,seval,if_true,if_false,reduceCtorEq,Nat.reduceEqDiff,TDc,hd1,drwE,srcD_len];with_reducible rfl))));(with_reducible refine RunK.regCut (cfg_ok 55) (TDc hc hl) 0 (s1:=?_) ?_ ?_);rotate_left 1;(focus ((with_reducible refine QW ?_);simp only [Zg,seval,if_true,if_false,reduceCtorEq,Nat.reduceEqDiff,TDc,hd1,drwE,srcD_len];with_reducible rfl));simp only [List.toList_toArray,List.drop_succ_cons,List.drop_zero])
 (refine ROps.opsT (cfg_ok 55) (T:=TDc hc hl) (s':=?_) ?_ ?_;rotate_left 1;focus (simp only [Zg,seval,if_true,if_false,reduceCtorEq,Nat.reduceEqDiff,TDc,hd1,drwE,srcD_len];with_reducible rfl))
 ((repeat' (first|with_reducible (first|refine Q1 ?_|refine Q2 ?_|refine Q3 ?_|refine Q4 ?_|refine Q5 ?_|refine Q6 ?_|refine Q7 ?_|refine Q8 ?_|refine Q9 ?_|refine Qa ?_|refine Qb ?_|refine Qc ?_|refine Qd ?_|refine Qe ?_|refine Qf ?_)|((with_reducible refine Qo ?_ ?_);focus rfl)|((with_reducible first|refine QT 10 (l:=?_) ?_ ?_|refine QF 10 (l:=?_) ?_ ?_);rotate_left 1;focus (simp only [Zu,Nat.reduceSub,Nat.reduceBEq];with_reducible rfl))|((with_reducible refine QC (b:=?_) ?_ ?_);rotate_left 1;focus ((with_reducible refine QW ?_);simp only [Zg,seval,if_true,if_false,reduceCtorEq,Nat.reduceEqDiff,TDc,hd2,drwE,srcD_len];with_reducible rfl))));(with_reducible refine RunK.regCut (cfg_ok 55) (TDc hc hl) 0 (s1:=?_) ?_ ?_);rotate_left 1;(focus ((with_reducible refine QW ?_);simp only [Zg,seval,if_true,if_false,reduceCtorEq,Nat.reduceEqDiff,TDc,hd2,drwE,srcD_len];with_reducible rfl));simp only [List.toList_toArray,List.drop_succ_cons,List.drop_zero])
 (refine ROps.opsT (cfg_ok 55) (T:=TDc hc hl) (s':=?_) ?_ ?_;rotate_left 1;focus (simp only [Zg,seval,if_true,if_false,reduceCtorEq,Nat.reduceEqDiff,TDc,hd2,drwE,srcD_len];with_reducible rfl))
 refine RunK.frz 5 ?_
 refine RunK.fits (s0:=⟨[(2,.c .nil),(3,.c .nil),(4,.optr 11 0 0),(5,.c (.val (.sl 1 (t.map eI)))),(6,.c (.own 6 (u.map eI).length))],[(6,.row 1 (u.map eI) true),(11,.pin (some b) 1 3 [srcD code s2])]⟩) ?_ ?_
 ·(repeat' (first|with_reducible refine Qn|((with_reducible refine Qr ?_ ?_);focus (first|with_reducible rfl|(simp only [Zz,Nat.reduceBEq,St.frz,frzR,frzH,look,AV.frz,AC.frz,Obj.frz,drop];done)|rfl))|((with_reducible refine Qj (o':=?_) ?_ ?_ ?_);rotate_left 1;focus rfl)|((with_reducible refine Qw ?_ ?_);(focus (first|with_reducible rfl|(simp only [Zv,St.frz,frzR,frzH,look,AV.frz,AC.frz,Obj.frz,drop];done)));focus (first|exact id|exact (fun h => nomatch h)|exact (fun _ => rfl)))))
  all_goals first|exact ⟨rfl,rfl⟩|exact ⟨rfl,rfl,id⟩|exact ⟨rfl,rfl,rfl,rfl⟩|exact ⟨rfl,rfl,fun h => nomatch h⟩
 by_cases c1:lev8 t = true
 rotate_left
 ·rw [show lev8 t = false by simpa using c1] at hli
  rw [if_neg (fun h => c1 h.1)]
  repeat' (first|with_reducible (first|refine Q1 ?_|refine Q2 ?_|refine Q3 ?_|refine Q4 ?_|refine Q5 ?_|refine Q6 ?_|refine Q7 ?_|refine Q8 ?_|refine Q9 ?_|refine Qa ?_|refine Qb ?_|refine Qc ?_|refine Qd ?_|refine Qe ?_|refine Qf ?_)|((with_reducible refine Qo ?_ ?_);focus rfl)|((with_reducible first|refine QT 10 (l:=?_) ?_ ?_|refine QF 10 (l:=?_) ?_ ?_);rotate_left 1;focus (simp only [Zu,Nat.reduceSub,Nat.reduceBEq];with_reducible rfl))|((with_reducible first|refine QS (cfg_ok 55) ((TDc hc hl).at' 38 hli) (s':=?_) ?_ ?_|refine QC (b:=?_) ?_ ?_);rotate_left 1;focus ((with_reducible refine QW ?_);simp only [Zg,seval,if_true,if_false,reduceCtorEq,Nat.reduceEqDiff,TDc,hdr,drwE,nxtE,srcD_len];with_reducible rfl)))
  (refine Ends.mk (by simp) (rs:=?_) (ks:=?_) hres hrts ?_ ?_ ?_;rotate_left 2;(focus (simp only [Ze,Zg,seval,if_true,if_false,reduceCtorEq,Nat.reduceEqDiff];with_reducible rfl));(focus simp);focus (first|with_reducible rfl|(simp only [Zv];done)))
 rw [c1] at hli
 by_cases c2:x = 0
 rotate_left
 ·have b0:(x == 0) = false:=by simpa using c2
  rw [if_neg (fun h => c2 h.2)]
  repeat' (first|with_reducible (first|refine Q1 ?_|refine Q2 ?_|refine Q3 ?_|refine Q4 ?_|refine Q5 ?_|refine Q6 ?_|refine Q7 ?_|refine Q8 ?_|refine Q9 ?_|refine Qa ?_|refine Qb ?_|refine Qc ?_|refine Qd ?_|refine Qe ?_|refine Qf ?_)|((with_reducible refine Qo ?_ ?_);focus rfl)|((with_reducible first|refine QT 10 (l:=?_) ?_ ?_|refine QF 10 (l:=?_) ?_ ?_);rotate_left 1;focus (simp only [Zu,Nat.reduceSub,Nat.reduceBEq];with_reducible rfl))|((with_reducible first|refine QS (cfg_ok 55) ((TDc hc hl).at' 38 hli) (s':=?_) ?_ ?_|refine QC (b:=?_) ?_ ?_);rotate_left 1;focus ((with_reducible refine QW ?_);simp only [Zg,seval,if_true,if_false,reduceCtorEq,Nat.reduceEqDiff,TDc,hdr,drwE,nxtE,srcD_len,b0];with_reducible rfl)))
  (refine Ends.mk (by simp) (rs:=?_) (ks:=?_) hres hrts ?_ ?_ ?_;rotate_left 2;(focus (simp only [Ze,Zg,seval,if_true,if_false,reduceCtorEq,Nat.reduceEqDiff];with_reducible rfl));(focus simp);focus (first|with_reducible rfl|(simp only [Zv];done)))
 subst c2
 have b0:((0:Int) == 0) = true:=by decide
 rw [if_pos ⟨c1,rfl⟩]
 have hlev:=lev8_lev c1
 have h8:=lev8_len c1
 have hpa:=AFn.valT (a_l03Parts2 t hlev (by omega))
 have hfew:=brs_few hlev
 have hsb:=sumLen_brs hlev
 have hbl:=brs_lev hlev
 obtain ⟨B,hB⟩:∃ B,B = brs t:=⟨_,rfl⟩
 rw [← hB] at hpa hfew hsb hbl ⊢
 have hBl:(B.map eL).length = B.length:=List.length_map _
 have hw0:w64 ((B.length:Int) - 1) = (B.length:Int) - 1:=w64_eq (by omega)
 simp only [eL] at hpa
 repeat' (first|with_reducible (first|refine Q1 ?_|refine Q2 ?_|refine Q3 ?_|refine Q4 ?_|refine Q5 ?_|refine Q6 ?_|refine Q7 ?_|refine Q8 ?_|refine Q9 ?_|refine Qa ?_|refine Qb ?_|refine Qc ?_|refine Qd ?_|refine Qe ?_|refine Qf ?_)|((with_reducible refine Qo ?_ ?_);focus rfl)|((with_reducible first|refine QT 10 (l:=?_) ?_ ?_|refine QF 10 (l:=?_) ?_ ?_);rotate_left 1;focus (simp only [Zu,Nat.reduceSub,Nat.reduceBEq];with_reducible rfl))|((with_reducible first|refine QS (cfg_ok 55) (((TDc hc hl).at' 38 hli).at' 40 hpa) (s':=?_) ?_ ?_|refine QC (b:=?_) ?_ ?_);rotate_left 1;focus ((with_reducible refine QW ?_);simp only [Zg,seval,if_true,if_false,reduceCtorEq,Nat.reduceEqDiff,TDc,hdr,drwE,nxtE,srcD_len,b0,hBl,hw0];with_reducible rfl)))
 have hrl:=revU_len B
 have hBe:∀ b ∈ B,b.length ≤ 8:=fun b hb => by have:=sumLen_mem hb;omega
 refine RunK.loop (β:=Nat) (γ:=Unit) (fun k => ⟨[(5,.c (.val (.sl 1 (t.map eI)))),(6,.c (.own 6 (revU B k).length)),(7,.c (.val (.sl 1 (B.map eL)))),(8,.c (.val (.int ((k:Int) - 1))))],[(6,.row 1 ((revU B k).map eI) true)]⟩) (fun k => k ≤ B.length) (fun k => k)
  (fun _ => ⟨[(5,.c (.val (.sl 1 (t.map eI)))),(6,.c (.own 6 (revU B 0).length))],[(6,.row 1 ((revU B 0).map eI) true)]⟩) (fun _ => True) B.length (Nat.le_refl _) ?_ ?_ ?_
 ·(repeat' (first|with_reducible refine Qn|((with_reducible refine Qr ?_ ?_);focus (first|with_reducible rfl|(simp only [Zz,Nat.reduceBEq,revU_all,List.map_cons,List.map_nil,eI];done)|rfl))|((with_reducible refine Qj (o':=?_) ?_ ?_ ?_);rotate_left 1;focus rfl)|((with_reducible refine Qw ?_ ?_);(focus (first|with_reducible rfl|(simp only [Zv,revU_all,List.map_cons,List.map_nil,eI];done)));focus (first|exact id|exact (fun h => nomatch h)|exact (fun _ => rfl)))))
 ·intro k hk
  have hk:k ≤ B.length:=hk
  by_cases h0:k = 0
  ·subst h0
   have i1:(((0:Nat):Int) - 1 ≥ 0) = False:=eq_false (by omega)
   repeat' (first|with_reducible (first|refine Q1 ?_|refine Q2 ?_|refine Q3 ?_|refine Q4 ?_|refine Q5 ?_|refine Q6 ?_|refine Q7 ?_|refine Q8 ?_|refine Q9 ?_|refine Qa ?_|refine Qb ?_|refine Qc ?_|refine Qd ?_|refine Qe ?_|refine Qf ?_)|((with_reducible refine Qo ?_ ?_);focus rfl)|((with_reducible first|refine QT 10 (l:=?_) ?_ ?_|refine QF 10 (l:=?_) ?_ ?_);rotate_left 1;focus (simp only [Zu,Nat.reduceSub,Nat.reduceBEq];with_reducible rfl))|((with_reducible first|refine QS (cfg_ok 55) Tab.none (s':=?_) ?_ ?_|refine QC (b:=?_) ?_ ?_);rotate_left 1;focus ((with_reducible refine QW ?_);simp only [Zg,seval,if_true,if_false,reduceCtorEq,Nat.reduceEqDiff,i1];with_reducible rfl)))
   refine roundK.out () trivial ?_
   (repeat' (first|with_reducible refine Qn|((with_reducible refine Qr ?_ ?_);focus (first|with_reducible rfl|(simp only [Zz,Nat.reduceBEq];done)|rfl))|((with_reducible refine Qj (o':=?_) ?_ ?_ ?_);rotate_left 1;focus rfl)|((with_reducible refine Qw ?_ ?_);(focus (first|with_reducible rfl|(simp only [Zv];done)));focus (first|exact id|exact (fun h => nomatch h)|exact (fun _ => rfl)))))
  obtain ⟨j,rfl⟩:∃ j,k = j + 1:=⟨k - 1,by omega⟩
  have ej:((j + 1:Nat):Int) - 1 = (j:Int):=by omega
  rw [ej]
  have i1:((j:Int) ≥ 0) = True:=eq_true (by omega)
  have i2:((0:Int) ≤ (j:Int)) = True:=eq_true (by omega)
  have i3:((j:Int) < (B.length:Int)) = True:=eq_true (by omega)
  obtain ⟨b,hb⟩:∃ b,b = B[j]:=⟨_,rfl⟩
  have hg:(B.map eL)[j]? = some [.sl 1 (b.map eI)]:=by rw [map_get (by omega),hb];rfl
  have hbm:b ∈ B:=by rw [hb];exact List.getElem_mem _
  have hb8:=hBe b hbm
  have hblev:=hbl b hbm
  have hrs:=revU_succ B j (by omega)
  rw [← hb] at hrs
  have hr1:=hrl (j + 1)
  obtain ⟨A,hA⟩:∃ A,A = revU B (j + 1):=⟨_,rfl⟩
  rw [← hA] at hrs hr1 ⊢
  have hlb:(b.map eI).length = b.length:=List.length_map _
  have hw8:w64 ((j:Int) - 1) = (j:Int) - 1:=w64_eq (by omega)
  repeat' (first|with_reducible (first|refine Q1 ?_|refine Q2 ?_|refine Q3 ?_|refine Q4 ?_|refine Q5 ?_|refine Q6 ?_|refine Q7 ?_|refine Q8 ?_|refine Q9 ?_|refine Qa ?_|refine Qb ?_|refine Qc ?_|refine Qd ?_|refine Qe ?_|refine Qf ?_)|((with_reducible refine Qo ?_ ?_);focus rfl)|((with_reducible first|refine QT 10 (l:=?_) ?_ ?_|refine QF 10 (l:=?_) ?_ ?_);rotate_left 1;focus (simp only [Zu,Nat.reduceSub,Nat.reduceBEq];with_reducible rfl))|((with_reducible first|refine QS (cfg_ok 55) Tab.none (s':=?_) ?_ ?_|refine QC (b:=?_) ?_ ?_);rotate_left 1;focus ((with_reducible refine QW ?_);simp only [Zg,seval,if_true,if_false,reduceCtorEq,Nat.reduceEqDiff,i1];with_reducible rfl)))
  refine RunK.loop (β:=Nat) (γ:=Unit) (fun i => ⟨[(5,.c (.val (.sl 1 (t.map eI)))),(6,.c (.own 6 (A ++ (b.take i).map (· + 1)).length)),(7,.c (.val (.sl 1 (B.map eL)))),(8,.c (.val (.int (j:Int)))),(9,.c (.val (.int i)))],[(6,.row 1 ((A ++ (b.take i).map (· + 1)).map eI) true)]⟩) (fun i => i ≤ b.length) (fun i => b.length - i)
   (fun _ => ⟨[(5,.c (.val (.sl 1 (t.map eI)))),(6,.c (.own 6 (revU B j).length)),(7,.c (.val (.sl 1 (B.map eL)))),(8,.c (.val (.int (j:Int))))],[(6,.row 1 ((revU B j).map eI) true)]⟩) (fun _ => True) 0 (Nat.zero_le _) ?_ ?_ ?_
  ·(repeat' (first|with_reducible refine Qn|((with_reducible refine Qr ?_ ?_);focus (first|with_reducible rfl|(simp only [Zz,Nat.reduceBEq,List.take_zero,List.map_nil,List.append_nil,Int.natCast_zero];done)|rfl))|((with_reducible refine Qj (o':=?_) ?_ ?_ ?_);rotate_left 1;focus rfl)|((with_reducible refine Qw ?_ ?_);(focus (first|with_reducible rfl|(simp only [Zv,List.take_zero,List.map_nil,List.append_nil,Int.natCast_zero];done)));focus (first|exact id|exact (fun h => nomatch h)|exact (fun _ => rfl)))))
  ·intro i hi
   have hi:i ≤ b.length:=hi
   have hwi:=w64_succ (n:=i) (by omega)
   by_cases h:i < b.length
   ·have j1:((i:Int) < (b.length:Int)) = True:=eq_true (by omega)
    have j2:((0:Int) ≤ (i:Int)) = True:=eq_true (by omega)
    have hgb:(b.map eI)[i]? = some [.int b[i]]:=by rw [map_get h];rfl
    have hbd:=hblev.bd i h
    have w1:w64 (b[i] + 1) = b[i] + 1:=w64_eq (by omega)
    have htk:A ++ (b.take (i + 1)).map (· + 1) = (A ++ (b.take i).map (· + 1)) ++ [b[i] + 1]:=by
     rw [List.take_succ_eq_append_getElem h,List.map_append,List.append_assoc];rfl
    have hAl:(A ++ (b.take i).map (· + 1)).length ≤ 100:=by simp;omega
    obtain ⟨X,hX⟩:∃ X,X = A ++ (b.take i).map (· + 1):=⟨_,rfl⟩
    rw [← hX] at hAl htk ⊢
    obtain ⟨y,hy⟩:∃ y,y = b[i]:=⟨_,rfl⟩
    rw [← hy] at hgb w1 htk
    have hXm:(X.map eI).length = X.length:=List.length_map _
    have hlg:(X ++ [y + 1]).length = X.length + 1:=by simp
    have g1:=big_mul (c:=8) (n:=X.length + 1) (by omega) (by omega)
    have g2:=big_le (n:=X.length + 1) (by omega)
    repeat' (first|with_reducible (first|refine Q1 ?_|refine Q2 ?_|refine Q3 ?_|refine Q4 ?_|refine Q5 ?_|refine Q6 ?_|refine Q7 ?_|refine Q8 ?_|refine Q9 ?_|refine Qa ?_|refine Qb ?_|refine Qc ?_|refine Qd ?_|refine Qe ?_|refine Qf ?_)|((with_reducible refine Qo ?_ ?_);focus rfl)|((with_reducible first|refine QT 10 (l:=?_) ?_ ?_|refine QF 10 (l:=?_) ?_ ?_);rotate_left 1;focus (simp only [Zu,Nat.reduceSub,Nat.reduceBEq];with_reducible rfl))|((with_reducible first|refine QS (cfg_ok 55) Tab.none (s':=?_) ?_ ?_|refine QC (b:=?_) ?_ ?_);rotate_left 1;focus ((with_reducible refine QW ?_);simp only [Zg,seval,if_true,if_false,reduceCtorEq,Nat.reduceEqDiff,i1,i2,i3,j1,j2,hg,hgb,hlb,hBl,w1,hwi,hXm,g1,g2,Int.toNat_natCast];with_reducible rfl)))
    refine roundK.on (i + 1) ⟨h,by omega⟩ ?_
    (repeat' (first|with_reducible refine Qn|((with_reducible refine Qr ?_ ?_);focus (first|with_reducible rfl|(simp only [Zz,Nat.reduceBEq,htk,List.map_append,List.map_cons,List.map_nil,eI,List.length_append,List.length_cons,List.length_nil,hXm,Nat.zero_add];done)|rfl))|((with_reducible refine Qj (o':=?_) ?_ ?_ ?_);rotate_left 1;focus rfl)|((with_reducible refine Qw ?_ ?_);(focus (first|with_reducible rfl|(simp only [Zv,htk,List.map_append,List.map_cons,List.map_nil,eI,List.length_append,List.length_cons,List.length_nil,hXm,Nat.zero_add];done)));focus (first|exact id|exact (fun h => nomatch h)|exact (fun _ => rfl)))))
   ·have hib:i = b.length:=by omega
    subst hib
    have j1:(((b.length:Nat):Int) < (b.length:Int)) = False:=eq_false (by omega)
    have htk:A ++ (b.take b.length).map (· + 1) = revU B j:=by rw [List.take_length,hrs]
    rw [htk]
    repeat' (first|with_reducible (first|refine Q1 ?_|refine Q2 ?_|refine Q3 ?_|refine Q4 ?_|refine Q5 ?_|refine Q6 ?_|refine Q7 ?_|refine Q8 ?_|refine Q9 ?_|refine Qa ?_|refine Qb ?_|refine Qc ?_|refine Qd ?_|refine Qe ?_|refine Qf ?_)|((with_reducible refine Qo ?_ ?_);focus rfl)|((with_reducible first|refine QT 10 (l:=?_) ?_ ?_|refine QF 10 (l:=?_) ?_ ?_);rotate_left 1;focus (simp only [Zu,Nat.reduceSub,Nat.reduceBEq];with_reducible rfl))|((with_reducible first|refine QS (cfg_ok 55) Tab.none (s':=?_) ?_ ?_|refine QC (b:=?_) ?_ ?_);rotate_left 1;focus ((with_reducible refine QW ?_);simp only [Zg,seval,if_true,if_false,reduceCtorEq,Nat.reduceEqDiff,i1,i2,i3,j1,hg,hlb,hBl,Int.toNat_natCast];with_reducible rfl)))
    refine roundK.out () trivial ?_
    (repeat' (first|with_reducible refine Qn|((with_reducible refine Qr ?_ ?_);focus (first|with_reducible rfl|(simp only [Zz,Nat.reduceBEq];done)|rfl))|((with_reducible refine Qj (o':=?_) ?_ ?_ ?_);rotate_left 1;focus rfl)|((with_reducible refine Qw ?_ ?_);(focus (first|with_reducible rfl|(simp only [Zv];done)));focus (first|exact id|exact (fun h => nomatch h)|exact (fun _ => rfl)))))
  ·rintro ⟨⟩ -
   repeat' (first|with_reducible (first|refine Q1 ?_|refine Q2 ?_|refine Q3 ?_|refine Q4 ?_|refine Q5 ?_|refine Q6 ?_|refine Q7 ?_|refine Q8 ?_|refine Q9 ?_|refine Qa ?_|refine Qb ?_|refine Qc ?_|refine Qd ?_|refine Qe ?_|refine Qf ?_)|((with_reducible refine Qo ?_ ?_);focus rfl)|((with_reducible first|refine QT 10 (l:=?_) ?_ ?_|refine QF 10 (l:=?_) ?_ ?_);rotate_left 1;focus (simp only [Zu,Nat.reduceSub,Nat.reduceBEq];with_reducible rfl))|((with_reducible first|refine QS (cfg_ok 55) Tab.none (s':=?_) ?_ ?_|refine QC (b:=?_) ?_ ?_);rotate_left 1;focus ((with_reducible refine QW ?_);simp only [Zg,seval,if_true,if_false,reduceCtorEq,Nat.reduceEqDiff,hw8];with_reducible rfl)))
   refine roundK.on j ⟨by show j ≤ _;omega,by omega⟩ ?_
   (repeat' (first|with_reducible refine Qn|((with_reducible refine Qr ?_ ?_);focus (first|with_reducible rfl|(simp only [Zz,Nat.reduceBEq];done)|rfl))|((with_reducible refine Qj (o':=?_) ?_ ?_ ?_);rotate_left 1;focus rfl)|((with_reducible refine Qw ?_ ?_);(focus (first|with_reducible rfl|(simp only [Zv];done)));focus (first|exact id|exact (fun h => nomatch h)|exact (fun _ => rfl)))))
 ·rintro ⟨⟩ -
  repeat' (first|with_reducible (first|refine Q1 ?_|refine Q2 ?_|refine Q3 ?_|refine Q4 ?_|refine Q5 ?_|refine Q6 ?_|refine Q7 ?_|refine Q8 ?_|refine Q9 ?_|refine Qa ?_|refine Qb ?_|refine Qc ?_|refine Qd ?_|refine Qe ?_|refine Qf ?_)|((with_reducible refine Qo ?_ ?_);focus rfl)|((with_reducible first|refine QT 10 (l:=?_) ?_ ?_|refine QF 10 (l:=?_) ?_ ?_);rotate_left 1;focus (simp only [Zu,Nat.reduceSub,Nat.reduceBEq];with_reducible rfl))|((with_reducible first|refine QS (cfg_ok 55) Tab.none (s':=?_) ?_ ?_|refine QC (b:=?_) ?_ ?_);rotate_left 1;focus ((with_reducible refine QW ?_);simp only [Zg,seval,if_true,if_false,reduceCtorEq,Nat.reduceEqDiff];with_reducible rfl)))
  (refine Ends.mk (by simp) (rs:=?_) (ks:=?_) hres hrts ?_ ?_ ?_;rotate_left 2;(focus (simp only [Ze,Zg,seval,if_true,if_false,reduceCtorEq,Nat.reduceEqDiff];with_reducible rfl));(focus simp);focus (first|with_reducible rfl|(simp only [Zv];done)))
end Go.Proofs.Ytedgfkpfhonlpaa
namespace Go.Proofs.Ytedgfkpfhonlpaa
open Go.RowKit
def viaK (P:Program) (cfg:Cfg) (M:Nat→Prop) (b:Code) (fs:List Fr) (Q:Exit→St→Prop) (s1:St):Exit→St→Prop
 | .normal,s => Fits s s1
 | e,s => outK P cfg M (.seq b :: fs) Q e s
theorem RunK.via {P:Program} {cfg:Cfg} {M:Nat→Prop} {a b:Code} {fs:List Fr} {Q:Exit→St→Prop} {s:St} (s1:St) (h1:RunK P cfg M a [] (viaK P cfg M b fs Q s1) s) (h2:RunK P cfg M b fs Q s1):RunK P cfg M a (.seq b :: fs) Q s :=
 Runs.monoF (Q1:=viaK P cfg M b fs Q s1) h1 fun e s' h => by
  cases e with
  | normal => exact ⟨s1,.inr h,h2⟩
  | _ => exact ⟨s',.inl rfl,h⟩
theorem viaK.on {P:Program} {cfg:Cfg} {M:Nat→Prop} {b:Code} {fs:List Fr} {Q:Exit→St→Prop} {s s1:St} (h:Fits s s1):outK P cfg M [] (viaK P cfg M b fs Q s1) .normal s:=h
theorem viaK.ret {P:Program} {cfg:Cfg} {M:Nat→Prop} {b:Code} {fs:List Fr} {Q:Exit→St→Prop} {s s1:St} (h:outK P cfg M (.seq b :: fs) Q .ret s):outK P cfg M [] (viaK P cfg M b fs Q s1) .ret s:=h
end Go.Proofs.Ytedgfkpfhonlpaa
namespace Go.Proofs.Ytedgfkpfhonlpaa
open Go.RowKit
noncomputable def TTr:Tab Try.prog:=((((Tab.none.add
 11 (tab1 codL fun t => some [.val (.sl 1 ((canOf t).1.map eI)),.val (.int (canOf t).2)]) (tab1_ok fun t rs h => by cases h;exact AFn.valT2 (a_CanonicalTree t))).add
 13 (tab1 codL fun t => some [.val (.bool (canT t))]) (tab1_ok fun t rs h => by cases h;exact a_impl_IsTree t)).add
 9 (tab1 codL fun t => some [.val (.bool (lev8 t))]) (tab1_ok fun t rs h => by cases h;exact a_impl_IsLevels t)).add
 10 (tab1 codL fun t => if t.length ≤ 1048576 then some [.val (.bool (lev8 t))] else none) (tab1_ok fun t rs h => by split at h;cases h;exact a_spec_IsLevels t ‹_›;cases h)).add
 12 (tab2 codL codL fun x y => if x.length ≤ 1000000000 then some [.val (.bool (decide (x = y)))] else none) (tab2_ok fun x y rs h => by split at h;cases h;exact a_likeInts x y ‹_›;cases h)
theorem canT_lev8 {s:List Int} (h:lev8 s = true):canT s = decide (s = canon s):=by
 unfold canT
 rw [h,Bool.true_and]
 exact decide_eq_decide.2 ⟨fun e => e.symm,fun e => e.symm⟩
theorem sgI_zero (c:Int):(sgI c = 0) ↔ c = 0:=by
 unfold sgI
 split
 ·exact ⟨fun h => absurd h (by decide),fun h => by omega⟩
 ·split
  ·exact ⟨fun h => absurd h (by decide),fun h => by omega⟩
  ·exact ⟨fun _ => by omega,fun _ => rfl⟩
set_option maxRecDepth 20000 in
set_option maxHeartbeats 16000000 in
theorem a_FnTrees (code:List Int) (hc:Bytes code):AFn Try.prog 3 [eCode code] (· = [.val (.bool true)]):=by
 have hbg:=a_big code
 by_cases hbig:4096 < code.length
 ·rw [decide_eq_true hbig] at hbg
  simp only [eCode,dCode] at hbg
  refine AFn.of_runs (cfg_ok 266) Try.func3 rfl rfl rfl (by simp only [List.length_cons,List.length_nil];decide) ?_
  have hres:Try.f3.results.toList = [.tmp 2]:=rfl
  have hrts:Try.f3.resultTypes.toList = [4]:=rfl
  simp only [argRegs,argAV1,eL,eI,eLL,eB,Nat.zero_add,Nat.reduceAdd,eCode,dCode]
  intro M
  refine RunK.of ?_
  repeat' (first|with_reducible (first|refine Q1 ?_|refine Q2 ?_|refine Q3 ?_|refine Q4 ?_|refine Q5 ?_|refine Q6 ?_|refine Q7 ?_|refine Q8 ?_|refine Q9 ?_|refine Qa ?_|refine Qb ?_|refine Qc ?_|refine Qd ?_|refine Qe ?_|refine Qf ?_)|((with_reducible refine Qo ?_ ?_);focus rfl)|((with_reducible first|refine QT 35 (l:=?_) ?_ ?_|refine QF 35 (l:=?_) ?_ ?_);rotate_left 1;focus (simp only [Zu,Nat.reduceSub,Nat.reduceBEq];with_reducible rfl))|((with_reducible first|refine QS (cfg_ok 266) (Tab.none.at' 5 hbg) (s':=?_) ?_ ?_|refine QC (b:=?_) ?_ ?_);rotate_left 1;focus ((with_reducible refine QW ?_);simp only [Zg,seval,if_true,if_false,reduceCtorEq,Nat.reduceEqDiff];with_reducible rfl)))
  (refine Ends.mk (by simp) (rs:=?_) (ks:=?_) hres hrts ?_ ?_ ?_;rotate_left 2;(focus (simp only [Ze,Zg,seval,if_true,if_false,reduceCtorEq,Nat.reduceEqDiff];with_reducible rfl));(focus simp);focus (first|with_reducible rfl|(simp only [Zv];done)))
 rw [decide_eq_false hbig] at hbg
 have hl:code.length ≤ 1000000000:=by omega
 have hdr:=a_DrawCompareTrees hc hl
 obtain ⟨hs16,ht16⟩:=drawCT_len hc
 obtain ⟨⟨s,t⟩,hp⟩:∃ p,p = drawCT code:=⟨_,rfl⟩
 rw [← hp] at hdr hs16 ht16
 simp only at hdr hs16 ht16
 have hcm:=a_CompareTrees s t
 have hsm:=a_spec_CompareTrees s t (by omega) (by omega)
 obtain ⟨⟨o,c⟩,hoc⟩:∃ p,p = sgT s t:=⟨_,rfl⟩
 rw [← hoc] at hcm hsm
 simp only [eCode,dCode,eL] at hbg hdr hcm hsm
 have bcc:(c != c) = false:=by simp
 have boo:(o != o) = false:=by simp
 have i1:(s.length ≤ 1048576) = True:=eq_true (by omega)
 have i2:(t.length ≤ 1048576) = True:=eq_true (by omega)
 have bss:(lev8 s != lev8 s) = false:=by simp
 have btt:(lev8 t != lev8 t) = false:=by simp
 refine AFn.of_runs (cfg_ok 266) Try.func3 rfl rfl rfl (by simp only [List.length_cons,List.length_nil];decide) ?_
 have hres:Try.f3.results.toList = [.tmp 2]:=rfl
 have hrts:Try.f3.resultTypes.toList = [4]:=rfl
 simp only [argRegs,argAV1,eL,eI,eLL,eB,Nat.zero_add,Nat.reduceAdd,eCode,dCode]
 intro M
 refine RunK.of ?_
 repeat' (first|with_reducible (first|refine Q1 ?_|refine Q2 ?_|refine Q3 ?_|refine Q4 ?_|refine Q5 ?_|refine Q6 ?_|refine Q7 ?_|refine Q8 ?_|refine Q9 ?_|refine Qa ?_|refine Qb ?_|refine Qc ?_|refine Qd ?_|refine Qe ?_|refine Qf ?_)|((with_reducible refine Qo ?_ ?_);focus rfl)|((with_reducible first|refine QT 35 (l:=?_) ?_ ?_|refine QF 35 (l:=?_) ?_ ?_);rotate_left 1;focus (simp only [Zu,Nat.reduceSub,Nat.reduceBEq];with_reducible rfl))|((with_reducible first|refine QS (cfg_ok 266) ((((TTr.at' 5 hbg).at' 6 hdr).at' 7 hcm).at' 8 hsm) (s':=?_) ?_ ?_|refine QC (b:=?_) ?_ ?_);rotate_left 1;focus ((with_reducible refine QW ?_);simp only [Zg,seval,if_true,if_false,reduceCtorEq,Nat.reduceEqDiff,TTr];with_reducible rfl)))
 ((repeat' (first|with_reducible (first|refine Q1 ?_|refine Q2 ?_|refine Q3 ?_|refine Q4 ?_|refine Q5 ?_|refine Q6 ?_|refine Q7 ?_|refine Q8 ?_|refine Q9 ?_|refine Qa ?_|refine Qb ?_|refine Qc ?_|refine Qd ?_|refine Qe ?_|refine Qf ?_)|((with_reducible refine Qo ?_ ?_);focus rfl)|((with_reducible first|refine QT 35 (l:=?_) ?_ ?_|refine QF 35 (l:=?_) ?_ ?_);rotate_left 1;focus (simp only [Zu,Nat.reduceSub,Nat.reduceBEq];with_reducible rfl))|((with_reducible refine QC (b:=?_) ?_ ?_);rotate_left 1;focus ((with_reducible refine QW ?_);simp only [Zg,seval,if_true,if_false,reduceCtorEq,Nat.reduceEqDiff,TTr,TTr,bcc,boo,i1,i2];with_reducible rfl))));(with_reducible refine RunK.regCut (cfg_ok 266) TTr 13 (s1:=?_) ?_ ?_);rotate_left 1;(focus ((with_reducible refine QW ?_);simp only [Zg,seval,if_true,if_false,reduceCtorEq,Nat.reduceEqDiff,TTr,TTr,bcc,boo,i1,i2];with_reducible rfl));simp only [List.toList_toArray,List.drop_succ_cons,List.drop_zero])
 refine ROps.boolNe (d:=67) Try.underlying4 rfl (by rfl) rfl (by decide) rfl rfl ?_
 rw [bss]
 ((with_reducible refine ROps.cut (cfg_ok 266) TTr 6 (s1:=?_) ?_ ?_);rotate_left 1;(focus ((with_reducible refine QW ?_);simp only [Zg,seval,if_true,if_false,reduceCtorEq,Nat.reduceEqDiff,TTr,TTr,i1,i2];with_reducible rfl));simp only [List.drop_succ_cons,List.drop_zero])
 refine ROps.boolNe (d:=74) Try.underlying4 rfl (by rfl) rfl (by decide) rfl rfl ?_
 rw [btt]
 (refine ROps.opsT (cfg_ok 266) (T:=Tab.none) (s':=?_) ?_ ?_;rotate_left 1;focus (simp only [Zg,seval,if_true,if_false,reduceCtorEq,Nat.reduceEqDiff];with_reducible rfl))
 refine RunK.frz 4 ?_
 refine RunK.fits (s0:=⟨[(0,.c (.val (.sl 1 (code.map eU)))),(3,.c (.val (.sl 1 (s.map eI)))),(4,.c (.val (.sl 1 (t.map eI)))),(5,.c (.val (.int o))),(6,.c (.val (.int c))),(75,.c (.val (.bool false)))],[]⟩) ?_ ?_
 ·(repeat' (first|with_reducible refine Qn|((with_reducible refine Qr ?_ ?_);focus (first|with_reducible rfl|(simp only [Zz,Nat.reduceBEq,St.frz,frzR,frzH,look,AV.frz,AC.frz,Obj.frz,drop];done)|rfl))|((with_reducible refine Qj (o':=?_) ?_ ?_ ?_);rotate_left 1;focus rfl)|((with_reducible refine Qw ?_ ?_);(focus (first|with_reducible rfl|(simp only [Zv,St.frz,frzR,frzH,look,AV.frz,AC.frz,Obj.frz,drop];done)));focus (first|exact id|exact (fun h => nomatch h)|exact (fun _ => rfl)))))
 have hslm:(s.map eI).length = s.length:=List.length_map _
 by_cases h8:lev8 s = true
 rotate_left
 ·have h8':lev8 s = false:=by simpa using h8
  have hcs:canOf s = ([],1):=by unfold canOf;rw [if_neg h8]
  have b11:((1:Int) == 1) = true:=by decide
  repeat' (first|with_reducible (first|refine Q1 ?_|refine Q2 ?_|refine Q3 ?_|refine Q4 ?_|refine Q5 ?_|refine Q6 ?_|refine Q7 ?_|refine Q8 ?_|refine Q9 ?_|refine Qa ?_|refine Qb ?_|refine Qc ?_|refine Qd ?_|refine Qe ?_|refine Qf ?_)|((with_reducible refine Qo ?_ ?_);focus rfl)|((with_reducible first|refine QT 35 (l:=?_) ?_ ?_|refine QF 35 (l:=?_) ?_ ?_);rotate_left 1;focus (simp only [Zu,Nat.reduceSub,Nat.reduceBEq];with_reducible rfl))|((with_reducible first|refine QS (cfg_ok 266) TTr (s':=?_) ?_ ?_|refine QC (b:=?_) ?_ ?_);rotate_left 1;focus ((with_reducible refine QW ?_);simp only [Zg,seval,if_true,if_false,reduceCtorEq,Nat.reduceEqDiff,TTr,TTr,h8',hcs,b11];with_reducible rfl)))
  (refine Ends.mk (by simp) (rs:=?_) (ks:=?_) hres hrts ?_ ?_ ?_;rotate_left 2;(focus (simp only [Ze,Zg,seval,if_true,if_false,reduceCtorEq,Nat.reduceEqDiff];with_reducible rfl));(focus simp);focus (first|with_reducible rfl|(simp only [Zv];done)))
 have F:=tr_all h8
 have hlen8:=lev8_len h8
 have hul:=canon_len (lev8_lev h8)
 have hu8:lev8 (canon s) = true:=lev8_canon h8
 have huu:canon (canon s) = canon s:=canon_idem (lev8_lev h8)
 have hcs:canOf s = (canon s,0):=by unfold canOf;rw [if_pos h8]
 have hcu:canOf (canon s) = (canon s,0):=by unfold canOf;rw [if_pos hu8,huu]
 have hcT:canT (canon s) = true:=canT_canon h8
 have hcS:=canT_lev8 h8
 have hpos:=(lev8_lev h8).pos
 obtain ⟨p1,p2,p3,p4⟩:=pos_at hcT (d:=8) (by omega) (Nat.le_refl 8)
 have hbrn:=AFn.valT2 (a_impl_BranchesOf2 s)
 have hb2:brO2 s = (forest (brs (canon s)),0):=by unfold brO2;rw [if_pos h8]
 rw [hb2] at hbrn
 have hfor:=a_impl_IsForest (forest (brs (canon s))) (by have:=F.sl;omega) (by have:=for_short F.fb;omega)
 rw [F.fb] at hfor
 have hn9:=a_nodes9 (forest (brs (canon s))) (by have:=for_short F.fb;omega) (by have:=F.sl;omega)
 have hro:=AFn.valT2 (a_RootOn (forest (brs (canon s))) F.fb (by have:=F.sl;omega) (lev8_lev F.lv))
 rw [F.ro] at hro
 have hix:=a_IndexOf s h8
 have hta:=a_TreeAt2 (posT (canon s)) p1
 rw [p2] at hta
 have htx:=a_TreeText s h8
 have hpt:=a_ParseTree (txtF 8 (canon s)) (canon s) (by have:=F.tl;omega) F.rd hcT
 have hsy:=a_SymmetryOf s
 have hsyE:symOf s = (symF 9 s,0):=by unfold symOf;rw [if_pos h8]
 rw [hsyE] at hsy
 have hde:=a_DensityOf s h8
 have hla:=a_LabellingsOf s
 have hlaE:(labOf s).2 = 0:=by unfold labOf;rw [if_pos h8]
 rw [hlaE] at hla
 have hfa:=a_fact9 s.length hlen8
 have hw1:w64 ((s.length:Int) - 1) = ((sumLen (forest (brs (canon s))):Nat):Int):=by rw [w64_eq (by omega)];have:=F.sl;omega
 have hwp:w64 ((labOf s).1 * symF 9 s) = (labOf s).1 * symF 9 s:=w64_eq (by have:=F.p0;have:=F.p1;omega)
 have hwq:w64 ((labOf s).1 * symF 9 s * densF 9 s) = facZ s.length:=by
  rw [F.eq];exact w64_eq (by have:=facZ_bd s.length hlen8;omega)
 have hl0:((labOf s).1 > 0) = True:=eq_true F.l0
 have hct:c = 0→canOf t = (canon t,0)∧((decide (canon s = canon t)) != (o == 0)) = false:=by
  intro hc0
  unfold sgT at hoc
  by_cases ht:lev8 s = true∧lev8 t = true
  ·rw [if_pos ht] at hoc
   injection hoc with e1 e2
   refine ⟨by unfold canOf;rw [if_pos ht.2],?_⟩
   have hz:(o == 0) = decide (canon s = canon t):=by
    rw [e1]
    by_cases e:canon s = canon t
    ·rw [decide_eq_true e,e,cmpT_cmp.refl];rfl
    ·rw [decide_eq_false e]
     exact beq_eq_false_iff_ne.2 (fun h => e (cmpT_cmp.zero _ _ ((sgI_zero _).1 h)))
   rw [hz];simp
  ·rw [if_neg ht] at hoc
   injection hoc with e1 e2
   omega
 have hl0':=F.l0
 have hfE:=F.sl
 obtain ⟨u,hu⟩:∃ u,u = canon s:=⟨_,rfl⟩
 obtain ⟨f,hf⟩:∃ f,f = forest (brs (canon s)):=⟨_,rfl⟩
 obtain ⟨al,hal⟩:∃ x,x = (labOf s).1:=⟨_,rfl⟩
 obtain ⟨si,hsi⟩:∃ x,x = symF 9 s:=⟨_,rfl⟩
 obtain ⟨ga,hga⟩:∃ x,x = densF 9 s:=⟨_,rfl⟩
 obtain ⟨fc,hfc⟩:∃ x,x = facZ s.length:=⟨_,rfl⟩
 obtain ⟨tx,htxe⟩:∃ x,x = bstr (txtF 8 u):=⟨_,rfl⟩
 obtain ⟨sm,hsm9⟩:∃ x:Int,x = ((sumLen f:Nat):Int):=⟨_,rfl⟩
 rw [← hf] at hbrn hfor hn9 hro hw1
 rw [← hsm9] at hn9 hw1
 rw [← hu] at hcs hcu hcT hcS hul hro hix hta htx hpt hct
 rw [← htxe] at htx hpt
 rw [← hal] at hla hwp hwq hl0
 rw [← hsi] at hsy hwp hwq
 rw [← hga] at hde hwq
 rw [← hfc] at hwq hfa
 have huus:(decide (u = u)) = true:=decide_eq_true rfl
 have i3:(u.length ≤ 1000000000) = True:=eq_true (by omega)
 have i4:(s.length ≤ 1000000000) = True:=eq_true (by omega)
 have bul:((s.length:Int) != (s.length:Int)) = false:=by simp
 have b00:((0:Int) != 0) = false:=by decide
 have b0e:((0:Int) == 0) = true:=by decide
 have bsm:(sm != sm) = false:=by simp
 have bfc:(fc == fc) = true:=by simp
 have bds:(decide (s = u) != decide (s = u)) = false:=by simp
 have hulm:(u.map eI).length = s.length:=by rw [List.length_map,hul]
 simp only [eL,eLL,eI] at hbrn hfor hn9 hro hix hta htx hpt hsy hde hla hfa
 clear F hp hoc hcm hsm hdr hbg hfE hl0' p1 p2 p3 p4 hu hf hal hsi hga hfc htxe hsm9
 repeat' (first|with_reducible (first|refine Q1 ?_|refine Q2 ?_|refine Q3 ?_|refine Q4 ?_|refine Q5 ?_|refine Q6 ?_|refine Q7 ?_|refine Q8 ?_|refine Q9 ?_|refine Qa ?_|refine Qb ?_|refine Qc ?_|refine Qd ?_|refine Qe ?_|refine Qf ?_)|((with_reducible refine Qo ?_ ?_);focus rfl)|((with_reducible first|refine QT 35 (l:=?_) ?_ ?_|refine QF 35 (l:=?_) ?_ ?_);rotate_left 1;focus (simp only [Zu,Nat.reduceSub,Nat.reduceBEq];with_reducible rfl))|((with_reducible first|refine QS (cfg_ok 266) TTr (s':=?_) ?_ ?_|refine QC (b:=?_) ?_ ?_);rotate_left 1;focus ((with_reducible refine QW ?_);simp only [Zg,seval,if_true,if_false,reduceCtorEq,Nat.reduceEqDiff,TTr,TTr,h8,hcs,hcu,b00];with_reducible rfl)))
 ((repeat' (first|with_reducible (first|refine Q1 ?_|refine Q2 ?_|refine Q3 ?_|refine Q4 ?_|refine Q5 ?_|refine Q6 ?_|refine Q7 ?_|refine Q8 ?_|refine Q9 ?_|refine Qa ?_|refine Qb ?_|refine Qc ?_|refine Qd ?_|refine Qe ?_|refine Qf ?_)|((with_reducible refine Qo ?_ ?_);focus rfl)|((with_reducible first|refine QT 35 (l:=?_) ?_ ?_|refine QF 35 (l:=?_) ?_ ?_);rotate_left 1;focus (simp only [Zu,Nat.reduceSub,Nat.reduceBEq];with_reducible rfl))|((with_reducible refine QC (b:=?_) ?_ ?_);rotate_left 1;focus ((with_reducible refine QW ?_);simp only [Zg,seval,if_true,if_false,reduceCtorEq,Nat.reduceEqDiff,TTr,TTr,b00,huus,i3,i4,bul,hulm,hslm,hcT,hcS];with_reducible rfl))));(with_reducible refine RunK.regCut (cfg_ok 266) TTr 30 (s1:=?_) ?_ ?_);rotate_left 1;(focus ((with_reducible refine QW ?_);simp only [Zg,seval,if_true,if_false,reduceCtorEq,Nat.reduceEqDiff,TTr,TTr,b00,huus,i3,i4,bul,hulm,hslm,hcT,hcS];with_reducible rfl));simp only [List.toList_toArray,List.drop_succ_cons,List.drop_zero])
 refine ROps.boolNe (d:=126) Try.underlying4 rfl (by rfl) rfl (by decide) rfl rfl ?_
 rw [bds]
 (refine ROps.opsT (cfg_ok 266) (T:=Tab.none) (s':=?_) ?_ ?_;rotate_left 1;focus (simp only [Zg,seval,if_true,if_false,reduceCtorEq,Nat.reduceEqDiff];with_reducible rfl))
 refine RunK.fits (s0:=⟨[(3,.c (.val (.sl 1 (s.map eI)))),(4,.c (.val (.sl 1 (t.map eI)))),(5,.c (.val (.int o))),(6,.c (.val (.int c))),(11,.c (.val (.sl 1 (u.map eI)))),(127,.c (.val (.bool false)))],[]⟩) ?_ ?_
 ·(repeat' (first|with_reducible refine Qn|((with_reducible refine Qr ?_ ?_);focus (first|with_reducible rfl|(simp only [Zz,Nat.reduceBEq];done)|rfl))|((with_reducible refine Qj (o':=?_) ?_ ?_ ?_);rotate_left 1;focus rfl)|((with_reducible refine Qw ?_ ?_);(focus (first|with_reducible rfl|(simp only [Zv];done)));focus (first|exact id|exact (fun h => nomatch h)|exact (fun _ => rfl)))))
 refine RunK.condF rfl ?_
 refine Q3 ?_
 refine Q2 ?_
 refine Q1 ?_
 refine RunK.via ⟨[(3,.c (.val (.sl 1 (s.map eI)))),(11,.c (.val (.sl 1 (u.map eI))))],[]⟩ ?_ ?_
 ·by_cases hc0:c = 0
  rotate_left
  ·have bc0:(c == 0) = false:=beq_eq_false_iff_ne.2 hc0
   repeat' (first|with_reducible (first|refine Q1 ?_|refine Q2 ?_|refine Q3 ?_|refine Q4 ?_|refine Q5 ?_|refine Q6 ?_|refine Q7 ?_|refine Q8 ?_|refine Q9 ?_|refine Qa ?_|refine Qb ?_|refine Qc ?_|refine Qd ?_|refine Qe ?_|refine Qf ?_)|((with_reducible refine Qo ?_ ?_);focus rfl)|((with_reducible first|refine QT 35 (l:=?_) ?_ ?_|refine QF 35 (l:=?_) ?_ ?_);rotate_left 1;focus (simp only [Zu,Nat.reduceSub,Nat.reduceBEq];with_reducible rfl))|((with_reducible first|refine QS (cfg_ok 266) Tab.none (s':=?_) ?_ ?_|refine QC (b:=?_) ?_ ?_);rotate_left 1;focus ((with_reducible refine QW ?_);simp only [Zg,seval,if_true,if_false,reduceCtorEq,Nat.reduceEqDiff,bc0];with_reducible rfl)))
   refine viaK.on ?_
   (repeat' (first|with_reducible refine Qn|((with_reducible refine Qr ?_ ?_);focus (first|with_reducible rfl|(simp only [Zz,Nat.reduceBEq];done)|rfl))|((with_reducible refine Qj (o':=?_) ?_ ?_ ?_);rotate_left 1;focus rfl)|((with_reducible refine Qw ?_ ?_);(focus (first|with_reducible rfl|(simp only [Zv];done)));focus (first|exact id|exact (fun h => nomatch h)|exact (fun _ => rfl)))))
  obtain ⟨k1,k2⟩:=hct hc0
  subst hc0
  repeat' (first|with_reducible (first|refine Q1 ?_|refine Q2 ?_|refine Q3 ?_|refine Q4 ?_|refine Q5 ?_|refine Q6 ?_|refine Q7 ?_|refine Q8 ?_|refine Q9 ?_|refine Qa ?_|refine Qb ?_|refine Qc ?_|refine Qd ?_|refine Qe ?_|refine Qf ?_)|((with_reducible refine Qo ?_ ?_);focus rfl)|((with_reducible first|refine QT 35 (l:=?_) ?_ ?_|refine QF 35 (l:=?_) ?_ ?_);rotate_left 1;focus (simp only [Zu,Nat.reduceSub,Nat.reduceBEq];with_reducible rfl))|((with_reducible first|refine QS (cfg_ok 266) TTr (s':=?_) ?_ ?_|refine QC (b:=?_) ?_ ?_);rotate_left 1;focus ((with_reducible refine QW ?_);simp only [Zg,seval,if_true,if_false,reduceCtorEq,Nat.reduceEqDiff,TTr,TTr,b0e,k1];with_reducible rfl)))
  ((repeat' (first|with_reducible (first|refine Q1 ?_|refine Q2 ?_|refine Q3 ?_|refine Q4 ?_|refine Q5 ?_|refine Q6 ?_|refine Q7 ?_|refine Q8 ?_|refine Q9 ?_|refine Qa ?_|refine Qb ?_|refine Qc ?_|refine Qd ?_|refine Qe ?_|refine Qf ?_)|((with_reducible refine Qo ?_ ?_);focus rfl)|((with_reducible first|refine QT 35 (l:=?_) ?_ ?_|refine QF 35 (l:=?_) ?_ ?_);rotate_left 1;focus (simp only [Zu,Nat.reduceSub,Nat.reduceBEq];with_reducible rfl))|((with_reducible refine QC (b:=?_) ?_ ?_);rotate_left 1;focus ((with_reducible refine QW ?_);simp only [Zg,seval,if_true,if_false,reduceCtorEq,Nat.reduceEqDiff,TTr,TTr,b00,i3];with_reducible rfl))));(with_reducible refine RunK.regCut (cfg_ok 266) TTr 8 (s1:=?_) ?_ ?_);rotate_left 1;(focus ((with_reducible refine QW ?_);simp only [Zg,seval,if_true,if_false,reduceCtorEq,Nat.reduceEqDiff,TTr,TTr,b00,i3];with_reducible rfl));simp only [List.toList_toArray,List.drop_succ_cons,List.drop_zero])
  refine ROps.boolNe (d:=143) Try.underlying4 rfl (by rfl) rfl (by decide) rfl rfl ?_
  rw [k2]
  (refine ROps.opsT (cfg_ok 266) (T:=Tab.none) (s':=?_) ?_ ?_;rotate_left 1;focus (simp only [Zg,seval,if_true,if_false,reduceCtorEq,Nat.reduceEqDiff];with_reducible rfl))
  repeat' (first|with_reducible (first|refine Q1 ?_|refine Q2 ?_|refine Q3 ?_|refine Q4 ?_|refine Q5 ?_|refine Q6 ?_|refine Q7 ?_|refine Q8 ?_|refine Q9 ?_|refine Qa ?_|refine Qb ?_|refine Qc ?_|refine Qd ?_|refine Qe ?_|refine Qf ?_)|((with_reducible refine Qo ?_ ?_);focus rfl)|((with_reducible first|refine QT 35 (l:=?_) ?_ ?_|refine QF 35 (l:=?_) ?_ ?_);rotate_left 1;focus (simp only [Zu,Nat.reduceSub,Nat.reduceBEq];with_reducible rfl))|((with_reducible first|refine QS (cfg_ok 266) Tab.none (s':=?_) ?_ ?_|refine QC (b:=?_) ?_ ?_);rotate_left 1;focus ((with_reducible refine QW ?_);simp only [Zg,seval,if_true,if_false,reduceCtorEq,Nat.reduceEqDiff];with_reducible rfl)))
  refine viaK.on ?_
  (repeat' (first|with_reducible refine Qn|((with_reducible refine Qr ?_ ?_);focus (first|with_reducible rfl|(simp only [Zz,Nat.reduceBEq];done)|rfl))|((with_reducible refine Qj (o':=?_) ?_ ?_ ?_);rotate_left 1;focus rfl)|((with_reducible refine Qw ?_ ?_);(focus (first|with_reducible rfl|(simp only [Zv];done)));focus (first|exact id|exact (fun h => nomatch h)|exact (fun _ => rfl)))))
 repeat' (first|with_reducible (first|refine Q1 ?_|refine Q2 ?_|refine Q3 ?_|refine Q4 ?_|refine Q5 ?_|refine Q6 ?_|refine Q7 ?_|refine Q8 ?_|refine Q9 ?_|refine Qa ?_|refine Qb ?_|refine Qc ?_|refine Qd ?_|refine Qe ?_|refine Qf ?_)|((with_reducible refine Qo ?_ ?_);focus rfl)|((with_reducible first|refine QT 35 (l:=?_) ?_ ?_|refine QF 35 (l:=?_) ?_ ?_);rotate_left 1;focus (simp only [Zu,Nat.reduceSub,Nat.reduceBEq];with_reducible rfl))|((with_reducible first|refine QS (cfg_ok 266) ((((((TTr.at' 14 hbrn).at' 15 hfor).at' 16 hn9).at' 17 hro).at' 18 hix).at' 19 hta) (s':=?_) ?_ ?_|refine QC (b:=?_) ?_ ?_);rotate_left 1;focus ((with_reducible refine QW ?_);simp only [Zg,seval,if_true,if_false,reduceCtorEq,Nat.reduceEqDiff,TTr,b00,hw1,hslm,bsm];with_reducible rfl)))
 refine RunK.fits (s0:=⟨[(3,.c (.val (.sl 1 (s.map eI)))),(11,.c (.val (.sl 1 (u.map eI)))),(19,.c (.val (.sl 1 (u.map eI)))),(20,.c (.val (.int 0))),(22,.c (.val (.int 0))),(23,.c (.val (.sl 1 (u.map eI)))),(24,.c (.val (.int 0)))],[]⟩) ?_ ?_
 ·(repeat' (first|with_reducible refine Qn|((with_reducible refine Qr ?_ ?_);focus (first|with_reducible rfl|(simp only [Zz,Nat.reduceBEq];done)|rfl))|((with_reducible refine Qj (o':=?_) ?_ ?_ ?_);rotate_left 1;focus rfl)|((with_reducible refine Qw ?_ ?_);(focus (first|with_reducible rfl|(simp only [Zv];done)));focus (first|exact id|exact (fun h => nomatch h)|exact (fun _ => rfl)))))
 repeat' (first|with_reducible (first|refine Q1 ?_|refine Q2 ?_|refine Q3 ?_|refine Q4 ?_|refine Q5 ?_|refine Q6 ?_|refine Q7 ?_|refine Q8 ?_|refine Q9 ?_|refine Qa ?_|refine Qb ?_|refine Qc ?_|refine Qd ?_|refine Qe ?_|refine Qf ?_)|((with_reducible refine Qo ?_ ?_);focus rfl)|((with_reducible first|refine QT 35 (l:=?_) ?_ ?_|refine QF 35 (l:=?_) ?_ ?_);rotate_left 1;focus (simp only [Zu,Nat.reduceSub,Nat.reduceBEq];with_reducible rfl))|((with_reducible first|refine QS (cfg_ok 266) ((TTr.at' 20 htx).at' 21 hpt) (s':=?_) ?_ ?_|refine QC (b:=?_) ?_ ?_);rotate_left 1;focus ((with_reducible refine QW ?_);simp only [Zg,seval,if_true,if_false,reduceCtorEq,Nat.reduceEqDiff,TTr,b00,huus,i3];with_reducible rfl)))
 refine RunK.fits (s0:=⟨[(3,.c (.val (.sl 1 (s.map eI))))],[]⟩) ?_ ?_
 ·(repeat' (first|with_reducible refine Qn|((with_reducible refine Qr ?_ ?_);focus (first|with_reducible rfl|(simp only [Zz,Nat.reduceBEq];done)|rfl))|((with_reducible refine Qj (o':=?_) ?_ ?_ ?_);rotate_left 1;focus rfl)|((with_reducible refine Qw ?_ ?_);(focus (first|with_reducible rfl|(simp only [Zv];done)));focus (first|exact id|exact (fun h => nomatch h)|exact (fun _ => rfl)))))
 repeat' (first|with_reducible (first|refine Q1 ?_|refine Q2 ?_|refine Q3 ?_|refine Q4 ?_|refine Q5 ?_|refine Q6 ?_|refine Q7 ?_|refine Q8 ?_|refine Q9 ?_|refine Qa ?_|refine Qb ?_|refine Qc ?_|refine Qd ?_|refine Qe ?_|refine Qf ?_)|((with_reducible refine Qo ?_ ?_);focus rfl)|((with_reducible first|refine QT 35 (l:=?_) ?_ ?_|refine QF 35 (l:=?_) ?_ ?_);rotate_left 1;focus (simp only [Zu,Nat.reduceSub,Nat.reduceBEq];with_reducible rfl))|((with_reducible first|refine QS (cfg_ok 266) ((((Tab.none.at' 22 hsy).at' 23 hde).at' 24 hla).at' 25 hfa) (s':=?_) ?_ ?_|refine QC (b:=?_) ?_ ?_);rotate_left 1;focus ((with_reducible refine QW ?_);simp only [Zg,seval,if_true,if_false,reduceCtorEq,Nat.reduceEqDiff,b0e,hl0,hwp,hwq,bfc,hslm];with_reducible rfl)))
 (refine Ends.mk (by simp) (rs:=?_) (ks:=?_) hres hrts ?_ ?_ ?_;rotate_left 2;(focus (simp only [Ze,Zg,seval,if_true,if_false,reduceCtorEq,Nat.reduceEqDiff];with_reducible rfl));(focus simp);focus (first|with_reducible rfl|(simp only [Zv];done)))
theorem walk_FnTrees (v0:Value) (x0:List Int) (w:World) (h0:Rd RBytes w [v0] x0):Calls Try.prog 3 #[v0] w (RetV w (.bool true)):=law_code (fun code hc => a_FnTrees code hc) v0 x0 w h0
end Go.Proofs.Ytedgfkpfhonlpaa
