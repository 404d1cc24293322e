/- Lemmas (9). -/
import Derived.Test.YtofpjonggpjneaaZB6
import Derived.Test.YtofpjonggpjneaaZB8
set_option linter.unusedSimpArgs false
set_option linter.unusedVariables false
namespace Go.Proofs.Ytofpjonggpjneaa
open Go.RowKit
def cntT:List Int:=[0,1,1,2,4,9,20,48,115]
def labS (n:Nat):Nat→Int
 | 0 => 0
 | i + 1 => labS n i + (labOf ((treesN n).getD i [])).1
def tcOK (n:Nat):Bool :=
 ((treesN n).length:Int) == cntT.getD n 0 && labS n (treesN n).length == facZ (n - 1) &&
 (List.range (treesN n).length).all fun i =>
  let t:=(treesN n).getD i []
  lev8 t && canT t && t.length == n && decide (mxF t (t.length - 1) + lvF t (t.length - 1) ≤ n) && decide (mxF t (t.length - 1) < n) && decide (-100 ≤ mxF t (t.length - 1)) &&
  decide (0 ≤ (labOf t).1) && decide ((labOf t).1 ≤ 40320) && (labOf t).2 == 0 && decide (0 ≤ labS n i) && decide (labS n i ≤ 1000000) &&
  (i == 0 || (sgT ((treesN n).getD (i - 1) []) t == (-1,0)))
set_option maxRecDepth 100000 in
theorem tc_check:(List.range 8).all (fun n => tcOK (n + 1)) = true:=by decide +kernel
structure TcF (n:Nat) (i:Nat) (t:List Int):Prop where
 lev:lev8 t = true
 can:canT t = true
 len:t.length = n
 hl:mxF t (t.length - 1) + lvF t (t.length - 1) ≤ n
 h:mxF t (t.length - 1) < n
 h0:-100 ≤ mxF t (t.length - 1)
 l0:0 ≤ (labOf t).1
 l1:(labOf t).1 ≤ 40320
 lc:(labOf t).2 = 0
 s0:0 ≤ labS n i
 s1:labS n i ≤ 1000000
 ord:i = 0 ∨ sgT ((treesN n).getD (i - 1) []) t = (-1,0)
theorem tc_all {n:Nat} (h1:1 ≤ n) (h8:n ≤ 8):((treesN n).length:Int) = cntT.getD n 0∧labS n (treesN n).length = facZ (n - 1)∧∀ i,i < (treesN n).length→TcF n i ((treesN n).getD i []):=by
 have h:=List.all_eq_true.1 tc_check (n - 1) (List.mem_range.2 (by omega))
 rw [show n - 1 + 1 = n by omega] at h
 unfold tcOK at h
 simp only [Bool.and_eq_true,beq_iff_eq] at h
 obtain ⟨⟨h2,h3⟩,h4⟩:=h
 refine ⟨h2,h3,fun i hi => ?_⟩
 have h:=List.all_eq_true.1 h4 i (List.mem_range.2 hi)
 simp only [Bool.and_eq_true,beq_iff_eq,decide_eq_true_eq,Bool.or_eq_true] at h
 obtain ⟨⟨⟨⟨⟨⟨⟨⟨⟨⟨⟨k1,k2⟩,k3⟩,k4⟩,k5⟩,k6⟩,k7⟩,k8⟩,k9⟩,ka⟩,kb⟩,kc⟩:=h
 exact ⟨k1,k2,k3,k4,k5,k6,k7,k8,k9,ka,kb,kc⟩
set_option maxRecDepth 20000 in
set_option maxHeartbeats 16000000 in
theorem a_FnTreeCounts (code:List Int) (hc:Bytes code):AFn Try.prog 4 [eCode code] (· = [.val (.bool true)]):=by
 have hbg:=a_big code
 by_cases hbig:4096 < code.length
 ·rw [decide_eq_true hbig] at hbg
  simp only [eCode,dCode] at hbg
  refine AFn.of_runs (cfg_ok 151) Try.func4 rfl rfl rfl (by simp only [List.length_cons,List.length_nil];decide) ?_
  have hres:Try.f4.results.toList = [.tmp 2]:=rfl
  have hrts:Try.f4.resultTypes.toList = [4]:=rfl
  simp only [argRegs,argAV1,eL,eI,eLL,eB,Nat.zero_add,Nat.reduceAdd,eCode,dCode]
  intro M
  refine RunK.of ?_
  repeat' (first|with_reducible (first|refine Q1 ?_|refine Q2 ?_|refine Q3 ?_|refine Q4 ?_|refine Q5 ?_|refine Q6 ?_|refine Q7 ?_|refine Q8 ?_|refine Q9 ?_|refine Qa ?_|refine Qb ?_|refine Qc ?_|refine Qd ?_|refine Qe ?_|refine Qf ?_)|((with_reducible refine Qo ?_ ?_);focus rfl)|((with_reducible first|refine QT 19 (l:=?_) ?_ ?_|refine QF 19 (l:=?_) ?_ ?_);rotate_left 1;focus (simp only [Zu,Nat.reduceSub,Nat.reduceBEq];with_reducible rfl))|((with_reducible first|refine QS (cfg_ok 151) (Tab.none.at' 13 hbg) (s':=?_) ?_ ?_|refine QC (b:=?_) ?_ ?_);rotate_left 1;focus ((with_reducible refine QW ?_);simp only [Zg,seval,if_true,if_false,reduceCtorEq,Nat.reduceEqDiff];with_reducible rfl))|((with_reducible refine QD (cfg_ok 151) (Tab.none.at' 13 hbg) mixed_ok (tr:=?_) (s':=?_) ?_ ?_ ?_);rotate_left 2;(focus ((with_reducible refine QW ?_);simp only [Zg,Zd,seval,if_true,if_false,reduceCtorEq,Nat.reduceEqDiff];with_reducible rfl));focus ((with_reducible refine QK ?_);simp only [Zk];kernel_rfl)))
  (refine Ends.mk (by simp) (rs:=?_) (ks:=?_) hres hrts ?_ ?_ ?_;rotate_left 2;(focus (simp only [Ze,Zg,seval,if_true,if_false,reduceCtorEq,Nat.reduceEqDiff];with_reducible rfl));(focus simp);focus (first|with_reducible rfl|(simp only [Zv];done)))
 rw [decide_eq_false hbig] at hbg
 have hl:code.length ≤ 1000000000:=by omega
 have hdr:=a_DrawTreesOf hc hl
 have hn:=drawTr_ok hc
 obtain ⟨n,hp⟩:∃ p,p = drawTr code:=⟨_,rfl⟩
 rw [← hp] at hdr hn
 have h1:=a_impl_TreesOf n
 have h2:=a_spec_TreesOf n
 have b0:((0:Int) != 0) = false:=by decide
 have b2:((2:Int) != 0) = true:=by decide
 have b22:((2:Int) != 2) = false:=by decide
 have b00:((0:Int) == 0) = true:=by decide
 simp only [eCode,dCode,eI] at hbg hdr h1 h2
 by_cases hR:inR n 1 8 = true
 rotate_left
 ·have e:trsOf n = ([],2):=by unfold trsOf;rw [if_neg hR]
  rw [e] at h1 h2
  refine AFn.of_runs (cfg_ok 151) Try.func4 rfl rfl rfl (by simp only [List.length_cons,List.length_nil];decide) ?_
  have hres:Try.f4.results.toList = [.tmp 2]:=rfl
  have hrts:Try.f4.resultTypes.toList = [4]:=rfl
  simp only [argRegs,argAV1,eL,eI,eLL,eB,Nat.zero_add,Nat.reduceAdd,eCode,dCode]
  intro M
  refine RunK.of ?_
  repeat' (first|with_reducible (first|refine Q1 ?_|refine Q2 ?_|refine Q3 ?_|refine Q4 ?_|refine Q5 ?_|refine Q6 ?_|refine Q7 ?_|refine Q8 ?_|refine Q9 ?_|refine Qa ?_|refine Qb ?_|refine Qc ?_|refine Qd ?_|refine Qe ?_|refine Qf ?_)|((with_reducible refine Qo ?_ ?_);focus rfl)|((with_reducible first|refine QT 19 (l:=?_) ?_ ?_|refine QF 19 (l:=?_) ?_ ?_);rotate_left 1;focus (simp only [Zu,Nat.reduceSub,Nat.reduceBEq];with_reducible rfl))|((with_reducible first|refine QS (cfg_ok 151) ((((Tab.none.at' 13 hbg).at' 18 hdr).at' 19 h1).at' 20 h2) (s':=?_) ?_ ?_|refine QC (b:=?_) ?_ ?_);rotate_left 1;focus ((with_reducible refine QW ?_);simp only [Zg,seval,if_true,if_false,reduceCtorEq,Nat.reduceEqDiff,b0,b2,b22,b00,List.map_nil,List.length_nil,Int.natCast_zero];with_reducible rfl))|((with_reducible refine QD (cfg_ok 151) ((((Tab.none.at' 13 hbg).at' 18 hdr).at' 19 h1).at' 20 h2) mixed_ok (tr:=?_) (s':=?_) ?_ ?_ ?_);rotate_left 2;(focus ((with_reducible refine QW ?_);simp only [Zg,Zd,seval,if_true,if_false,reduceCtorEq,Nat.reduceEqDiff,b0,b2,b22,b00,List.map_nil,List.length_nil,Int.natCast_zero];with_reducible rfl));focus ((with_reducible refine QK ?_);simp only [Zk];kernel_rfl)))
  (refine Ends.mk (by simp) (rs:=?_) (ks:=?_) hres hrts ?_ ?_ ?_;rotate_left 2;(focus (simp only [Ze,Zg,seval,if_true,if_false,reduceCtorEq,Nat.reduceEqDiff];with_reducible rfl));(focus simp);focus (first|with_reducible rfl|(simp only [Zv];done)))
 obtain ⟨k,rfl,hk⟩:=inR_mem hR
 have e:trsOf (k:Int) = (treesN k,0):=by unfold trsOf;rw [if_pos hR,Int.toNat_natCast]
 have hk1:1 ≤ k∧k ≤ 8:=by
  simp only [List.mem_cons,List.not_mem_nil,or_false] at hk
  omega
 rw [e] at h1 h2
 obtain ⟨hct,hsum,hall⟩:=tc_all hk1.1 hk1.2
 have hf:=a_fact9 (k - 1) (by omega)
 obtain ⟨L,hL⟩:∃ L,L = treesN k:=⟨_,rfl⟩
 have hfb:=facZ_bd (k - 1) (by omega)
 rw [← hL] at h1 h2 hct hsum hall
 have hLl:L.length ≤ 115:=by
  have:∀ k,k ≤ 8→cntT.getD k 0 ≤ 115:=by decide
  have:=this k hk1.2
  omega
 have hlm:(L.map eL).length = L.length:=List.length_map _
 have hw1:w64 ((k:Int) - 1) = ((k - 1:Nat):Int):=by rw [w64_eq (by omega)];omega
 obtain ⟨C,hC⟩:∃ C,C = [[D.int 0],[D.int 1],[D.int 1],[D.int 2],[D.int 4],[D.int 9],[D.int 20],[D.int 48],[D.int 115]]:=⟨_,rfl⟩
 have hCl:C.length = 9:=by rw [hC];rfl
 have hCg:C[k]? = some [.int (L.length:Int)]:=by
  rw [hct]
  have:∀ k,k ≤ 8→[[D.int 0],[D.int 1],[D.int 1],[D.int 2],[D.int 4],[D.int 9],[D.int 20],[D.int 48],[D.int 115]][k]? = some [D.int (cntT.getD k 0)]:=by
   intro k hk
   match k,hk with
   | 0,_|1,_|2,_|3,_|4,_|5,_|6,_|7,_|8,_ => rfl
  rw [hC];exact this k hk1.2
 have c1:((0:Int) ≤ (k:Int)) = True:=eq_true (by omega)
 have c2:((k:Int) < 9) = True:=eq_true (by omega)
 have bL:((L.length:Int) != (L.length:Int)) = false:=by simp
 simp only [eI] at hf
 refine AFn.of_runs (cfg_ok 151) Try.func4 rfl rfl rfl (by simp only [List.length_cons,List.length_nil];decide) ?_
 have hres:Try.f4.results.toList = [.tmp 2]:=rfl
 have hrts:Try.f4.resultTypes.toList = [4]:=rfl
 simp only [argRegs,argAV1,eL,eI,eLL,eB,Nat.zero_add,Nat.reduceAdd,eCode,dCode]
 intro M
 refine RunK.of ?_
 repeat' (first|with_reducible (first|refine Q1 ?_|refine Q2 ?_|refine Q3 ?_|refine Q4 ?_|refine Q5 ?_|refine Q6 ?_|refine Q7 ?_|refine Q8 ?_|refine Q9 ?_|refine Qa ?_|refine Qb ?_|refine Qc ?_|refine Qd ?_|refine Qe ?_|refine Qf ?_)|((with_reducible refine Qo ?_ ?_);focus rfl)|((with_reducible first|refine QT 19 (l:=?_) ?_ ?_|refine QF 19 (l:=?_) ?_ ?_);rotate_left 1;focus (simp only [Zu,Nat.reduceSub,Nat.reduceBEq];with_reducible rfl))|((with_reducible first|refine QS (cfg_ok 151) ((((Tab.none.at' 13 hbg).at' 18 hdr).at' 19 h1).at' 20 h2) (s':=?_) ?_ ?_|refine QC (b:=?_) ?_ ?_);rotate_left 1;focus ((with_reducible refine QW ?_);simp only [Zg,seval,if_true,if_false,reduceCtorEq,Nat.reduceEqDiff,b0,hlm];with_reducible rfl))|((with_reducible refine QD (cfg_ok 151) ((((Tab.none.at' 13 hbg).at' 18 hdr).at' 19 h1).at' 20 h2) mixed_ok (tr:=?_) (s':=?_) ?_ ?_ ?_);rotate_left 2;(focus ((with_reducible refine QW ?_);simp only [Zg,Zd,seval,if_true,if_false,reduceCtorEq,Nat.reduceEqDiff,b0,hlm];with_reducible rfl));focus ((with_reducible refine QK ?_);simp only [Zk];kernel_rfl)))
 refine RunK.frz 4 ?_
 refine RunK.frz 8 ?_
 refine RunK.fits (s0:=⟨[(3,.c (.val (.int k))),(4,.c (.val (.sl 1 (L.map eL)))),(8,.c (.val (.sl 1 [[D.int 0],[D.int 1],[D.int 1],[D.int 2],[D.int 4],[D.int 9],[D.int 20],[D.int 48],[D.int 115]])))],[]⟩) ?_ ?_
 ·(repeat' (first|with_reducible refine Qn|((with_reducible refine Qr ?_ ?_);focus (first|with_reducible rfl|(simp only [Zz,Nat.reduceBEq,St.frz,frzR,frzH,look,AV.frz,AC.frz,Obj.frz,drop];done)|rfl))|((with_reducible refine Qj (o':=?_) ?_ ?_ ?_);rotate_left 1;focus rfl)|((with_reducible refine Qw ?_ ?_);(focus (first|with_reducible rfl|(simp only [Zv,St.frz,frzR,frzH,look,AV.frz,AC.frz,Obj.frz,drop];done)));focus (first|exact id|exact (fun h => nomatch h)|exact (fun _ => rfl)))))
  all_goals first|exact ⟨rfl,rfl⟩|exact ⟨rfl,rfl,id⟩
 rw [← hC]
 repeat' (first|with_reducible (first|refine Q1 ?_|refine Q2 ?_|refine Q3 ?_|refine Q4 ?_|refine Q5 ?_|refine Q6 ?_|refine Q7 ?_|refine Q8 ?_|refine Q9 ?_|refine Qa ?_|refine Qb ?_|refine Qc ?_|refine Qd ?_|refine Qe ?_|refine Qf ?_)|((with_reducible refine Qo ?_ ?_);focus rfl)|((with_reducible first|refine QT 19 (l:=?_) ?_ ?_|refine QF 19 (l:=?_) ?_ ?_);rotate_left 1;focus (simp only [Zu,Nat.reduceSub,Nat.reduceBEq];with_reducible rfl))|((with_reducible first|refine QS (cfg_ok 151) Tab.none (s':=?_) ?_ ?_|refine QC (b:=?_) ?_ ?_);rotate_left 1;focus ((with_reducible refine QW ?_);simp only [Zg,seval,if_true,if_false,reduceCtorEq,Nat.reduceEqDiff,c1,c2,hCl,hCg,hlm,bL,Int.toNat_natCast];with_reducible rfl))|((with_reducible refine QD (cfg_ok 151) Tab.none mixed_ok (tr:=?_) (s':=?_) ?_ ?_ ?_);rotate_left 2;(focus ((with_reducible refine QW ?_);simp only [Zg,Zd,seval,if_true,if_false,reduceCtorEq,Nat.reduceEqDiff,c1,c2,hCl,hCg,hlm,bL,Int.toNat_natCast];with_reducible rfl));focus ((with_reducible refine QK ?_);simp only [Zk];kernel_rfl)))
 refine RunK.loop (β:=Nat) (γ:=Unit) (fun i => ⟨[(3,.c (.val (.int k))),(4,.c (.val (.sl 1 (L.map eL)))),(9,.c (.val (.int (labS k i)))),(10,.c (.val (.int i)))],[]⟩) (fun i => i ≤ L.length) (fun i => L.length - i)
  (fun _ => ⟨[(3,.c (.val (.int k))),(9,.c (.val (.int (labS k L.length))))],[]⟩) (fun _ => True) 0 (Nat.zero_le _) ?_ ?_ ?_
 ·(repeat' (first|with_reducible refine Qn|((with_reducible refine Qr ?_ ?_);focus (first|with_reducible rfl|(simp only [Zz,Nat.reduceBEq,Int.natCast_zero,show labS k 0 = 0 from rfl];done)|rfl))|((with_reducible refine Qj (o':=?_) ?_ ?_ ?_);rotate_left 1;focus rfl)|((with_reducible refine Qw ?_ ?_);(focus (first|with_reducible rfl|(simp only [Zv,Int.natCast_zero,show labS k 0 = 0 from rfl];done)));focus (first|exact id|exact (fun h => nomatch h)|exact (fun _ => rfl)))))
 ·intro i hi
  have hi:i ≤ L.length:=hi
  have hw:=w64_succ (n:=i) (by omega)
  by_cases h:i < L.length
  ·have i1:((i:Int) < (L.length:Int)) = True:=eq_true (by omega)
   have i2:((0:Int) ≤ (i:Int)) = True:=eq_true (by omega)
   have F:=hall i h
   have hlS:labS k (i + 1) = labS k i + (labOf (L.getD i [])).1:=by rw [hL];rfl
   have hg:(L.map eL)[i]? = some [.sl 1 ((L.getD i []).map eI)]:=by
    rw [List.getElem?_map,List.getElem?_eq_getElem h,List.getD_eq_getElem?_getD,List.getElem?_eq_getElem h];rfl
   have hord:i = 0 ∨ sgT (L.getD (i - 1) []) (L.getD i []) = (-1,0):=by have:=F.ord;rw [← hL] at this;exact this
   obtain ⟨t,ht⟩:∃ t,t = L.getD i []:=⟨_,rfl⟩
   rw [← ht] at F hlS hg hord
   have hla:=a_LabellingsOf t
   have hhe:=a_HeightOf t F.lev
   have hle:=a_LeavesOf t F.lev
   have his:=a_impl_IsTree t
   have htm:(t.map eI).length = k:=by rw [List.length_map,F.len]
   rw [F.can] at his
   obtain ⟨x,hx⟩:∃ x,x = (labOf t).1:=⟨_,rfl⟩
   obtain ⟨y,hy⟩:∃ y,y = mxF t (t.length - 1):=⟨_,rfl⟩
   obtain ⟨z,hz⟩:∃ z,z = lvF t (t.length - 1):=⟨_,rfl⟩
   have hz1:=lvF_bd t (t.length - 1)
   have f1:=F.hl;have f2:=F.h;have f3:=F.h0;have f4:=F.l0;have f5:=F.l1;have f6:=F.s0;have f7:=F.s1
   rw [F.lc,← hx] at hla
   rw [← hx] at f4 f5 hlS
   rw [← hy] at hhe f1 f2 f3
   rw [← hz] at hle f1 hz1
   have bk:((k:Int) != (k:Int)) = false:=by simp
   have wh:w64 (y + z) = y + z:=w64_eq (by omega)
   have j1:(y + z > (k:Int)) = False:=eq_false (by omega)
   have j2:(z < 1) = False:=eq_false (by omega)
   have j3:(y ≥ (k:Int)) = False:=eq_false (by omega)
   have ws:w64 (labS k i + x) = labS k (i + 1):=by rw [hlS];exact w64_eq (by omega)
   have bm:((-1:Int) != -1) = false:=by decide
   simp only [eL] at hla hhe hle his
   by_cases hi0:i = 0
   ·have j4:((i:Int) > 0) = False:=eq_false (by omega)
    repeat' (first|with_reducible (first|refine Q1 ?_|refine Q2 ?_|refine Q3 ?_|refine Q4 ?_|refine Q5 ?_|refine Q6 ?_|refine Q7 ?_|refine Q8 ?_|refine Q9 ?_|refine Qa ?_|refine Qb ?_|refine Qc ?_|refine Qd ?_|refine Qe ?_|refine Qf ?_)|((with_reducible refine Qo ?_ ?_);focus rfl)|((with_reducible first|refine QT 19 (l:=?_) ?_ ?_|refine QF 19 (l:=?_) ?_ ?_);rotate_left 1;focus (simp only [Zu,Nat.reduceSub,Nat.reduceBEq];with_reducible rfl))|((with_reducible first|refine QS (cfg_ok 151) ((((Tab.none.at' 21 hla).at' 22 hhe).at' 23 hle).at' 24 his) (s':=?_) ?_ ?_|refine QC (b:=?_) ?_ ?_);rotate_left 1;focus ((with_reducible refine QW ?_);simp only [Zg,seval,if_true,if_false,reduceCtorEq,Nat.reduceEqDiff,i1,i2,hlm,hg,htm,b0,bk,wh,j1,j2,j3,j4,ws,hw,Int.toNat_natCast,Bool.not_true];with_reducible rfl))|((with_reducible refine QD (cfg_ok 151) ((((Tab.none.at' 21 hla).at' 22 hhe).at' 23 hle).at' 24 his) mixed_ok (tr:=?_) (s':=?_) ?_ ?_ ?_);rotate_left 2;(focus ((with_reducible refine QW ?_);simp only [Zg,Zd,seval,if_true,if_false,reduceCtorEq,Nat.reduceEqDiff,i1,i2,hlm,hg,htm,b0,bk,wh,j1,j2,j3,j4,ws,hw,Int.toNat_natCast,Bool.not_true];with_reducible rfl));focus ((with_reducible refine QK ?_);simp only [Zk];kernel_rfl)))
    refine roundK.on (i + 1) ⟨h,by omega⟩ ?_
    (repeat' (first|with_reducible refine Qn|((with_reducible refine Qr ?_ ?_);focus (first|with_reducible rfl|(simp only [Zz,Nat.reduceBEq];done)|rfl))|((with_reducible refine Qj (o':=?_) ?_ ?_ ?_);rotate_left 1;focus rfl)|((with_reducible refine Qw ?_ ?_);(focus (first|with_reducible rfl|(simp only [Zv];done)));focus (first|exact id|exact (fun h => nomatch h)|exact (fun _ => rfl)))))
   ·have j4:((i:Int) > 0) = True:=eq_true (by omega)
    have hord:=hord.resolve_left hi0
    have hcm:=a_CompareTrees (L.getD (i - 1) []) t
    rw [hord] at hcm
    have hlt:i - 1 < L.length:=by omega
    have hgp:(L.map eL)[i - 1]? = some [.sl 1 ((L.getD (i - 1) []).map eI)]:=by
     rw [List.getElem?_map,List.getElem?_eq_getElem hlt,List.getD_eq_getElem?_getD,List.getElem?_eq_getElem hlt];rfl
    have w1:w64 ((i:Int) - 1) = ((i - 1:Nat):Int):=by rw [w64_eq (by omega)];omega
    have i3:((0:Int) ≤ ((i - 1:Nat):Int)) = True:=eq_true (by omega)
    have i4:(((i - 1:Nat):Int) < (L.length:Int)) = True:=eq_true (by omega)
    obtain ⟨s,hs⟩:∃ s,s = L.getD (i - 1) []:=⟨_,rfl⟩
    rw [← hs] at hcm hgp
    simp only [eL] at hcm
    repeat' (first|with_reducible (first|refine Q1 ?_|refine Q2 ?_|refine Q3 ?_|refine Q4 ?_|refine Q5 ?_|refine Q6 ?_|refine Q7 ?_|refine Q8 ?_|refine Q9 ?_|refine Qa ?_|refine Qb ?_|refine Qc ?_|refine Qd ?_|refine Qe ?_|refine Qf ?_)|((with_reducible refine Qo ?_ ?_);focus rfl)|((with_reducible first|refine QT 19 (l:=?_) ?_ ?_|refine QF 19 (l:=?_) ?_ ?_);rotate_left 1;focus (simp only [Zu,Nat.reduceSub,Nat.reduceBEq];with_reducible rfl))|((with_reducible first|refine QS (cfg_ok 151) ((((Tab.none.at' 21 hla).at' 22 hhe).at' 23 hle).at' 24 his) (s':=?_) ?_ ?_|refine QC (b:=?_) ?_ ?_);rotate_left 1;focus ((with_reducible refine QW ?_);simp only [Zg,seval,if_true,if_false,reduceCtorEq,Nat.reduceEqDiff,i1,i2,hlm,hg,htm,b0,bk,bm,wh,j1,j2,j3,j4,ws,hw,Int.toNat_natCast,Bool.not_true];with_reducible rfl)))
    (((with_reducible refine RunK.wFz (cfg_ok 151) (Tab.none.at' 25 hcm) mixed_ok [17] (tr:=?_) (s1:=?_) (rest:=?_) ?_ ?_ ?_);rotate_left 3;(focus ((with_reducible refine QW ?_);simp only [Zg,Zd,seval,if_true,if_false,reduceCtorEq,Nat.reduceEqDiff,drunF,devalF,devalB,valD,dregF_mk,List.contains_cons,List.contains_nil,i1,i2,i3,i4,w1,hlm,hg,hgp,Int.toNat_natCast];with_reducible rfl));focus ((with_reducible refine QK ?_);simp only [Zk];kernel_rfl));(refine ROps.opsT (cfg_ok 151) (T:=(Tab.none.at' 25 hcm)) (s':=?_) ?_ ?_;rotate_left 1;focus (simp only [Zg,seval,if_true,if_false,reduceCtorEq,Nat.reduceEqDiff,i1,i2,i3,i4,w1,hlm,hg,hgp,Int.toNat_natCast];with_reducible rfl)))
    repeat' (first|with_reducible (first|refine Q1 ?_|refine Q2 ?_|refine Q3 ?_|refine Q4 ?_|refine Q5 ?_|refine Q6 ?_|refine Q7 ?_|refine Q8 ?_|refine Q9 ?_|refine Qa ?_|refine Qb ?_|refine Qc ?_|refine Qd ?_|refine Qe ?_|refine Qf ?_)|((with_reducible refine Qo ?_ ?_);focus rfl)|((with_reducible first|refine QT 19 (l:=?_) ?_ ?_|refine QF 19 (l:=?_) ?_ ?_);rotate_left 1;focus (simp only [Zu,Nat.reduceSub,Nat.reduceBEq];with_reducible rfl))|((with_reducible first|refine QS (cfg_ok 151) Tab.none (s':=?_) ?_ ?_|refine QC (b:=?_) ?_ ?_);rotate_left 1;focus ((with_reducible refine QW ?_);simp only [Zg,seval,if_true,if_false,reduceCtorEq,Nat.reduceEqDiff,b0,bm,ws,hw];with_reducible rfl))|((with_reducible refine QD (cfg_ok 151) Tab.none mixed_ok (tr:=?_) (s':=?_) ?_ ?_ ?_);rotate_left 2;(focus ((with_reducible refine QW ?_);simp only [Zg,Zd,seval,if_true,if_false,reduceCtorEq,Nat.reduceEqDiff,b0,bm,ws,hw];with_reducible rfl));focus ((with_reducible refine QK ?_);simp only [Zk];kernel_rfl)))
    refine roundK.on (i + 1) ⟨h,by omega⟩ ?_
    (repeat' (first|with_reducible refine Qn|((with_reducible refine Qr ?_ ?_);focus (first|with_reducible rfl|(simp only [Zz,Nat.reduceBEq];done)|rfl))|((with_reducible refine Qj (o':=?_) ?_ ?_ ?_);rotate_left 1;focus rfl)|((with_reducible refine Qw ?_ ?_);(focus (first|with_reducible rfl|(simp only [Zv];done)));focus (first|exact id|exact (fun h => nomatch h)|exact (fun _ => rfl)))))
  ·have i1:((i:Int) < (L.length:Int)) = False:=eq_false (by omega)
   obtain rfl:i = L.length:=by omega
   repeat' (first|with_reducible (first|refine Q1 ?_|refine Q2 ?_|refine Q3 ?_|refine Q4 ?_|refine Q5 ?_|refine Q6 ?_|refine Q7 ?_|refine Q8 ?_|refine Q9 ?_|refine Qa ?_|refine Qb ?_|refine Qc ?_|refine Qd ?_|refine Qe ?_|refine Qf ?_)|((with_reducible refine Qo ?_ ?_);focus rfl)|((with_reducible first|refine QT 19 (l:=?_) ?_ ?_|refine QF 19 (l:=?_) ?_ ?_);rotate_left 1;focus (simp only [Zu,Nat.reduceSub,Nat.reduceBEq];with_reducible rfl))|((with_reducible first|refine QS (cfg_ok 151) Tab.none (s':=?_) ?_ ?_|refine QC (b:=?_) ?_ ?_);rotate_left 1;focus ((with_reducible refine QW ?_);simp only [Zg,seval,if_true,if_false,reduceCtorEq,Nat.reduceEqDiff,i1,hlm];with_reducible rfl))|((with_reducible refine QD (cfg_ok 151) Tab.none mixed_ok (tr:=?_) (s':=?_) ?_ ?_ ?_);rotate_left 2;(focus ((with_reducible refine QW ?_);simp only [Zg,Zd,seval,if_true,if_false,reduceCtorEq,Nat.reduceEqDiff,i1,hlm];with_reducible rfl));focus ((with_reducible refine QK ?_);simp only [Zk];kernel_rfl)))
   refine roundK.out () trivial ?_
   (repeat' (first|with_reducible refine Qn|((with_reducible refine Qr ?_ ?_);focus (first|with_reducible rfl|(simp only [Zz,Nat.reduceBEq];done)|rfl))|((with_reducible refine Qj (o':=?_) ?_ ?_ ?_);rotate_left 1;focus rfl)|((with_reducible refine Qw ?_ ?_);(focus (first|with_reducible rfl|(simp only [Zv];done)));focus (first|exact id|exact (fun h => nomatch h)|exact (fun _ => rfl)))))
 ·intro _ _
  have bf:(facZ (k - 1) == facZ (k - 1)) = true:=by simp
  rw [hsum]
  repeat' (first|with_reducible (first|refine Q1 ?_|refine Q2 ?_|refine Q3 ?_|refine Q4 ?_|refine Q5 ?_|refine Q6 ?_|refine Q7 ?_|refine Q8 ?_|refine Q9 ?_|refine Qa ?_|refine Qb ?_|refine Qc ?_|refine Qd ?_|refine Qe ?_|refine Qf ?_)|((with_reducible refine Qo ?_ ?_);focus rfl)|((with_reducible first|refine QT 19 (l:=?_) ?_ ?_|refine QF 19 (l:=?_) ?_ ?_);rotate_left 1;focus (simp only [Zu,Nat.reduceSub,Nat.reduceBEq];with_reducible rfl))|((with_reducible first|refine QS (cfg_ok 151) (Tab.none.at' 26 hf) (s':=?_) ?_ ?_|refine QC (b:=?_) ?_ ?_);rotate_left 1;focus ((with_reducible refine QW ?_);simp only [Zg,seval,if_true,if_false,reduceCtorEq,Nat.reduceEqDiff,hw1,bf];with_reducible rfl))|((with_reducible refine QD (cfg_ok 151) (Tab.none.at' 26 hf) mixed_ok (tr:=?_) (s':=?_) ?_ ?_ ?_);rotate_left 2;(focus ((with_reducible refine QW ?_);simp only [Zg,Zd,seval,if_true,if_false,reduceCtorEq,Nat.reduceEqDiff,hw1,bf];with_reducible rfl));focus ((with_reducible refine QK ?_);simp only [Zk];kernel_rfl)))
  (refine Ends.mk (by simp) (rs:=?_) (ks:=?_) hres hrts ?_ ?_ ?_;rotate_left 2;(focus (simp only [Ze,Zg,seval,if_true,if_false,reduceCtorEq,Nat.reduceEqDiff];with_reducible rfl));(focus simp);focus (first|with_reducible rfl|(simp only [Zv];done)))
theorem walk_FnTreeCounts (v0:Value) (x0:List Int) (w:World) (h0:Rd RBytes w [v0] x0):Calls Try.prog 4 #[v0] w (RetV w (.bool true)):=law_code (fun code hc => a_FnTreeCounts code hc) v0 x0 w h0
end Go.Proofs.Ytofpjonggpjneaa
