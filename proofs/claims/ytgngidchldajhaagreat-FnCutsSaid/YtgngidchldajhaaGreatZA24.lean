/- Lemmas (24). -/
import Derived.Test.YtgngidchldajhaaGreatZA6
import Derived.Test.YtgngidchldajhaaGreatZA7
import Derived.Test.YtgngidchldajhaaGreatZA22
import Derived.Test.YtgngidchldajhaaGreatZA23
set_option linter.unusedSimpArgs false
set_option linter.unusedVariables false
namespace Go.Proofs.YtgngidchldajhaaGreat
open Go.RowKit
theorem AFn.valT2 {P:Program} {f:FuncId} {ds:List (List D)} {k:Nat} {xs:List (List D)} {c:Int} (h:AFn P f ds (· = [.own k xs true,.val (.int c)])):AFn P f ds (· = [.val (.sl k xs),.val (.int c)]):=by
 refine ⟨h.call,fun A w vs hA hr => (h.fn A w vs hA hr).mono ?_⟩
 rintro e w' ⟨v,rs,rfl,rfl,hb,us,G,X,rfl,hG1,hG2,hrel⟩
 obtain ⟨v1,us1,G1,G2,Y1,Y2,rfl,e1,e2,ho,⟨og,cap,F,dd,rfl,hrow,hk,e3,e4,hel⟩,hrest⟩:=hrel
 have hel:ownR k w' dd xs F:=hel
 have hv:=ownV_sl.2 ⟨og,dd,F,hrow,hel,rfl⟩
 obtain ⟨v2,us2,G3,G4,Y3,Y4,rfl,f1,f2,ho2,⟨hv2,f3,f4⟩,hend⟩:=hrest
 have hend:us2 = []∧G4 = []∧Y4 = []:=hend
 obtain ⟨rfl,rfl,rfl⟩:=hend
 refine ⟨_,_,rfl,rfl,hb,[_,_],[],[],rfl,List.nodup_nil,(fun b hb => nomatch hb),_,[_],[],[],[],[],rfl,rfl,rfl,ho,⟨?_,rfl,rfl⟩,_,[],[],[],[],[],rfl,rfl,rfl,ho2,⟨rdV_int.2 (rdV_int.1 hv2),rfl,rfl⟩,rfl,rfl,rfl⟩
 exact hv.rd.mono (fun b hb _ => ⟨.inr (hG2 b (by
  rw [e1,e3]
  exact List.mem_append_left _ (by simpa using hb))),by simp⟩)
end Go.Proofs.YtgngidchldajhaaGreat
namespace Go.Proofs.YtgngidchldajhaaGreat
open Go.RowKit
def drawCu (code:List Int):List Int:=(drawAnyF code (src0 code) 7).1
theorem drawAny_len {code:List Int} (hc:Bytes code) {s:Nat × Int} {m:Int} (hs:s.1 ≤ code.length) (hm:1 ≤ m) (h:lev8 (drawAnyF code s m).1 = true):(drawAnyF code s m).1.length ≤ m.toNat:=by
 obtain ⟨h1,h2⟩:=drawF_ok hc (m:=m) hs
 have h3:=drawF_len hc (m:=m) hs hm
 unfold drawAnyF at h ⊢
 obtain ⟨p,hp⟩:∃ p,p = drawF code s m:=⟨_,rfl⟩
 rw [← hp] at h1 h3 h ⊢
 simp only at h ⊢
 have hpos:=List.length_pos_iff.2 h1.pos
 split at h
 ·rw [if_pos ‹_›]
  show (p.1.set _ _).length ≤ _
  rw [List.length_set];exact h3
 ·rw [if_neg ‹_›]
  split at h
  ·rw [if_pos ‹_›];exact Nat.zero_le _
  ·rw [if_neg ‹_›]
   split at h
   ·have h9:(p.1 ++ List.replicate 8 (1:Int)).length ≤ 8:=lev8_len h
    rw [List.length_append,List.length_replicate] at h9
    omega
   ·rw [if_neg ‹_›];exact h3
theorem drawCu_ok {code:List Int} (hc:Bytes code):AOk 16 (drawCu code)∧(lev8 (drawCu code) = true→(drawCu code).length ≤ 7) :=
 ⟨(drawAnyF_ok hc (s:=src0 code) (m:=7) (Nat.zero_le _)).1,drawAny_len hc (Nat.zero_le _) (by decide)⟩
set_option maxHeartbeats 4000000 in
theorem a_DrawCutsOf {code:List Int} (hc:Bytes code) (hl:code.length ≤ 1000000000):AFn Tryz.prog 13 [eCode code] (· = [.own 1 ((drawCu code).map eI) true]):=by
 have hfrom:=p_l01From hc hl
 have hs:(src0 code).1 ≤ code.length:=Nat.zero_le _
 have hd1:=drw1_eq (G:=drawAnyG code) hs (m:=7) (by omega)
 unfold drawCu
 have e1:drawAnyG code (src0 code) 7 = ([.own 1 ((drawAnyF code (src0 code) 7).1.map eI) true],(drawAnyF code (src0 code) 7).2):=rfl
 rw [e1] at hd1
 obtain ⟨⟨t,s1⟩,hp⟩:∃ p,p = drawAnyF code (src0 code) 7:=⟨_,rfl⟩
 rw [← hp] at hd1 ⊢
 simp only at hd1 ⊢
 simp only [eCode,dCode] at hfrom ⊢
 refine AFn.of_runs (cfg_ok 6) Tryz.func13 rfl rfl rfl (by simp only [List.length_cons,List.length_nil];decide) ?_
 have hres:Tryz.f13.results.toList = [.tmp 2]:=rfl
 have hrts:Tryz.f13.resultTypes.toList = [24]:=rfl
 simp only [argRegs,argAV1,eL,eI,eLL,eB,Nat.zero_add,Nat.reduceAdd,eCode,dCode]
 intro M
 refine RunK.of ?_
 ((repeat' (first|with_reducible (first|refine Q1 ?_|refine Q2 ?_|refine Q3 ?_|refine Q4 ?_|refine Q5 ?_|refine Q6 ?_|refine Q7 ?_|refine Q8 ?_|refine Q9 ?_|refine Qa ?_|refine Qb ?_|refine Qc ?_|refine Qd ?_|refine Qe ?_|refine Qf ?_)|((with_reducible refine Qo ?_ ?_);focus rfl)|((with_reducible first|refine QT 3 (l:=?_) ?_ ?_|refine QF 3 (l:=?_) ?_ ?_);rotate_left 1;focus (simp only [Zu,Nat.reduceSub,Nat.reduceBEq];with_reducible rfl))|((with_reducible refine QC (b:=?_) ?_ ?_);rotate_left 1;focus ((with_reducible refine QW ?_);simp only [Zg,seval,if_true,if_false,reduceCtorEq,Nat.reduceEqDiff];with_reducible rfl))));((with_reducible refine QS (cfg_ok 6) Tab.none (s':=?_) ?_ ?_);rotate_left 1;focus ((with_reducible refine QW ?_);simp only [Zg,seval,if_true,if_false,reduceCtorEq,Nat.reduceEqDiff];with_reducible rfl));(repeat' (first|with_reducible (first|refine Q1 ?_|refine Q2 ?_|refine Q3 ?_|refine Q4 ?_|refine Q5 ?_|refine Q6 ?_|refine Q7 ?_|refine Q8 ?_|refine Q9 ?_|refine Qa ?_|refine Qb ?_|refine Qc ?_|refine Qd ?_|refine Qe ?_|refine Qf ?_)|((with_reducible refine Qo ?_ ?_);focus rfl)|((with_reducible first|refine QT 3 (l:=?_) ?_ ?_|refine QF 3 (l:=?_) ?_ ?_);rotate_left 1;focus (simp only [Zu,Nat.reduceSub,Nat.reduceBEq];with_reducible rfl))|((with_reducible refine QC (b:=?_) ?_ ?_);rotate_left 1;focus ((with_reducible refine QW ?_);simp only [Zg,seval,if_true,if_false,reduceCtorEq,Nat.reduceEqDiff];with_reducible rfl)))))
 ((repeat' (first|with_reducible (first|refine Q1 ?_|refine Q2 ?_|refine Q3 ?_|refine Q4 ?_|refine Q5 ?_|refine Q6 ?_|refine Q7 ?_|refine Q8 ?_|refine Q9 ?_|refine Qa ?_|refine Qb ?_|refine Qc ?_|refine Qd ?_|refine Qe ?_|refine Qf ?_)|((with_reducible refine Qo ?_ ?_);focus rfl)|((with_reducible first|refine QT 3 (l:=?_) ?_ ?_|refine QF 3 (l:=?_) ?_ ?_);rotate_left 1;focus (simp only [Zu,Nat.reduceSub,Nat.reduceBEq];with_reducible rfl))|((with_reducible refine QC (b:=?_) ?_ ?_);rotate_left 1;focus ((with_reducible refine QW ?_);simp only [Zg,seval,if_true,if_false,reduceCtorEq,Nat.reduceEqDiff];with_reducible rfl))));(with_reducible refine RunK.regCut (cfg_ok 6) Tab.none 1 (s1:=?_) ?_ ?_);rotate_left 1;(focus ((with_reducible refine QW ?_);simp only [Zg,seval,if_true,if_false,reduceCtorEq,Nat.reduceEqDiff];with_reducible rfl));simp only [List.toList_toArray,List.drop_succ_cons,List.drop_zero])
 refine ROps.callR (cfg_ok 6) rfl (d:=4) rfl (by decide) rfl rfl rfl rfl hfrom rfl ?_
 intro b
 (refine ROps.opsT (cfg_ok 6) (T:=TDw hc hl) (s':=?_) ?_ ?_;rotate_left 1;focus (simp only [Zg,seval,if_true,if_false,reduceCtorEq,Nat.reduceEqDiff,TDw,hd1,drwE,nxtE,srcD_len];with_reducible rfl))
 repeat' (first|with_reducible (first|refine Q1 ?_|refine Q2 ?_|refine Q3 ?_|refine Q4 ?_|refine Q5 ?_|refine Q6 ?_|refine Q7 ?_|refine Q8 ?_|refine Q9 ?_|refine Qa ?_|refine Qb ?_|refine Qc ?_|refine Qd ?_|refine Qe ?_|refine Qf ?_)|((with_reducible refine Qo ?_ ?_);focus rfl)|((with_reducible first|refine QT 3 (l:=?_) ?_ ?_|refine QF 3 (l:=?_) ?_ ?_);rotate_left 1;focus (simp only [Zu,Nat.reduceSub,Nat.reduceBEq];with_reducible rfl))|((with_reducible first|refine QS (cfg_ok 6) Tab.none (s':=?_) ?_ ?_|refine QC (b:=?_) ?_ ?_);rotate_left 1;focus ((with_reducible refine QW ?_);simp only [Zg,seval,if_true,if_false,reduceCtorEq,Nat.reduceEqDiff];with_reducible rfl)))
 (refine Ends.mk (by simp) (rs:=?_) (ks:=?_) hres hrts ?_ ?_ ?_;rotate_left 2;(focus (simp only [Ze,Zg,seval,if_true,if_false,reduceCtorEq,Nat.reduceEqDiff];with_reducible rfl));(focus simp);focus (first|with_reducible rfl|(simp only [Zv];done)))
theorem prdC_app:∀ (l m:List (List Int)),prdC (l ++ m) = prdC l * prdC m
 | [],m => by rw [List.nil_append];show _ = 1 * _;rw [Int.one_mul]
 | b :: l,m => by
  show ((split b).length:Int) * prdC (l ++ m) = (((split b).length:Int) * prdC l) * prdC m
  rw [prdC_app l m,Int.mul_assoc]
theorem split_pos {b:List Int} (h:LevP b):1 ≤ (split b).length:=by rw [split_eq h,List.length_append,List.length_singleton];omega
theorem prdC_pos:∀ {l:List (List Int)},(∀ b ∈ l,LevP b)→1 ≤ prdC l
 | [],_ => Int.le_refl _
 | b :: l,h => by
  have h1:=split_pos (h b (by simp))
  have h2:=prdC_pos (l:=l) fun x hx => h x (by simp [hx])
  have h3:=Int.mul_le_mul (a:=1) (b:=1) (c:=((split b).length:Int)) (d:=prdC l) (by omega) h2 (by omega) (by omega)
  show 1 ≤ ((split b).length:Int) * prdC l
  omega
theorem prdC_take {l:List (List Int)} (h:∀ b ∈ l,LevP b) (i:Nat):1 ≤ prdC (l.take i)∧prdC (l.take i) ≤ prdC l:=by
 have h1:=prdC_pos (l:=l.take i) fun x hx => h x (List.mem_of_mem_take hx)
 have h2:=prdC_pos (l:=l.drop i) fun x hx => h x (List.mem_of_mem_drop hx)
 refine ⟨h1,?_⟩
 have e:prdC l = prdC (l.take i) * prdC (l.drop i):=by rw [← prdC_app,List.take_append_drop]
 have h3:=Int.mul_le_mul_of_nonneg_left h2 (show 0 ≤ prdC (l.take i) by omega)
 rw [Int.mul_one] at h3
 omega
theorem prdC_succ {l:List (List Int)} {i:Nat} (h:i < l.length):prdC (l.take (i + 1)) = prdC (l.take i) * ((split l[i]).length:Int):=by
 rw [List.take_succ_eq_append_getElem h,prdC_app]
 show _ * (_ * 1) = _
 rw [Int.mul_one]
theorem totC_bd {L:List Cu} (h:∀ z ∈ L,0 ≤ z.2∧z.2 ≤ 1000):∀ i,i ≤ L.length→0 ≤ totC L i∧totC L i ≤ 1000 * i
 | 0,_ => by simp [totC]
 | i + 1,hi => by
  have h1:=totC_bd h i (by omega)
  have e:L.getD i (([],[]),0) = L[i]:=by rw [List.getD_eq_getElem?_getD,List.getElem?_eq_getElem (by omega)];rfl
  have h2:=h L[i] (List.getElem_mem _)
  unfold totC
  rw [e]
  omega
theorem edgC_bd {L:List Cu} (h:∀ z ∈ L,0 ≤ z.2∧z.2 ≤ 1000):∀ i,i ≤ L.length→0 ≤ edgC L i∧edgC L i ≤ 1000 * i
 | 0,_ => by simp [edgC]
 | i + 1,hi => by
  have h1:=edgC_bd h i (by omega)
  have e:L.getD i (([],[]),0) = L[i]:=by rw [List.getD_eq_getElem?_getD,List.getElem?_eq_getElem (by omega)];rfl
  have h2:=h L[i] (List.getElem_mem _)
  unfold edgC
  rw [e]
  split <;> omega
theorem totF_mono {L:List (List Int × Int)} (h:∀ z ∈ L,1 ≤ z.2):∀ i,i ≤ L.length→0 ≤ totF L i∧∀ k,k ≤ i→totF L k ≤ totF L i
 | 0,_ => ⟨by simp [totF],fun k hk => by
  have:k = 0:=by omega
  subst this
  exact Int.le_refl _⟩
 | i + 1,hi => by
  obtain ⟨h1,h3⟩:=totF_mono h i (by omega)
  have e:L.getD i ([],0) = L[i]:=by rw [List.getD_eq_getElem?_getD,List.getElem?_eq_getElem (by omega)];rfl
  have h2:=h L[i] (List.getElem_mem _)
  have h4:totF L (i + 1) = totF L i + L[i].2:=by show totF L i + (L.getD i ([],0)).2 = _;rw [e]
  refine ⟨by omega,fun k hk => ?_⟩
  rcases Nat.lt_or_ge k (i + 1) with hk'|hk'
  ·have:=h3 k (by omega);omega
  ·obtain rfl:k = i + 1:=by omega
   exact Int.le_refl _
noncomputable def TCcu:Tab Tryz.prog:=Tab.none.add 16 (tab1 codL fun t => some [.val (.int (ccOf t).1),.val (.int (ccOf t).2)]) (tab1_ok fun t rs h => by cases h;exact a_impl_CountCuts t)
set_option maxRecDepth 20000 in
set_option maxHeartbeats 16000000 in
theorem a_FnCuts (code:List Int) (hc:Bytes code):AFn Tryz.prog 3 [eCode code] (· = [.val (.bool true)]):=by
 have hbg:=a_big code
 by_cases hbig:4096 < code.length
 ·rw [decide_eq_true hbig] at hbg
  simp only [eCode,dCode] at hbg
  refine AFn.of_runs (cfg_ok 279) Tryz.func3 rfl rfl rfl (by simp only [List.length_cons,List.length_nil];decide) ?_
  have hres:Tryz.f3.results.toList = [.tmp 2]:=rfl
  have hrts:Tryz.f3.resultTypes.toList = [4]:=rfl
  simp only [argRegs,argAV1,eL,eI,eLL,eB,Nat.zero_add,Nat.reduceAdd,eCode,dCode]
  intro M
  refine RunK.of ?_
  repeat' (first|with_reducible (first|refine Q1 ?_|refine Q2 ?_|refine Q3 ?_|refine Q4 ?_|refine Q5 ?_|refine Q6 ?_|refine Q7 ?_|refine Q8 ?_|refine Q9 ?_|refine Qa ?_|refine Qb ?_|refine Qc ?_|refine Qd ?_|refine Qe ?_|refine Qf ?_)|((with_reducible refine Qo ?_ ?_);focus rfl)|((with_reducible first|refine QT 33 (l:=?_) ?_ ?_|refine QF 33 (l:=?_) ?_ ?_);rotate_left 1;focus (simp only [Zu,Nat.reduceSub,Nat.reduceBEq];with_reducible rfl))|((with_reducible first|refine QS (cfg_ok 279) (Tab.none.at' 12 hbg) (s':=?_) ?_ ?_|refine QC (b:=?_) ?_ ?_);rotate_left 1;focus ((with_reducible refine QW ?_);simp only [Zg,seval,if_true,if_false,reduceCtorEq,Nat.reduceEqDiff];with_reducible rfl))|((with_reducible refine QD (cfg_ok 279) (Tab.none.at' 12 hbg) mixed_ok (tr:=?_) (s':=?_) ?_ ?_ ?_);rotate_left 2;(focus ((with_reducible refine QW ?_);simp only [Zg,Zd,seval,if_true,if_false,reduceCtorEq,Nat.reduceEqDiff];with_reducible rfl));focus ((with_reducible refine QK ?_);simp only [Zk];kernel_rfl)))
  (refine Ends.mk (by simp) (rs:=?_) (ks:=?_) hres hrts ?_ ?_ ?_;rotate_left 2;(focus (simp only [Ze,Zg,seval,if_true,if_false,reduceCtorEq,Nat.reduceEqDiff];with_reducible rfl));(focus simp);focus (first|with_reducible rfl|(simp only [Zv];done)))
 rw [decide_eq_false hbig] at hbg
 have hl:code.length ≤ 1000000000:=by omega
 have hdr:=a_DrawCutsOf hc hl
 obtain ⟨ht0,ht7⟩:=drawCu_ok hc
 obtain ⟨t,hp⟩:∃ p,p = drawCu code:=⟨_,rfl⟩
 rw [← hp] at hdr ht0 ht7
 have ht1:=ht0.len
 have h1:=AFn.valT2 (a_impl_CutsOf t)
 obtain ⟨fl,h2⟩:=a_spec_CutsOf t (by omega)
 have b0:((0:Int) != 0) = false:=by decide
 have b1:((1:Int) != 0) = true:=by decide
 have b11:((1:Int) != 1) = false:=by decide
 have b00:((0:Int) == 0) = true:=by decide
 have htm:(t.map eI).length = t.length:=List.length_map _
 simp only [eCode,dCode,eL] at hbg hdr h1 h2
 by_cases h8:lev8 t = true
 rotate_left
 ·have e:coOf t = ([],1):=by unfold coOf;rw [if_neg h8]
  rw [e] at h1 h2
  refine AFn.of_runs (cfg_ok 279) Tryz.func3 rfl rfl rfl (by simp only [List.length_cons,List.length_nil];decide) ?_
  have hres:Tryz.f3.results.toList = [.tmp 2]:=rfl
  have hrts:Tryz.f3.resultTypes.toList = [4]:=rfl
  simp only [argRegs,argAV1,eL,eI,eLL,eB,Nat.zero_add,Nat.reduceAdd,eCode,dCode]
  intro M
  refine RunK.of ?_
  repeat' (first|with_reducible (first|refine Q1 ?_|refine Q2 ?_|refine Q3 ?_|refine Q4 ?_|refine Q5 ?_|refine Q6 ?_|refine Q7 ?_|refine Q8 ?_|refine Q9 ?_|refine Qa ?_|refine Qb ?_|refine Qc ?_|refine Qd ?_|refine Qe ?_|refine Qf ?_)|((with_reducible refine Qo ?_ ?_);focus rfl)|((with_reducible first|refine QT 33 (l:=?_) ?_ ?_|refine QF 33 (l:=?_) ?_ ?_);rotate_left 1;focus (simp only [Zu,Nat.reduceSub,Nat.reduceBEq];with_reducible rfl))|((with_reducible first|refine QS (cfg_ok 279) ((((Tab.none.at' 12 hbg).at' 13 hdr).at' 14 h1).at' 15 h2) (s':=?_) ?_ ?_|refine QC (b:=?_) ?_ ?_);rotate_left 1;focus ((with_reducible refine QW ?_);simp only [Zg,seval,if_true,if_false,reduceCtorEq,Nat.reduceEqDiff,b1,b11,b00,List.map_nil,List.length_nil,Int.natCast_zero];with_reducible rfl))|((with_reducible refine QD (cfg_ok 279) ((((Tab.none.at' 12 hbg).at' 13 hdr).at' 14 h1).at' 15 h2) mixed_ok (tr:=?_) (s':=?_) ?_ ?_ ?_);rotate_left 2;(focus ((with_reducible refine QW ?_);simp only [Zg,Zd,seval,if_true,if_false,reduceCtorEq,Nat.reduceEqDiff,b1,b11,b00,List.map_nil,List.length_nil,Int.natCast_zero];with_reducible rfl));focus ((with_reducible refine QK ?_);simp only [Zk];kernel_rfl)))
  (refine Ends.mk (by simp) (rs:=?_) (ks:=?_) hres hrts ?_ ?_ ?_;rotate_left 2;(focus (simp only [Ze,Zg,seval,if_true,if_false,reduceCtorEq,Nat.reduceEqDiff];with_reducible rfl));(focus simp);focus (first|with_reducible rfl|(simp only [Zv];done)))
 have F:=fc_all h8 (ht7 h8)
 obtain ⟨n,hn⟩:∃ n:Int,n = ((split t).length:Int):=⟨_,rfl⟩
 rw [← hn] at F
 obtain ⟨c1,c2,c3,c4,c5⟩:=F.codes
 have hbr:=AFn.valT2 (a_impl_BranchesOf t)
 have hcr:=a_CountRising t 2 (by unfold In64;omega)
 have hrs:=AFn.valT2 (a_impl_RootSubtrees t)
 have hcb:=AFn.valT2 (a_impl_CutBranches t)
 have f1:=F.prd;have f2:=F.len;have f3:=F.tot;have f4:=F.edg;have f5:=F.all;have f6:=F.cb;have f7:=F.cbl;have f8:=F.rs;have f9:=F.rsl;have f10:=F.brl;have f11:=F.nb;have f12:=F.cc
 have hcbm:∀ z ∈ (cbOf t).1,z ∈ cutsL t:=fun z hz => by
  unfold cbOf at hz
  rw [if_pos h8] at hz
  exact (List.mem_filter.1 hz).1
 have hrsm:∀ z ∈ (rsOf t).1,1 ≤ z.2:=fun z hz => by
  unfold rsOf at hz
  rw [if_pos h8] at hz
  exact (cntOf_is _).1.2 z hz
 rw [c1,show (coOf t).1 = cutsL t from c2] at h1
 rw [c1] at h2
 rw [c5] at hbr
 rw [c4] at hrs
 rw [c3] at hcb
 rw [F.rise] at hcr
 obtain ⟨L,hL⟩:∃ L,L = cutsL t:=⟨_,rfl⟩
 obtain ⟨B,hB⟩:∃ B,B = (brOf t).1:=⟨_,rfl⟩
 obtain ⟨R,hR⟩:∃ R,R = (rsOf t).1:=⟨_,rfl⟩
 obtain ⟨S,hS⟩:∃ S,S = (cbOf t).1:=⟨_,rfl⟩
 rw [← hL] at h1 f2 f3 f4 f5
 rw [← hB] at hbr f1 f10
 rw [← hR] at hrs f8 f9 hrsm
 rw [← hS] at hcb f6 f7
 rw [← hS,← hL] at hcbm
 have hLb:∀ z ∈ L,0 ≤ z.2∧z.2 ≤ 1000:=fun z hz => ⟨by have:=(f5 z hz).c1;omega,(f5 z hz).ch⟩
 have hSb:∀ z ∈ S,0 ≤ z.2∧z.2 ≤ 1000:=fun z hz => hLb z (hcbm z hz)
 have bnn:(n != n) = false:=by simp
 simp only [eL,eI] at hbr hcr hrs hcb
 refine AFn.of_runs (cfg_ok 279) Tryz.func3 rfl rfl rfl (by simp only [List.length_cons,List.length_nil];decide) ?_
 have hres:Tryz.f3.results.toList = [.tmp 2]:=rfl
 have hrts:Tryz.f3.resultTypes.toList = [4]:=rfl
 simp only [argRegs,argAV1,eL,eI,eLL,eB,Nat.zero_add,Nat.reduceAdd,eCode,dCode]
 intro M
 refine RunK.of ?_
 repeat' (first|with_reducible (first|refine Q1 ?_|refine Q2 ?_|refine Q3 ?_|refine Q4 ?_|refine Q5 ?_|refine Q6 ?_|refine Q7 ?_|refine Q8 ?_|refine Q9 ?_|refine Qa ?_|refine Qb ?_|refine Qc ?_|refine Qd ?_|refine Qe ?_|refine Qf ?_)|((with_reducible refine Qo ?_ ?_);focus rfl)|((with_reducible first|refine QT 33 (l:=?_) ?_ ?_|refine QF 33 (l:=?_) ?_ ?_);rotate_left 1;focus (simp only [Zu,Nat.reduceSub,Nat.reduceBEq];with_reducible rfl))|((with_reducible first|refine QS (cfg_ok 279) ((((((((TCcu.at' 12 hbg).at' 13 hdr).at' 14 h1).at' 15 h2).at' 17 hbr).at' 18 hcr).at' 19 hrs).at' 20 hcb) (s':=?_) ?_ ?_|refine QC (b:=?_) ?_ ?_);rotate_left 1;focus ((with_reducible refine QW ?_);simp only [Zg,seval,if_true,if_false,reduceCtorEq,Nat.reduceEqDiff,TCcu,b0,f12,bnn];with_reducible rfl))|((with_reducible refine QD (cfg_ok 279) ((((((((TCcu.at' 12 hbg).at' 13 hdr).at' 14 h1).at' 15 h2).at' 17 hbr).at' 18 hcr).at' 19 hrs).at' 20 hcb) mixed_ok (tr:=?_) (s':=?_) ?_ ?_ ?_);rotate_left 2;(focus ((with_reducible refine QW ?_);simp only [Zg,Zd,seval,if_true,if_false,reduceCtorEq,Nat.reduceEqDiff,TCcu,b0,f12,bnn];with_reducible rfl));focus ((with_reducible refine QK ?_);simp only [Zk];kernel_rfl)))
 refine RunK.frz 3 ?_
 refine RunK.fits (s0:=⟨[(3,.c (.val (.sl 1 (t.map eI)))),(4,.c (.val (.sl 3 (L.map eK)))),(8,.c (.val (.int n))),(10,.c (.val (.sl 1 (B.map eL)))),(14,.c (.val (.sl 2 (R.map eCt)))),(16,.c (.val (.sl 3 (S.map eK)))),(18,.c (.val (.int 1))),(19,.c (.val (.int 0)))],[]⟩) ?_ ?_
 ·(repeat' (first|with_reducible refine Qn|((with_reducible refine Qr ?_ ?_);focus (first|with_reducible rfl|(simp only [Zz,Nat.reduceBEq,St.frz,frzR,frzH,look,AV.frz,AC.frz,Obj.frz,drop];done)|rfl))|((with_reducible refine Qj (o':=?_) ?_ ?_ ?_);rotate_left 1;focus rfl)|((with_reducible refine Qw ?_ ?_);(focus (first|with_reducible rfl|(simp only [Zv,St.frz,frzR,frzH,look,AV.frz,AC.frz,Obj.frz,drop];done)));focus (first|exact id|exact (fun h => nomatch h)|exact (fun _ => rfl)))))
  all_goals first|exact ⟨rfl,rfl⟩|exact ⟨rfl,rfl,id⟩
 have hBm:(B.map eL).length = B.length:=List.length_map _
 have hBl:∀ b ∈ B,LevP b:=fun b hb => lev8_lev (f10 b hb)
 have hBn:B.length ≤ 1000:=by
  rw [hB]
  unfold brOf
  rw [if_pos h8]
  show (sortC cmpT (brs (canon t))).length ≤ _
  rw [sortC_length]
  have:=brs_few (canon_lev (lev8_lev h8))
  rw [canon_len (lev8_lev h8)] at this
  omega
 refine RunK.loop (β:=Nat) (γ:=Unit) (fun i => ⟨[(3,.c (.val (.sl 1 (t.map eI)))),(4,.c (.val (.sl 3 (L.map eK)))),(8,.c (.val (.int n))),(10,.c (.val (.sl 1 (B.map eL)))),(14,.c (.val (.sl 2 (R.map eCt)))),(16,.c (.val (.sl 3 (S.map eK)))),(18,.c (.val (.int (prdC (B.take i))))),(19,.c (.val (.int i)))],[]⟩) (fun i => i ≤ B.length) (fun i => B.length - i)
  (fun _ => ⟨[(3,.c (.val (.sl 1 (t.map eI)))),(4,.c (.val (.sl 3 (L.map eK)))),(8,.c (.val (.int n))),(14,.c (.val (.sl 2 (R.map eCt)))),(16,.c (.val (.sl 3 (S.map eK)))),(18,.c (.val (.int (prdC B))))],[]⟩) (fun _ => True) 0 (Nat.zero_le _) ?_ ?_ ?_
 ·(repeat' (first|with_reducible refine Qn|((with_reducible refine Qr ?_ ?_);focus (first|with_reducible rfl|(simp only [Zz,Nat.reduceBEq,List.take_zero,show prdC [] = 1 from rfl,Int.natCast_zero];done)|rfl))|((with_reducible refine Qj (o':=?_) ?_ ?_ ?_);rotate_left 1;focus rfl)|((with_reducible refine Qw ?_ ?_);(focus (first|with_reducible rfl|(simp only [Zv,List.take_zero,show prdC [] = 1 from rfl,Int.natCast_zero];done)));focus (first|exact id|exact (fun h => nomatch h)|exact (fun _ => rfl)))))
 ·intro i hi
  have hi:i ≤ B.length:=hi
  have hw:=w64_succ (n:=i) (by omega)
  by_cases h:i < B.length
  ·have i1:((i:Int) < (B.length:Int)) = True:=eq_true (by omega)
   have i2:((0:Int) ≤ (i:Int)) = True:=eq_true (by omega)
   have hg:(B.map eL)[i]? = some (eL B[i]):=by rw [List.getElem?_map,List.getElem?_eq_getElem h];rfl
   have hcc:ccOf B[i] = (((split B[i]).length:Int),0):=by unfold ccOf;rw [if_pos (f10 _ (List.getElem_mem _))]
   have hst:=prdC_succ h
   have hb1:=prdC_take hBl (i + 1)
   obtain ⟨b,hbd⟩:∃ b,b = B[i]:=⟨_,rfl⟩
   rw [← hbd] at hg hcc hst
   have w1:w64 (prdC (B.take i) * ((split b).length:Int)) = prdC (B.take (i + 1)):=by rw [← hst];exact w64_eq (by omega)
   simp only [eL] at hg
   repeat' (first|with_reducible (first|refine Q1 ?_|refine Q2 ?_|refine Q3 ?_|refine Q4 ?_|refine Q5 ?_|refine Q6 ?_|refine Q7 ?_|refine Q8 ?_|refine Q9 ?_|refine Qa ?_|refine Qb ?_|refine Qc ?_|refine Qd ?_|refine Qe ?_|refine Qf ?_)|((with_reducible refine Qo ?_ ?_);focus rfl)|((with_reducible first|refine QT 33 (l:=?_) ?_ ?_|refine QF 33 (l:=?_) ?_ ?_);rotate_left 1;focus (simp only [Zu,Nat.reduceSub,Nat.reduceBEq];with_reducible rfl))|((with_reducible first|refine QS (cfg_ok 279) TCcu (s':=?_) ?_ ?_|refine QC (b:=?_) ?_ ?_);rotate_left 1;focus ((with_reducible refine QW ?_);simp only [Zg,seval,if_true,if_false,reduceCtorEq,Nat.reduceEqDiff,TCcu,TCcu,i1,i2,hBm,hg,hcc,b0,w1,hw,Int.toNat_natCast];with_reducible rfl))|((with_reducible refine QD (cfg_ok 279) TCcu mixed_ok (tr:=?_) (s':=?_) ?_ ?_ ?_);rotate_left 2;(focus ((with_reducible refine QW ?_);simp only [Zg,Zd,seval,if_true,if_false,reduceCtorEq,Nat.reduceEqDiff,TCcu,TCcu,i1,i2,hBm,hg,hcc,b0,w1,hw,Int.toNat_natCast];with_reducible rfl));focus ((with_reducible refine QK ?_);simp only [Zk];kernel_rfl)))
   refine roundK.on (i + 1) ⟨h,by omega⟩ ?_
   (repeat' (first|with_reducible refine Qn|((with_reducible refine Qr ?_ ?_);focus (first|with_reducible rfl|(simp only [Zz,Nat.reduceBEq];done)|rfl))|((with_reducible refine Qj (o':=?_) ?_ ?_ ?_);rotate_left 1;focus rfl)|((with_reducible refine Qw ?_ ?_);(focus (first|with_reducible rfl|(simp only [Zv];done)));focus (first|exact id|exact (fun h => nomatch h)|exact (fun _ => rfl)))))
  ·have i1:((i:Int) < (B.length:Int)) = False:=eq_false (by omega)
   obtain rfl:i = B.length:=by omega
   rw [List.take_length]
   repeat' (first|with_reducible (first|refine Q1 ?_|refine Q2 ?_|refine Q3 ?_|refine Q4 ?_|refine Q5 ?_|refine Q6 ?_|refine Q7 ?_|refine Q8 ?_|refine Q9 ?_|refine Qa ?_|refine Qb ?_|refine Qc ?_|refine Qd ?_|refine Qe ?_|refine Qf ?_)|((with_reducible refine Qo ?_ ?_);focus rfl)|((with_reducible first|refine QT 33 (l:=?_) ?_ ?_|refine QF 33 (l:=?_) ?_ ?_);rotate_left 1;focus (simp only [Zu,Nat.reduceSub,Nat.reduceBEq];with_reducible rfl))|((with_reducible first|refine QS (cfg_ok 279) Tab.none (s':=?_) ?_ ?_|refine QC (b:=?_) ?_ ?_);rotate_left 1;focus ((with_reducible refine QW ?_);simp only [Zg,seval,if_true,if_false,reduceCtorEq,Nat.reduceEqDiff,i1,hBm];with_reducible rfl))|((with_reducible refine QD (cfg_ok 279) Tab.none mixed_ok (tr:=?_) (s':=?_) ?_ ?_ ?_);rotate_left 2;(focus ((with_reducible refine QW ?_);simp only [Zg,Zd,seval,if_true,if_false,reduceCtorEq,Nat.reduceEqDiff,i1,hBm];with_reducible rfl));focus ((with_reducible refine QK ?_);simp only [Zk];kernel_rfl)))
   refine roundK.out () trivial ?_
   (repeat' (first|with_reducible refine Qn|((with_reducible refine Qr ?_ ?_);focus (first|with_reducible rfl|(simp only [Zz,Nat.reduceBEq];done)|rfl))|((with_reducible refine Qj (o':=?_) ?_ ?_ ?_);rotate_left 1;focus rfl)|((with_reducible refine Qw ?_ ?_);(focus (first|with_reducible rfl|(simp only [Zv];done)));focus (first|exact id|exact (fun h => nomatch h)|exact (fun _ => rfl)))))
 intro _ _
 repeat' (first|with_reducible (first|refine Q1 ?_|refine Q2 ?_|refine Q3 ?_|refine Q4 ?_|refine Q5 ?_|refine Q6 ?_|refine Q7 ?_|refine Q8 ?_|refine Q9 ?_|refine Qa ?_|refine Qb ?_|refine Qc ?_|refine Qd ?_|refine Qe ?_|refine Qf ?_)|((with_reducible refine Qo ?_ ?_);focus rfl)|((with_reducible first|refine QT 33 (l:=?_) ?_ ?_|refine QF 33 (l:=?_) ?_ ?_);rotate_left 1;focus (simp only [Zu,Nat.reduceSub,Nat.reduceBEq];with_reducible rfl))|((with_reducible first|refine QS (cfg_ok 279) Tab.none (s':=?_) ?_ ?_|refine QC (b:=?_) ?_ ?_);rotate_left 1;focus ((with_reducible refine QW ?_);simp only [Zg,seval,if_true,if_false,reduceCtorEq,Nat.reduceEqDiff];with_reducible rfl))|((with_reducible refine QD (cfg_ok 279) Tab.none mixed_ok (tr:=?_) (s':=?_) ?_ ?_ ?_);rotate_left 2;(focus ((with_reducible refine QW ?_);simp only [Zg,Zd,seval,if_true,if_false,reduceCtorEq,Nat.reduceEqDiff];with_reducible rfl));focus ((with_reducible refine QK ?_);simp only [Zk];kernel_rfl)))
 have hLm:(L.map eK).length = L.length:=List.length_map _
 refine RunK.loop (β:=Nat) (γ:=Unit) (fun i => ⟨[(3,.c (.val (.sl 1 (t.map eI)))),(4,.c (.val (.sl 3 (L.map eK)))),(8,.c (.val (.int n))),(14,.c (.val (.sl 2 (R.map eCt)))),(16,.c (.val (.sl 3 (S.map eK)))),(18,.c (.val (.int (prdC B)))),(22,.c (.val (.int (totC L i)))),(23,.c (.val (.int (edgC L i)))),(24,.c (.val (.int i)))],[]⟩) (fun i => i ≤ L.length) (fun i => L.length - i)
  (fun _ => ⟨[(3,.c (.val (.sl 1 (t.map eI)))),(8,.c (.val (.int n))),(14,.c (.val (.sl 2 (R.map eCt)))),(16,.c (.val (.sl 3 (S.map eK)))),(18,.c (.val (.int (prdC B)))),(22,.c (.val (.int (totC L L.length)))),(23,.c (.val (.int (edgC L L.length))))],[]⟩) (fun _ => True) 0 (Nat.zero_le _) ?_ ?_ ?_
 ·(repeat' (first|with_reducible refine Qn|((with_reducible refine Qr ?_ ?_);focus (first|with_reducible rfl|(simp only [Zz,Nat.reduceBEq,show totC L 0 = 0 from rfl,show edgC L 0 = 0 from rfl,Int.natCast_zero];done)|rfl))|((with_reducible refine Qj (o':=?_) ?_ ?_ ?_);rotate_left 1;focus rfl)|((with_reducible refine Qw ?_ ?_);(focus (first|with_reducible rfl|(simp only [Zv,show totC L 0 = 0 from rfl,show edgC L 0 = 0 from rfl,Int.natCast_zero];done)));focus (first|exact id|exact (fun h => nomatch h)|exact (fun _ => rfl)))))
 ·intro i hi
  have hi:i ≤ L.length:=hi
  have hw:=w64_succ (n:=i) (by omega)
  by_cases h:i < L.length
  ·have i1:((i:Int) < (L.length:Int)) = True:=eq_true (by omega)
   have i2:((0:Int) ≤ (i:Int)) = True:=eq_true (by omega)
   have e:L.getD i (([],[]),0) = L[i]:=by rw [List.getD_eq_getElem?_getD,List.getElem?_eq_getElem h];rfl
   have hg:(L.map eK)[i]? = some (eK L[i]):=by rw [List.getElem?_map,List.getElem?_eq_getElem h];rfl
   have Z:=f5 L[i] (List.getElem_mem _)
   have t1:totC L (i + 1) = totC L i + L[i].2:=by show totC L i + (L.getD i (([],[]),0)).2 = _;rw [e]
   have t2:edgC L (i + 1) = edgC L i + (if oneB L[i] then L[i].2 else 0):=by show edgC L i + (if oneB (L.getD i (([],[]),0)) then (L.getD i (([],[]),0)).2 else 0) = _;rw [e]
   have hb1:=totC_bd hLb i (by omega)
   have hb2:=edgC_bd hLb i (by omega)
   obtain ⟨⟨⟨cr,tr⟩,k⟩,hc⟩:∃ c,c = L[i]:=⟨_,rfl⟩
   rw [← hc] at hg Z t1 t2
   simp only at t1 t2
   have z1:=Z.c1;have z2:=Z.ch;have z3:=Z.num;have z4:=Z.siz;have z5:=Z.one
   simp only at z1 z2 z3 z4 z5
   have htl:=lev8_len h8
   have hcrl:cr.length ≤ 1048576:=by
    have hcz:=(cuts_bd (lev8_lev h8) (lev8_len h8)).2 ((cr,tr),k) (by rw [hc,← hL];exact List.getElem_mem _)
    have:=hcz.2.1
    simp only at this
    omega
   have hcc:=a_impl_CountCut t cr tr (by omega) hcrl
   rw [z3] at hcc
   have hno:=a_nodes9 cr hcrl (by omega)
   have hcm:(cr.map eL).length = cr.length:=List.length_map _
   have htrm:(tr.map eI).length = tr.length:=List.length_map _
   have w1:w64 (totC L i + k) = totC L (i + 1):=by rw [t1];exact w64_eq (by omega)
   have w2:w64 ((sumLen cr:Int) + (tr.length:Int)) = (t.length:Int):=by rw [w64_eq (by omega)];omega
   have bk:(k != k) = false:=by simp
   have k1:(k < 1) = False:=eq_false (by omega)
   have btt:((t.length:Int) != (t.length:Int)) = false:=by simp
   simp only [eK] at hg
   simp only [eL,eLL] at hcc hno
   by_cases ho:oneB ((cr,tr),k) = true
   ·rw [if_pos ho] at t2
    obtain ⟨o1,o2⟩:=z5 ho
    have ho':=ho
    unfold oneB at ho'
    simp only [Bool.and_eq_true,decide_eq_true_eq] at ho'
    obtain ⟨x,rfl⟩:∃ x,cr = [x]:=by
     match cr,ho'.1 with
     | [x],_ => exact ⟨x,rfl⟩
    have e0:[x].getD 0 [] = x:=rfl
    rw [e0] at o1 o2
    have hct:=a_CountCutsTo t tr x o2
    rw [o1] at hct
    have w3:w64 (edgC L i + k) = edgC L (i + 1):=by rw [t2];exact w64_eq (by omega)
    have j2:((tr.length:Int) > 0) = True:=eq_true (by omega)
    have j1:((1:Int) == 1) = true:=by decide
    have j0:((0:Int) ≤ 0) = True:=eq_true (by omega)
    have j3:((0:Int) < 1) = True:=eq_true (by omega)
    have t00:(0:Int).toNat = 0:=rfl
    simp only [eL] at hct
    simp only [List.map_cons,List.map_nil,eL] at hg hcc hno
    repeat' (first|with_reducible (first|refine Q1 ?_|refine Q2 ?_|refine Q3 ?_|refine Q4 ?_|refine Q5 ?_|refine Q6 ?_|refine Q7 ?_|refine Q8 ?_|refine Q9 ?_|refine Qa ?_|refine Qb ?_|refine Qc ?_|refine Qd ?_|refine Qe ?_|refine Qf ?_)|((with_reducible refine Qo ?_ ?_);focus rfl)|((with_reducible first|refine QT 33 (l:=?_) ?_ ?_|refine QF 33 (l:=?_) ?_ ?_);rotate_left 1;focus (simp only [Zu,Nat.reduceSub,Nat.reduceBEq];with_reducible rfl))|((with_reducible first|refine QS (cfg_ok 279) Tab.none (s':=?_) ?_ ?_|refine QC (b:=?_) ?_ ?_);rotate_left 1;focus ((with_reducible refine QW ?_);simp only [Zg,seval,if_true,if_false,reduceCtorEq,Nat.reduceEqDiff,i1,i2,hLm,hg,w1,Int.toNat_natCast];with_reducible rfl)))
    (((with_reducible refine RunK.wFz (cfg_ok 279) (Tab.none.at' 21 hcc) mixed_ok [25] (tr:=?_) (s1:=?_) (rest:=?_) ?_ ?_ ?_);rotate_left 3;(focus ((with_reducible refine QW ?_);simp only [Zg,Zd,seval,if_true,if_false,reduceCtorEq,Nat.reduceEqDiff,drunF,devalF,devalB,valD,dregF_mk,List.contains_cons,List.contains_nil,i1,i2,hLm,hg,Int.toNat_natCast];with_reducible rfl));focus ((with_reducible refine QK ?_);simp only [Zk];kernel_rfl));(refine ROps.opsT (cfg_ok 279) (T:=(Tab.none.at' 21 hcc)) (s':=?_) ?_ ?_;rotate_left 1;focus (simp only [Zg,seval,if_true,if_false,reduceCtorEq,Nat.reduceEqDiff,i1,i2,hLm,hg,Int.toNat_natCast];with_reducible rfl)))
    repeat' (first|with_reducible (first|refine Q1 ?_|refine Q2 ?_|refine Q3 ?_|refine Q4 ?_|refine Q5 ?_|refine Q6 ?_|refine Q7 ?_|refine Q8 ?_|refine Q9 ?_|refine Qa ?_|refine Qb ?_|refine Qc ?_|refine Qd ?_|refine Qe ?_|refine Qf ?_)|((with_reducible refine Qo ?_ ?_);focus rfl)|((with_reducible first|refine QT 33 (l:=?_) ?_ ?_|refine QF 33 (l:=?_) ?_ ?_);rotate_left 1;focus (simp only [Zu,Nat.reduceSub,Nat.reduceBEq];with_reducible rfl))|((with_reducible first|refine QS (cfg_ok 279) Tab.none (s':=?_) ?_ ?_|refine QC (b:=?_) ?_ ?_);rotate_left 1;focus ((with_reducible refine QW ?_);simp only [Zg,seval,if_true,if_false,reduceCtorEq,Nat.reduceEqDiff];with_reducible rfl)))
    (((with_reducible refine RunK.wFz (cfg_ok 279) (Tab.none.at' 22 hno) mixed_ok [] (tr:=?_) (s1:=?_) (rest:=?_) ?_ ?_ ?_);rotate_left 3;(focus ((with_reducible refine QW ?_);simp only [Zg,Zd,seval,if_true,if_false,reduceCtorEq,Nat.reduceEqDiff,drunF,devalF,devalB,valD,dregF_mk,List.contains_cons,List.contains_nil,i1,i2,hLm,hg,htrm,htm,w2,bk,k1,btt,b0,Int.toNat_natCast];with_reducible rfl));focus ((with_reducible refine QK ?_);simp only [Zk];kernel_rfl));(refine ROps.opsT (cfg_ok 279) (T:=(Tab.none.at' 22 hno)) (s':=?_) ?_ ?_;rotate_left 1;focus (simp only [Zg,seval,if_true,if_false,reduceCtorEq,Nat.reduceEqDiff,i1,i2,hLm,hg,htrm,htm,w2,bk,k1,btt,b0,Int.toNat_natCast];with_reducible rfl)))
    repeat' (first|with_reducible (first|refine Q1 ?_|refine Q2 ?_|refine Q3 ?_|refine Q4 ?_|refine Q5 ?_|refine Q6 ?_|refine Q7 ?_|refine Q8 ?_|refine Q9 ?_|refine Qa ?_|refine Qb ?_|refine Qc ?_|refine Qd ?_|refine Qe ?_|refine Qf ?_)|((with_reducible refine Qo ?_ ?_);focus rfl)|((with_reducible first|refine QT 33 (l:=?_) ?_ ?_|refine QF 33 (l:=?_) ?_ ?_);rotate_left 1;focus (simp only [Zu,Nat.reduceSub,Nat.reduceBEq];with_reducible rfl))|((with_reducible first|refine QS (cfg_ok 279) Tab.none (s':=?_) ?_ ?_|refine QC (b:=?_) ?_ ?_);rotate_left 1;focus ((with_reducible refine QW ?_);simp only [Zg,seval,if_true,if_false,reduceCtorEq,Nat.reduceEqDiff,i1,i2,hLm,hg,htrm,j1,j2,Int.toNat_natCast];with_reducible rfl)))
    (((with_reducible refine RunK.wFz (cfg_ok 279) (Tab.none.at' 23 hct) mixed_ok [27] (tr:=?_) (s1:=?_) (rest:=?_) ?_ ?_ ?_);rotate_left 3;(focus ((with_reducible refine QW ?_);simp only [Zg,Zd,seval,if_true,if_false,reduceCtorEq,Nat.reduceEqDiff,drunF,devalF,devalB,valD,dregF_mk,List.contains_cons,List.contains_nil,i1,i2,hLm,hg,j0,j3,t00,Int.toNat_natCast];with_reducible rfl));focus ((with_reducible refine QK ?_);simp only [Zk];kernel_rfl));(refine ROps.opsT (cfg_ok 279) (T:=(Tab.none.at' 23 hct)) (s':=?_) ?_ ?_;rotate_left 1;focus (simp only [Zg,seval,if_true,if_false,reduceCtorEq,Nat.reduceEqDiff,i1,i2,hLm,hg,j0,j3,t00,Int.toNat_natCast];with_reducible rfl)))
    repeat' (first|with_reducible (first|refine Q1 ?_|refine Q2 ?_|refine Q3 ?_|refine Q4 ?_|refine Q5 ?_|refine Q6 ?_|refine Q7 ?_|refine Q8 ?_|refine Q9 ?_|refine Qa ?_|refine Qb ?_|refine Qc ?_|refine Qd ?_|refine Qe ?_|refine Qf ?_)|((with_reducible refine Qo ?_ ?_);focus rfl)|((with_reducible first|refine QT 33 (l:=?_) ?_ ?_|refine QF 33 (l:=?_) ?_ ?_);rotate_left 1;focus (simp only [Zu,Nat.reduceSub,Nat.reduceBEq];with_reducible rfl))|((with_reducible first|refine QS (cfg_ok 279) Tab.none (s':=?_) ?_ ?_|refine QC (b:=?_) ?_ ?_);rotate_left 1;focus ((with_reducible refine QW ?_);simp only [Zg,seval,if_true,if_false,reduceCtorEq,Nat.reduceEqDiff,b0,bk,w3,hw];with_reducible rfl))|((with_reducible refine QD (cfg_ok 279) Tab.none mixed_ok (tr:=?_) (s':=?_) ?_ ?_ ?_);rotate_left 2;(focus ((with_reducible refine QW ?_);simp only [Zg,Zd,seval,if_true,if_false,reduceCtorEq,Nat.reduceEqDiff,b0,bk,w3,hw];with_reducible rfl));focus ((with_reducible refine QK ?_);simp only [Zk];kernel_rfl)))
    refine roundK.on (i + 1) ⟨h,by omega⟩ ?_
    (repeat' (first|with_reducible refine Qn|((with_reducible refine Qr ?_ ?_);focus (first|with_reducible rfl|(simp only [Zz,Nat.reduceBEq];done)|rfl))|((with_reducible refine Qj (o':=?_) ?_ ?_ ?_);rotate_left 1;focus rfl)|((with_reducible refine Qw ?_ ?_);(focus (first|with_reducible rfl|(simp only [Zv];done)));focus (first|exact id|exact (fun h => nomatch h)|exact (fun _ => rfl)))))
   ·rw [if_neg ho,Int.add_zero] at t2
    rw [← t2]
    by_cases hcl:cr.length = 1
    ·have htr0:¬ 0 < tr.length:=fun hx => ho (by unfold oneB;simp [hcl,hx])
     have j1:((cr.length:Int) == 1) = true:=by rw [hcl];decide
     have j2:((tr.length:Int) > 0) = False:=eq_false (by omega)
     repeat' (first|with_reducible (first|refine Q1 ?_|refine Q2 ?_|refine Q3 ?_|refine Q4 ?_|refine Q5 ?_|refine Q6 ?_|refine Q7 ?_|refine Q8 ?_|refine Q9 ?_|refine Qa ?_|refine Qb ?_|refine Qc ?_|refine Qd ?_|refine Qe ?_|refine Qf ?_)|((with_reducible refine Qo ?_ ?_);focus rfl)|((with_reducible first|refine QT 33 (l:=?_) ?_ ?_|refine QF 33 (l:=?_) ?_ ?_);rotate_left 1;focus (simp only [Zu,Nat.reduceSub,Nat.reduceBEq];with_reducible rfl))|((with_reducible first|refine QS (cfg_ok 279) Tab.none (s':=?_) ?_ ?_|refine QC (b:=?_) ?_ ?_);rotate_left 1;focus ((with_reducible refine QW ?_);simp only [Zg,seval,if_true,if_false,reduceCtorEq,Nat.reduceEqDiff,i1,i2,hLm,hg,w1,Int.toNat_natCast];with_reducible rfl)))
     (((with_reducible refine RunK.wFz (cfg_ok 279) (Tab.none.at' 21 hcc) mixed_ok [25] (tr:=?_) (s1:=?_) (rest:=?_) ?_ ?_ ?_);rotate_left 3;(focus ((with_reducible refine QW ?_);simp only [Zg,Zd,seval,if_true,if_false,reduceCtorEq,Nat.reduceEqDiff,drunF,devalF,devalB,valD,dregF_mk,List.contains_cons,List.contains_nil,i1,i2,hLm,hg,Int.toNat_natCast];with_reducible rfl));focus ((with_reducible refine QK ?_);simp only [Zk];kernel_rfl));(refine ROps.opsT (cfg_ok 279) (T:=(Tab.none.at' 21 hcc)) (s':=?_) ?_ ?_;rotate_left 1;focus (simp only [Zg,seval,if_true,if_false,reduceCtorEq,Nat.reduceEqDiff,i1,i2,hLm,hg,Int.toNat_natCast];with_reducible rfl)))
     repeat' (first|with_reducible (first|refine Q1 ?_|refine Q2 ?_|refine Q3 ?_|refine Q4 ?_|refine Q5 ?_|refine Q6 ?_|refine Q7 ?_|refine Q8 ?_|refine Q9 ?_|refine Qa ?_|refine Qb ?_|refine Qc ?_|refine Qd ?_|refine Qe ?_|refine Qf ?_)|((with_reducible refine Qo ?_ ?_);focus rfl)|((with_reducible first|refine QT 33 (l:=?_) ?_ ?_|refine QF 33 (l:=?_) ?_ ?_);rotate_left 1;focus (simp only [Zu,Nat.reduceSub,Nat.reduceBEq];with_reducible rfl))|((with_reducible first|refine QS (cfg_ok 279) (Tab.none.at' 22 hno) (s':=?_) ?_ ?_|refine QC (b:=?_) ?_ ?_);rotate_left 1;focus ((with_reducible refine QW ?_);simp only [Zg,seval,if_true,if_false,reduceCtorEq,Nat.reduceEqDiff,i1,i2,hLm,hg,hcm,htrm,htm,w2,bk,k1,btt,b0,j1,j2,hw,Int.toNat_natCast];with_reducible rfl))|((with_reducible refine QD (cfg_ok 279) (Tab.none.at' 22 hno) mixed_ok (tr:=?_) (s':=?_) ?_ ?_ ?_);rotate_left 2;(focus ((with_reducible refine QW ?_);simp only [Zg,Zd,seval,if_true,if_false,reduceCtorEq,Nat.reduceEqDiff,i1,i2,hLm,hg,hcm,htrm,htm,w2,bk,k1,btt,b0,j1,j2,hw,Int.toNat_natCast];with_reducible rfl));focus ((with_reducible refine QK ?_);simp only [Zk];kernel_rfl)))
     refine roundK.on (i + 1) ⟨h,by omega⟩ ?_
     (repeat' (first|with_reducible refine Qn|((with_reducible refine Qr ?_ ?_);focus (first|with_reducible rfl|(simp only [Zz,Nat.reduceBEq];done)|rfl))|((with_reducible refine Qj (o':=?_) ?_ ?_ ?_);rotate_left 1;focus rfl)|((with_reducible refine Qw ?_ ?_);(focus (first|with_reducible rfl|(simp only [Zv];done)));focus (first|exact id|exact (fun h => nomatch h)|exact (fun _ => rfl)))))
    ·have j1:((cr.length:Int) == 1) = false:=by rw [beq_eq_false_iff_ne];omega
     repeat' (first|with_reducible (first|refine Q1 ?_|refine Q2 ?_|refine Q3 ?_|refine Q4 ?_|refine Q5 ?_|refine Q6 ?_|refine Q7 ?_|refine Q8 ?_|refine Q9 ?_|refine Qa ?_|refine Qb ?_|refine Qc ?_|refine Qd ?_|refine Qe ?_|refine Qf ?_)|((with_reducible refine Qo ?_ ?_);focus rfl)|((with_reducible first|refine QT 33 (l:=?_) ?_ ?_|refine QF 33 (l:=?_) ?_ ?_);rotate_left 1;focus (simp only [Zu,Nat.reduceSub,Nat.reduceBEq];with_reducible rfl))|((with_reducible first|refine QS (cfg_ok 279) Tab.none (s':=?_) ?_ ?_|refine QC (b:=?_) ?_ ?_);rotate_left 1;focus ((with_reducible refine QW ?_);simp only [Zg,seval,if_true,if_false,reduceCtorEq,Nat.reduceEqDiff,i1,i2,hLm,hg,w1,Int.toNat_natCast];with_reducible rfl)))
     (((with_reducible refine RunK.wFz (cfg_ok 279) (Tab.none.at' 21 hcc) mixed_ok [25] (tr:=?_) (s1:=?_) (rest:=?_) ?_ ?_ ?_);rotate_left 3;(focus ((with_reducible refine QW ?_);simp only [Zg,Zd,seval,if_true,if_false,reduceCtorEq,Nat.reduceEqDiff,drunF,devalF,devalB,valD,dregF_mk,List.contains_cons,List.contains_nil,i1,i2,hLm,hg,Int.toNat_natCast];with_reducible rfl));focus ((with_reducible refine QK ?_);simp only [Zk];kernel_rfl));(refine ROps.opsT (cfg_ok 279) (T:=(Tab.none.at' 21 hcc)) (s':=?_) ?_ ?_;rotate_left 1;focus (simp only [Zg,seval,if_true,if_false,reduceCtorEq,Nat.reduceEqDiff,i1,i2,hLm,hg,Int.toNat_natCast];with_reducible rfl)))
     repeat' (first|with_reducible (first|refine Q1 ?_|refine Q2 ?_|refine Q3 ?_|refine Q4 ?_|refine Q5 ?_|refine Q6 ?_|refine Q7 ?_|refine Q8 ?_|refine Q9 ?_|refine Qa ?_|refine Qb ?_|refine Qc ?_|refine Qd ?_|refine Qe ?_|refine Qf ?_)|((with_reducible refine Qo ?_ ?_);focus rfl)|((with_reducible first|refine QT 33 (l:=?_) ?_ ?_|refine QF 33 (l:=?_) ?_ ?_);rotate_left 1;focus (simp only [Zu,Nat.reduceSub,Nat.reduceBEq];with_reducible rfl))|((with_reducible first|refine QS (cfg_ok 279) (Tab.none.at' 22 hno) (s':=?_) ?_ ?_|refine QC (b:=?_) ?_ ?_);rotate_left 1;focus ((with_reducible refine QW ?_);simp only [Zg,seval,if_true,if_false,reduceCtorEq,Nat.reduceEqDiff,i1,i2,hLm,hg,hcm,htrm,htm,w2,bk,k1,btt,b0,j1,hw,Int.toNat_natCast];with_reducible rfl))|((with_reducible refine QD (cfg_ok 279) (Tab.none.at' 22 hno) mixed_ok (tr:=?_) (s':=?_) ?_ ?_ ?_);rotate_left 2;(focus ((with_reducible refine QW ?_);simp only [Zg,Zd,seval,if_true,if_false,reduceCtorEq,Nat.reduceEqDiff,i1,i2,hLm,hg,hcm,htrm,htm,w2,bk,k1,btt,b0,j1,hw,Int.toNat_natCast];with_reducible rfl));focus ((with_reducible refine QK ?_);simp only [Zk];kernel_rfl)))
     refine roundK.on (i + 1) ⟨h,by omega⟩ ?_
     (repeat' (first|with_reducible refine Qn|((with_reducible refine Qr ?_ ?_);focus (first|with_reducible rfl|(simp only [Zz,Nat.reduceBEq];done)|rfl))|((with_reducible refine Qj (o':=?_) ?_ ?_ ?_);rotate_left 1;focus rfl)|((with_reducible refine Qw ?_ ?_);(focus (first|with_reducible rfl|(simp only [Zv];done)));focus (first|exact id|exact (fun h => nomatch h)|exact (fun _ => rfl)))))
  ·have i1:((i:Int) < (L.length:Int)) = False:=eq_false (by omega)
   obtain rfl:i = L.length:=by omega
   repeat' (first|with_reducible (first|refine Q1 ?_|refine Q2 ?_|refine Q3 ?_|refine Q4 ?_|refine Q5 ?_|refine Q6 ?_|refine Q7 ?_|refine Q8 ?_|refine Q9 ?_|refine Qa ?_|refine Qb ?_|refine Qc ?_|refine Qd ?_|refine Qe ?_|refine Qf ?_)|((with_reducible refine Qo ?_ ?_);focus rfl)|((with_reducible first|refine QT 33 (l:=?_) ?_ ?_|refine QF 33 (l:=?_) ?_ ?_);rotate_left 1;focus (simp only [Zu,Nat.reduceSub,Nat.reduceBEq];with_reducible rfl))|((with_reducible first|refine QS (cfg_ok 279) Tab.none (s':=?_) ?_ ?_|refine QC (b:=?_) ?_ ?_);rotate_left 1;focus ((with_reducible refine QW ?_);simp only [Zg,seval,if_true,if_false,reduceCtorEq,Nat.reduceEqDiff,i1,hLm];with_reducible rfl))|((with_reducible refine QD (cfg_ok 279) Tab.none mixed_ok (tr:=?_) (s':=?_) ?_ ?_ ?_);rotate_left 2;(focus ((with_reducible refine QW ?_);simp only [Zg,Zd,seval,if_true,if_false,reduceCtorEq,Nat.reduceEqDiff,i1,hLm];with_reducible rfl));focus ((with_reducible refine QK ?_);simp only [Zk];kernel_rfl)))
   refine roundK.out () trivial ?_
   (repeat' (first|with_reducible refine Qn|((with_reducible refine Qr ?_ ?_);focus (first|with_reducible rfl|(simp only [Zz,Nat.reduceBEq];done)|rfl))|((with_reducible refine Qj (o':=?_) ?_ ?_ ?_);rotate_left 1;focus rfl)|((with_reducible refine Qw ?_ ?_);(focus (first|with_reducible rfl|(simp only [Zv];done)));focus (first|exact id|exact (fun h => nomatch h)|exact (fun _ => rfl)))))
 intro _ _
 rw [f3,f4]
 repeat' (first|with_reducible (first|refine Q1 ?_|refine Q2 ?_|refine Q3 ?_|refine Q4 ?_|refine Q5 ?_|refine Q6 ?_|refine Q7 ?_|refine Q8 ?_|refine Q9 ?_|refine Qa ?_|refine Qb ?_|refine Qc ?_|refine Qd ?_|refine Qe ?_|refine Qf ?_)|((with_reducible refine Qo ?_ ?_);focus rfl)|((with_reducible first|refine QT 33 (l:=?_) ?_ ?_|refine QF 33 (l:=?_) ?_ ?_);rotate_left 1;focus (simp only [Zu,Nat.reduceSub,Nat.reduceBEq];with_reducible rfl))|((with_reducible first|refine QS (cfg_ok 279) Tab.none (s':=?_) ?_ ?_|refine QC (b:=?_) ?_ ?_);rotate_left 1;focus ((with_reducible refine QW ?_);simp only [Zg,seval,if_true,if_false,reduceCtorEq,Nat.reduceEqDiff];with_reducible rfl))|((with_reducible refine QD (cfg_ok 279) Tab.none mixed_ok (tr:=?_) (s':=?_) ?_ ?_ ?_);rotate_left 2;(focus ((with_reducible refine QW ?_);simp only [Zg,Zd,seval,if_true,if_false,reduceCtorEq,Nat.reduceEqDiff];with_reducible rfl));focus ((with_reducible refine QK ?_);simp only [Zk];kernel_rfl)))
 have hRm:(R.map eCt).length = R.length:=List.length_map _
 refine RunK.loop (β:=Nat) (γ:=Unit) (fun i => ⟨[(3,.c (.val (.sl 1 (t.map eI)))),(8,.c (.val (.int n))),(14,.c (.val (.sl 2 (R.map eCt)))),(16,.c (.val (.sl 3 (S.map eK)))),(18,.c (.val (.int (prdC B)))),(22,.c (.val (.int n))),(23,.c (.val (.int ((t.length:Int) - 1)))),(29,.c (.val (.int (totF R i)))),(30,.c (.val (.int 0))),(31,.c (.val (.int i)))],[]⟩) (fun i => i ≤ R.length) (fun i => R.length - i)
  (fun _ => ⟨[(3,.c (.val (.sl 1 (t.map eI)))),(8,.c (.val (.int n))),(16,.c (.val (.sl 3 (S.map eK)))),(18,.c (.val (.int (prdC B)))),(22,.c (.val (.int n))),(23,.c (.val (.int ((t.length:Int) - 1)))),(29,.c (.val (.int (totF R R.length)))),(30,.c (.val (.int 0)))],[]⟩) (fun _ => True) 0 (Nat.zero_le _) ?_ ?_ ?_
 ·(repeat' (first|with_reducible refine Qn|((with_reducible refine Qr ?_ ?_);focus (first|with_reducible rfl|(simp only [Zz,Nat.reduceBEq,show totF R 0 = 0 from rfl,Int.natCast_zero];done)|rfl))|((with_reducible refine Qj (o':=?_) ?_ ?_ ?_);rotate_left 1;focus rfl)|((with_reducible refine Qw ?_ ?_);(focus (first|with_reducible rfl|(simp only [Zv,show totF R 0 = 0 from rfl,Int.natCast_zero];done)));focus (first|exact id|exact (fun h => nomatch h)|exact (fun _ => rfl)))))
 ·intro i hi
  have hi:i ≤ R.length:=hi
  have hw:=w64_succ (n:=i) (by omega)
  by_cases h:i < R.length
  ·have i1:((i:Int) < (R.length:Int)) = True:=eq_true (by omega)
   have i2:((0:Int) ≤ (i:Int)) = True:=eq_true (by omega)
   have e:R.getD i ([],0) = R[i]:=by rw [List.getD_eq_getElem?_getD,List.getElem?_eq_getElem h];rfl
   have hg:(R.map eCt)[i]? = some (eCt R[i]):=by rw [List.getElem?_map,List.getElem?_eq_getElem h];rfl
   have t1:totF R (i + 1) = totF R i + R[i].2:=by show totF R i + (R.getD i ([],0)).2 = _;rw [e]
   have m1:=totF_mono hrsm (i + 1) h
   have m2:=(totF_mono hrsm R.length (Nat.le_refl _)).2 (i + 1) h
   obtain ⟨⟨z,k⟩,hzk⟩:∃ q,q = R[i]:=⟨_,rfl⟩
   rw [← hzk] at hg t1
   simp only at t1
   have w1:w64 (totF R i + k) = totF R (i + 1):=by rw [← t1];exact w64_eq (by omega)
   simp only [eCt] at hg
   repeat' (first|with_reducible (first|refine Q1 ?_|refine Q2 ?_|refine Q3 ?_|refine Q4 ?_|refine Q5 ?_|refine Q6 ?_|refine Q7 ?_|refine Q8 ?_|refine Q9 ?_|refine Qa ?_|refine Qb ?_|refine Qc ?_|refine Qd ?_|refine Qe ?_|refine Qf ?_)|((with_reducible refine Qo ?_ ?_);focus rfl)|((with_reducible first|refine QT 33 (l:=?_) ?_ ?_|refine QF 33 (l:=?_) ?_ ?_);rotate_left 1;focus (simp only [Zu,Nat.reduceSub,Nat.reduceBEq];with_reducible rfl))|((with_reducible first|refine QS (cfg_ok 279) Tab.none (s':=?_) ?_ ?_|refine QC (b:=?_) ?_ ?_);rotate_left 1;focus ((with_reducible refine QW ?_);simp only [Zg,seval,if_true,if_false,reduceCtorEq,Nat.reduceEqDiff,i1,i2,hRm,hg,w1,hw,Int.toNat_natCast];with_reducible rfl))|((with_reducible refine QD (cfg_ok 279) Tab.none mixed_ok (tr:=?_) (s':=?_) ?_ ?_ ?_);rotate_left 2;(focus ((with_reducible refine QW ?_);simp only [Zg,Zd,seval,if_true,if_false,reduceCtorEq,Nat.reduceEqDiff,i1,i2,hRm,hg,w1,hw,Int.toNat_natCast];with_reducible rfl));focus ((with_reducible refine QK ?_);simp only [Zk];kernel_rfl)))
   refine roundK.on (i + 1) ⟨h,by omega⟩ ?_
   (repeat' (first|with_reducible refine Qn|((with_reducible refine Qr ?_ ?_);focus (first|with_reducible rfl|(simp only [Zz,Nat.reduceBEq];done)|rfl))|((with_reducible refine Qj (o':=?_) ?_ ?_ ?_);rotate_left 1;focus rfl)|((with_reducible refine Qw ?_ ?_);(focus (first|with_reducible rfl|(simp only [Zv];done)));focus (first|exact id|exact (fun h => nomatch h)|exact (fun _ => rfl)))))
  ·have i1:((i:Int) < (R.length:Int)) = False:=eq_false (by omega)
   obtain rfl:i = R.length:=by omega
   repeat' (first|with_reducible (first|refine Q1 ?_|refine Q2 ?_|refine Q3 ?_|refine Q4 ?_|refine Q5 ?_|refine Q6 ?_|refine Q7 ?_|refine Q8 ?_|refine Q9 ?_|refine Qa ?_|refine Qb ?_|refine Qc ?_|refine Qd ?_|refine Qe ?_|refine Qf ?_)|((with_reducible refine Qo ?_ ?_);focus rfl)|((with_reducible first|refine QT 33 (l:=?_) ?_ ?_|refine QF 33 (l:=?_) ?_ ?_);rotate_left 1;focus (simp only [Zu,Nat.reduceSub,Nat.reduceBEq];with_reducible rfl))|((with_reducible first|refine QS (cfg_ok 279) Tab.none (s':=?_) ?_ ?_|refine QC (b:=?_) ?_ ?_);rotate_left 1;focus ((with_reducible refine QW ?_);simp only [Zg,seval,if_true,if_false,reduceCtorEq,Nat.reduceEqDiff,i1,hRm];with_reducible rfl))|((with_reducible refine QD (cfg_ok 279) Tab.none mixed_ok (tr:=?_) (s':=?_) ?_ ?_ ?_);rotate_left 2;(focus ((with_reducible refine QW ?_);simp only [Zg,Zd,seval,if_true,if_false,reduceCtorEq,Nat.reduceEqDiff,i1,hRm];with_reducible rfl));focus ((with_reducible refine QK ?_);simp only [Zk];kernel_rfl)))
   refine roundK.out () trivial ?_
   (repeat' (first|with_reducible refine Qn|((with_reducible refine Qr ?_ ?_);focus (first|with_reducible rfl|(simp only [Zz,Nat.reduceBEq];done)|rfl))|((with_reducible refine Qj (o':=?_) ?_ ?_ ?_);rotate_left 1;focus rfl)|((with_reducible refine Qw ?_ ?_);(focus (first|with_reducible rfl|(simp only [Zv];done)));focus (first|exact id|exact (fun h => nomatch h)|exact (fun _ => rfl)))))
 intro _ _
 have f8':totF R R.length = n - 1:=by omega
 rw [f8']
 repeat' (first|with_reducible (first|refine Q1 ?_|refine Q2 ?_|refine Q3 ?_|refine Q4 ?_|refine Q5 ?_|refine Q6 ?_|refine Q7 ?_|refine Q8 ?_|refine Q9 ?_|refine Qa ?_|refine Qb ?_|refine Qc ?_|refine Qd ?_|refine Qe ?_|refine Qf ?_)|((with_reducible refine Qo ?_ ?_);focus rfl)|((with_reducible first|refine QT 33 (l:=?_) ?_ ?_|refine QF 33 (l:=?_) ?_ ?_);rotate_left 1;focus (simp only [Zu,Nat.reduceSub,Nat.reduceBEq];with_reducible rfl))|((with_reducible first|refine QS (cfg_ok 279) Tab.none (s':=?_) ?_ ?_|refine QC (b:=?_) ?_ ?_);rotate_left 1;focus ((with_reducible refine QW ?_);simp only [Zg,seval,if_true,if_false,reduceCtorEq,Nat.reduceEqDiff];with_reducible rfl))|((with_reducible refine QD (cfg_ok 279) Tab.none mixed_ok (tr:=?_) (s':=?_) ?_ ?_ ?_);rotate_left 2;(focus ((with_reducible refine QW ?_);simp only [Zg,Zd,seval,if_true,if_false,reduceCtorEq,Nat.reduceEqDiff];with_reducible rfl));focus ((with_reducible refine QK ?_);simp only [Zk];kernel_rfl)))
 have hSm:(S.map eK).length = S.length:=List.length_map _
 refine RunK.loop (β:=Nat) (γ:=Unit) (fun i => ⟨[(3,.c (.val (.sl 1 (t.map eI)))),(8,.c (.val (.int n))),(16,.c (.val (.sl 3 (S.map eK)))),(18,.c (.val (.int (prdC B)))),(22,.c (.val (.int n))),(23,.c (.val (.int ((t.length:Int) - 1)))),(29,.c (.val (.int (n - 1)))),(30,.c (.val (.int (totC S i)))),(32,.c (.val (.int i)))],[]⟩) (fun i => i ≤ S.length) (fun i => S.length - i)
  (fun _ => ⟨[(3,.c (.val (.sl 1 (t.map eI)))),(8,.c (.val (.int n))),(18,.c (.val (.int (prdC B)))),(22,.c (.val (.int n))),(23,.c (.val (.int ((t.length:Int) - 1)))),(29,.c (.val (.int (n - 1)))),(30,.c (.val (.int (totC S S.length))))],[]⟩) (fun _ => True) 0 (Nat.zero_le _) ?_ ?_ ?_
 ·(repeat' (first|with_reducible refine Qn|((with_reducible refine Qr ?_ ?_);focus (first|with_reducible rfl|(simp only [Zz,Nat.reduceBEq,show totC S 0 = 0 from rfl,Int.natCast_zero];done)|rfl))|((with_reducible refine Qj (o':=?_) ?_ ?_ ?_);rotate_left 1;focus rfl)|((with_reducible refine Qw ?_ ?_);(focus (first|with_reducible rfl|(simp only [Zv,show totC S 0 = 0 from rfl,Int.natCast_zero];done)));focus (first|exact id|exact (fun h => nomatch h)|exact (fun _ => rfl)))))
 ·intro i hi
  have hi:i ≤ S.length:=hi
  have hw:=w64_succ (n:=i) (by omega)
  by_cases h:i < S.length
  ·have i1:((i:Int) < (S.length:Int)) = True:=eq_true (by omega)
   have i2:((0:Int) ≤ (i:Int)) = True:=eq_true (by omega)
   have e:S.getD i (([],[]),0) = S[i]:=by rw [List.getD_eq_getElem?_getD,List.getElem?_eq_getElem h];rfl
   have hg:(S.map eK)[i]? = some (eK S[i]):=by rw [List.getElem?_map,List.getElem?_eq_getElem h];rfl
   have t1:totC S (i + 1) = totC S i + S[i].2:=by show totC S i + (S.getD i (([],[]),0)).2 = _;rw [e]
   have m1:=totC_bd hSb (i + 1) h
   obtain ⟨⟨⟨cr,tr⟩,k⟩,hzk⟩:∃ q,q = S[i]:=⟨_,rfl⟩
   rw [← hzk] at hg t1
   simp only at t1
   have w1:w64 (totC S i + k) = totC S (i + 1):=by rw [← t1];exact w64_eq (by omega)
   simp only [eK] at hg
   repeat' (first|with_reducible (first|refine Q1 ?_|refine Q2 ?_|refine Q3 ?_|refine Q4 ?_|refine Q5 ?_|refine Q6 ?_|refine Q7 ?_|refine Q8 ?_|refine Q9 ?_|refine Qa ?_|refine Qb ?_|refine Qc ?_|refine Qd ?_|refine Qe ?_|refine Qf ?_)|((with_reducible refine Qo ?_ ?_);focus rfl)|((with_reducible first|refine QT 33 (l:=?_) ?_ ?_|refine QF 33 (l:=?_) ?_ ?_);rotate_left 1;focus (simp only [Zu,Nat.reduceSub,Nat.reduceBEq];with_reducible rfl))|((with_reducible first|refine QS (cfg_ok 279) Tab.none (s':=?_) ?_ ?_|refine QC (b:=?_) ?_ ?_);rotate_left 1;focus ((with_reducible refine QW ?_);simp only [Zg,seval,if_true,if_false,reduceCtorEq,Nat.reduceEqDiff,i1,i2,hSm,hg,w1,hw,Int.toNat_natCast];with_reducible rfl))|((with_reducible refine QD (cfg_ok 279) Tab.none mixed_ok (tr:=?_) (s':=?_) ?_ ?_ ?_);rotate_left 2;(focus ((with_reducible refine QW ?_);simp only [Zg,Zd,seval,if_true,if_false,reduceCtorEq,Nat.reduceEqDiff,i1,i2,hSm,hg,w1,hw,Int.toNat_natCast];with_reducible rfl));focus ((with_reducible refine QK ?_);simp only [Zk];kernel_rfl)))
   refine roundK.on (i + 1) ⟨h,by omega⟩ ?_
   (repeat' (first|with_reducible refine Qn|((with_reducible refine Qr ?_ ?_);focus (first|with_reducible rfl|(simp only [Zz,Nat.reduceBEq];done)|rfl))|((with_reducible refine Qj (o':=?_) ?_ ?_ ?_);rotate_left 1;focus rfl)|((with_reducible refine Qw ?_ ?_);(focus (first|with_reducible rfl|(simp only [Zv];done)));focus (first|exact id|exact (fun h => nomatch h)|exact (fun _ => rfl)))))
  ·have i1:((i:Int) < (S.length:Int)) = False:=eq_false (by omega)
   obtain rfl:i = S.length:=by omega
   repeat' (first|with_reducible (first|refine Q1 ?_|refine Q2 ?_|refine Q3 ?_|refine Q4 ?_|refine Q5 ?_|refine Q6 ?_|refine Q7 ?_|refine Q8 ?_|refine Q9 ?_|refine Qa ?_|refine Qb ?_|refine Qc ?_|refine Qd ?_|refine Qe ?_|refine Qf ?_)|((with_reducible refine Qo ?_ ?_);focus rfl)|((with_reducible first|refine QT 33 (l:=?_) ?_ ?_|refine QF 33 (l:=?_) ?_ ?_);rotate_left 1;focus (simp only [Zu,Nat.reduceSub,Nat.reduceBEq];with_reducible rfl))|((with_reducible first|refine QS (cfg_ok 279) Tab.none (s':=?_) ?_ ?_|refine QC (b:=?_) ?_ ?_);rotate_left 1;focus ((with_reducible refine QW ?_);simp only [Zg,seval,if_true,if_false,reduceCtorEq,Nat.reduceEqDiff,i1,hSm];with_reducible rfl))|((with_reducible refine QD (cfg_ok 279) Tab.none mixed_ok (tr:=?_) (s':=?_) ?_ ?_ ?_);rotate_left 2;(focus ((with_reducible refine QW ?_);simp only [Zg,Zd,seval,if_true,if_false,reduceCtorEq,Nat.reduceEqDiff,i1,hSm];with_reducible rfl));focus ((with_reducible refine QK ?_);simp only [Zk];kernel_rfl)))
   refine roundK.out () trivial ?_
   (repeat' (first|with_reducible refine Qn|((with_reducible refine Qr ?_ ?_);focus (first|with_reducible rfl|(simp only [Zz,Nat.reduceBEq];done)|rfl))|((with_reducible refine Qj (o':=?_) ?_ ?_ ?_);rotate_left 1;focus rfl)|((with_reducible refine Qw ?_ ?_);(focus (first|with_reducible rfl|(simp only [Zv];done)));focus (first|exact id|exact (fun h => nomatch h)|exact (fun _ => rfl)))))
 intro _ _
 rw [f6]
 have htl:=lev8_len h8
 have hq1:(n == n) = true:=by simp
 have hw1:w64 (prdC B + 1) = n:=by rw [f1];exact w64_eq (by omega)
 have hw2:w64 (n - 1) = n - 1:=w64_eq (by omega)
 have hw3:w64 ((t.length:Int) - 1) = (t.length:Int) - 1:=w64_eq (by omega)
 have hq2:(n - 1 == n - 1) = true:=by simp
 have hq3:((t.length:Int) - 1 == (t.length:Int) - 1) = true:=by simp
 repeat' (first|with_reducible (first|refine Q1 ?_|refine Q2 ?_|refine Q3 ?_|refine Q4 ?_|refine Q5 ?_|refine Q6 ?_|refine Q7 ?_|refine Q8 ?_|refine Q9 ?_|refine Qa ?_|refine Qb ?_|refine Qc ?_|refine Qd ?_|refine Qe ?_|refine Qf ?_)|((with_reducible refine Qo ?_ ?_);focus rfl)|((with_reducible first|refine QT 33 (l:=?_) ?_ ?_|refine QF 33 (l:=?_) ?_ ?_);rotate_left 1;focus (simp only [Zu,Nat.reduceSub,Nat.reduceBEq];with_reducible rfl))|((with_reducible first|refine QS (cfg_ok 279) Tab.none (s':=?_) ?_ ?_|refine QC (b:=?_) ?_ ?_);rotate_left 1;focus ((with_reducible refine QW ?_);simp only [Zg,seval,if_true,if_false,reduceCtorEq,Nat.reduceEqDiff,hq1,hq2,hq3,hw1,hw2,hw3,htm];with_reducible rfl))|((with_reducible refine QD (cfg_ok 279) Tab.none mixed_ok (tr:=?_) (s':=?_) ?_ ?_ ?_);rotate_left 2;(focus ((with_reducible refine QW ?_);simp only [Zg,Zd,seval,if_true,if_false,reduceCtorEq,Nat.reduceEqDiff,hq1,hq2,hq3,hw1,hw2,hw3,htm];with_reducible rfl));focus ((with_reducible refine QK ?_);simp only [Zk];kernel_rfl)))
 (refine Ends.mk (by simp) (rs:=?_) (ks:=?_) hres hrts ?_ ?_ ?_;rotate_left 2;(focus (simp only [Ze,Zg,seval,if_true,if_false,reduceCtorEq,Nat.reduceEqDiff];with_reducible rfl));(focus simp);focus (first|with_reducible rfl|(simp only [Zv];done)))
theorem walk_FnCuts (v0:Value) (x0:List Int) (w:World) (h0:Rd RBytes w [v0] x0):Calls Tryz.prog 3 #[v0] w (RetV w (.bool true)):=law_code (fun code hc => a_FnCuts code hc) v0 x0 w h0
end Go.Proofs.YtgngidchldajhaaGreat
