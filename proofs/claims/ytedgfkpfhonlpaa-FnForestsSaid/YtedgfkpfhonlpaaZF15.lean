/- Lemmas (15). -/
import Derived.Test.YtedgfkpfhonlpaaZF7
import Derived.Test.YtedgfkpfhonlpaaZF12
import Derived.Test.YtedgfkpfhonlpaaZF14
set_option linter.unusedSimpArgs false
set_option linter.unusedVariables false
namespace Go.Proofs.Ytedgfkpfhonlpaa
open Go.RowKit
theorem tmf_zero {f g p:List (List Int)} (h:(p,(0:Int)) = tmfOf f g):forB f = true∧forB g = true∧sumLen f + sumLen g ≤ 8∧p = mulF f g:=by
 unfold tmfOf at h
 split at h
 ·rename_i hb
  rw [Bool.and_eq_true] at hb
  split at h
  ·rename_i hs
   injection h with e1 e2
   exact ⟨hb.1,hb.2,hs,e1⟩
  ·injection h with e1 e2;exact absurd e2 (by decide)
 ·injection h with e1 e2;exact absurd e2 (by decide)
theorem tmf_no {f g p:List (List Int)} {c:Int} (h:(p,c) = tmfOf f g) (hc:c ≠ 0):p = []:=by
 unfold tmfOf at h
 split at h
 ·split at h
  ·injection h with e1 e2;exact absurd e2 hc
  ·injection h with e1 e2
 ·injection h with e1 e2
theorem can_of {f:List (List Int)} (h:forB f = true):f.map canon = f:=by
 have:∀ b ∈ f,canon b = b:=forB_can h
 conv => rhs;rw [← List.map_id f]
 exact List.map_congr_left (fun b hb => by rw [this b hb];rfl)
theorem forB_of9 {f:List (List Int)} (h1:sumLen f ≤ 8) (h2:∀ t ∈ f,canT t = true) (h3:f.Pairwise fun a b => cmpT a b ≤ 0):forB f = true:=by
 unfold forB
 rw [Bool.and_eq_true,all_range]
 refine ⟨decide_eq_true h1,fun i hi => ?_⟩
 unfold okT
 rw [getD_at hi,h2 _ (List.getElem_mem _),Bool.true_and,Bool.or_eq_true]
 rcases Nat.eq_zero_or_pos i with h|h
 ·exact .inl (decide_eq_true h)
 ·refine .inr (decide_eq_true ?_)
  rw [getD_at (show i - 1 < f.length by omega)]
  exact List.pairwise_iff_getElem.1 h3 (i - 1) i (by omega) hi (by omega)
structure TmF (f g p:List (List Int)):Prop where
 fb:forB p = true
 sw:tmfOf g f = (p,0)
 fo:forOf (f ++ g) = (p,0)
 len:p.length = f.length + g.length
theorem tmf_all {f g p:List (List Int)} (h:(p,(0:Int)) = tmfOf f g):TmF f g p:=by
 obtain ⟨h1,h2,h3,rfl⟩:=tmf_zero h
 have hf:=forB_spec h1
 have hg:=forB_spec h2
 have hsum:sumLen (f ++ g) = sumLen f + sumLen g:=by simp [sumLen]
 refine ⟨?_,?_,?_,?_⟩
 ·refine forB_of9 ?_ ?_ ?_
  ·show sumLen (sortC cmpT (f ++ g)) ≤ 8
   rw [sumLen_perm (sortC_perm _),hsum];exact h3
  ·intro t ht
   have ht:t ∈ sortC cmpT (f ++ g):=ht
   rw [sortC_mem,List.mem_append] at ht
   exact ht.elim (hf.2.1 t) (hg.2.1 t)
  ·exact sortC_sorted cmpT_cmp (f ++ g)
 ·unfold tmfOf
  rw [h1,h2,if_pos (show (true && true) = true from rfl),if_pos (by omega)]
  show (sortC cmpT (g ++ f),(0:Int)) = (sortC cmpT (f ++ g),0)
  rw [sortC_congr cmpT_cmp (List.perm_append_comm (l₁:=g) (l₂:=f))]
 ·unfold forOf
  have hall:(f ++ g).all lev8 = true:=by
   rw [List.all_eq_true]
   intro b hb
   rw [List.mem_append] at hb
   exact hb.elim (for_lev8 h1 b) (for_lev8 h2 b)
  rw [if_pos hall,if_pos (by rw [hsum];exact h3),List.map_append,can_of h1,can_of h2]
  rfl
 ·show (sortC cmpT (f ++ g)).length = _
  rw [sortC_length,List.length_append]
theorem shw_ne {p:List (List Int)} (hp:p ≠ []) (h8:∀ b ∈ p,lev8 b = true):∃ l,shwF p = 91 :: l:=by
 obtain ⟨b,p',rfl⟩:=List.exists_cons_of_ne_nil hp
 exact ⟨_,rfl⟩
theorem rd_shw {p:List (List Int)} (h:forB p = true):rdG (shwF p) = (p,true)∧(shwF p).length ≤ 16:=by
 have h8:=for_lev8 h
 have hl:=shwF_len h8
 have hs:=(forB_spec h).1
 refine ⟨?_,by omega⟩
 have hr:=rf_show 7 p (fun t ht => ⟨lev8_lev (h8 t ht),lev8_len (h8 t ht)⟩) []
 have hr:rfRun (shwF p) ([],0) = some (p,0):=hr
 unfold rdG
 rw [hr];rfl
theorem rdF_G {s:List UInt8} (h:s.length ≤ 16):rdF s = rdG s:=by
 unfold rdF rdG
 rw [if_neg (by omega)]
 cases rfRun s ([],0) <;> rfl
theorem prs_shw {p:List (List Int)} (h:forB p = true):prsR (shwD p) (rdF (shwD p)) = (p,0):=by
 unfold shwD
 by_cases h0:p = []
 ·subst h0
  rw [if_pos rfl]
  unfold prsR
  rw [if_pos rfl]
 ·rw [if_neg h0]
  obtain ⟨l,hl⟩:=shw_ne h0 (for_lev8 h)
  obtain ⟨k1,k2⟩:=rd_shw h
  unfold prsR
  rw [rdF_G k2,k1,if_neg (by rw [hl];intro e;injection e with e1 e2;exact absurd e1 (by decide)),if_pos ⟨rfl,h0,h⟩]
structure PrF (z:List UInt8):Prop where
 same:(prsR z (rdG z)).2 = (prsR z (rdF z)).2
 no:(prsR z (rdF z)).2 ≠ 0→(prsR z (rdF z)).1 = []
 yes:(prsR z (rdF z)).2 = 0→forB (prsR z (rdF z)).1 = true∧shwD (prsR z (rdF z)).1 = z
theorem rdG_show {z:List UInt8} {L:List (List Int)} (h:rdG z = (L,true)) (hb:forB L = true):z = shwF L:=by
 unfold rdG at h
 cases hr:rfRun z ([],0) with
 | none => rw [hr] at h;injection h with _ e;exact absurd e (by decide)
 | some st =>
  rw [hr] at h
  injection h with e1 e2
  have h0:st.2 = 0:=of_decide_eq_true e2
  have:rfRun z ([],0) = some (L,0):=by rw [hr,← e1,← h0]
  exact show_read this (fun t ht => ⟨lev8_lev (for_lev8 hb t ht),lev8_len (for_lev8 hb t ht)⟩)
theorem prf_all (z:List UInt8):PrF z:=by
 have hcase:prsR z (rdG z) = prsR z (rdF z) ∨ (16 < z.length∧(prsR z (rdG z)).2 = 6):=by
  rcases Nat.lt_or_ge 16 z.length with h|h
  ·right
   refine ⟨h,?_⟩
   unfold prsR
   rw [if_neg (by intro e;rw [e] at h;simp at h)]
   split
   ·rename_i hh
    obtain ⟨⟨L,ok⟩,hL⟩:∃ p,p = rdG z:=⟨_,rfl⟩
    rw [← hL] at hh
    simp only at hh
    obtain ⟨rfl,_,hb⟩:=hh
    have hz:=rdG_show hL.symm hb
    have:=(rd_shw hb).2
    rw [← hz] at this
    omega
   ·rfl
  ·left;rw [rdF_G h]
 have hbig:16 < z.length→prsR z (rdF z) = ([],6):=fun h => by
  unfold prsR
  rw [if_neg (by intro e;rw [e] at h;simp at h)]
  have:rdF z = ([],false):=by unfold rdF;rw [if_pos h]
  rw [this,if_neg (fun h => absurd h.1 (by decide))]
 refine ⟨?_,?_,?_⟩
 ·rcases hcase with h|⟨h1,h2⟩
  ·rw [h]
  ·rw [h2,hbig h1]
 ·intro h
  unfold prsR at h ⊢
  split
  ·rfl
  ·rename_i h45
   rw [if_neg h45] at h
   split
   ·rename_i hh
    rw [if_pos hh] at h
    exact absurd rfl h
   ·rfl
 ·intro h
  unfold prsR at h ⊢
  by_cases h45:z = [45]
  ·rw [if_pos h45,h45]
   exact ⟨by decide,rfl⟩
  ·rw [if_neg h45] at h ⊢
   split
   ·rename_i hh
    obtain ⟨h1,h2,h3⟩:=hh
    refine ⟨h3,?_⟩
    have hle:z.length ≤ 16:=by
     rcases Nat.lt_or_ge 16 z.length with hgt|hle
     ·have:rdF z = ([],false):=by unfold rdF;rw [if_pos hgt]
      rw [this] at h1;exact absurd h1 (by decide)
     ·exact hle
    have hz:=rdG_show (L:=(rdF z).1) (by rw [← rdF_G hle];exact Prod.ext rfl h1) h3
    unfold shwD
    rw [if_neg h2];exact hz.symm
   ·rename_i hh
    rw [if_neg hh] at h
    exact absurd h (by decide)
end Go.Proofs.Ytedgfkpfhonlpaa
namespace Go.Proofs.Ytedgfkpfhonlpaa
open Go.RowKit
noncomputable def TFs:Tab Try.prog:=(Tab.none.add
 15 (tab1 codLL fun f => if sumLen f ≤ 1000000000∧f.length ≤ 1000000000 then some [.val (.bool (forB f))] else none) (tab1_ok fun f rs h => by split at h;cases h;rename_i hs;exact a_impl_IsForest f hs.1 hs.2;cases h)).add
 33 (tab2 codLL codLL fun f g => if f.length ≤ 1000000000∧g.length ≤ 1000000000∧sumLen f ≤ 1000000000 then some [.val (.bool (decide (f = g)))] else none) (tab2_ok fun f g rs h => by split at h;cases h;rename_i hs;exact a_same9 f g hs.1 hs.2.1 (fun t ht => by have:=sumLen_mem ht;omega);cases h)
set_option maxRecDepth 20000 in
set_option maxHeartbeats 16000000 in
theorem a_FnForests (code:List Int) (hc:Bytes code):AFn Try.prog 4 [eCode code] (· = [.val (.bool true)]):=by
 have hbg:=a_big code
 by_cases hbig:4096 < code.length
 ·rw [decide_eq_true hbig] at hbg
  simp only [eCode,dCode] at hbg
  refine AFn.of_runs (cfg_ok 162) Try.func4 rfl rfl rfl (by simp only [List.length_cons,List.length_nil];decide) ?_
  have hres:Try.f4.results.toList = [.tmp 2]:=rfl
  have hrts:Try.f4.resultTypes.toList = [4]:=rfl
  simp only [argRegs,argAV1,eL,eI,eLL,eB,Nat.zero_add,Nat.reduceAdd,eCode,dCode]
  intro M
  refine RunK.of ?_
  repeat' (first|with_reducible (first|refine Q1 ?_|refine Q2 ?_|refine Q3 ?_|refine Q4 ?_|refine Q5 ?_|refine Q6 ?_|refine Q7 ?_|refine Q8 ?_|refine Q9 ?_|refine Qa ?_|refine Qb ?_|refine Qc ?_|refine Qd ?_|refine Qe ?_|refine Qf ?_)|((with_reducible refine Qo ?_ ?_);focus rfl)|((with_reducible first|refine QT 24 (l:=?_) ?_ ?_|refine QF 24 (l:=?_) ?_ ?_);rotate_left 1;focus (simp only [Zu,Nat.reduceSub,Nat.reduceBEq];with_reducible rfl))|((with_reducible first|refine QS (cfg_ok 162) (Tab.none.at' 5 hbg) (s':=?_) ?_ ?_|refine QC (b:=?_) ?_ ?_);rotate_left 1;focus ((with_reducible refine QW ?_);simp only [Zg,seval,if_true,if_false,reduceCtorEq,Nat.reduceEqDiff];with_reducible rfl)))
  (refine Ends.mk (by simp) (rs:=?_) (ks:=?_) hres hrts ?_ ?_ ?_;rotate_left 2;(focus (simp only [Ze,Zg,seval,if_true,if_false,reduceCtorEq,Nat.reduceEqDiff];with_reducible rfl));(focus simp);focus (first|with_reducible rfl|(simp only [Zv];done)))
 rw [decide_eq_false hbig] at hbg
 have hl:code.length ≤ 1000000000:=by omega
 have hdr:=a_DrawTimesForests hc hl
 have hdp:=a_DrawParseForest hc hl
 have hzl:=drawPF_len hc
 obtain ⟨hf18,hg18⟩:=drawTF_ok hc
 obtain ⟨⟨f,g⟩,hp⟩:∃ p,p = drawTF code:=⟨_,rfl⟩
 rw [← hp] at hdr hf18 hg18
 simp only at hdr hf18 hg18
 have f1:=hf18.sum;have f2:=hf18.len;have g1:=hg18.sum;have g2:=hg18.len
 have hm1:=AFn.valT2 (a_impl_TimesForests f g (by omega) (by omega) (by omega) (by omega))
 have hm2:=AFn.valT2 (a_spec_TimesForests f g (by omega) (by omega) (by omega) (by omega))
 have hm3:=AFn.valT2 (a_impl_TimesForests g f (by omega) (by omega) (by omega) (by omega))
 have hsf:=a_spec_IsForest f (by omega) (by omega)
 have hfo:=AFn.valT2 (a_impl_ForestOf2 (f ++ g) (by unfold szII;rw [List.length_append];have:sumLen (f ++ g) = sumLen f + sumLen g:=by simp [sumLen]
                                                    omega))
 obtain ⟨⟨p,c⟩,hpc⟩:∃ p,p = tmfOf f g:=⟨_,rfl⟩
 rw [← hpc] at hm1 hm2
 obtain ⟨z,hz⟩:∃ z,z = drawPF code:=⟨_,rfl⟩
 rw [← hz] at hdp hzl
 have hq1:=AFn.valT2 (a_impl_ParseForest z hzl)
 have hq2:=AFn.valT2 (a_spec_ParseForest z hzl)
 have PF:=prf_all z
 rw [PF.same] at hq2
 have PN:=PF.no
 have PY:=PF.yes
 obtain ⟨⟨h,c5⟩,hpr⟩:∃ p,p = prsR z (rdF z):=⟨_,rfl⟩
 rw [← hpr] at hq1 hq2 PN PY
 simp only at hq1 hq2 PN PY
 obtain ⟨L2,hL2⟩:∃ L,L = (prsR z (rdG z)).1:=⟨_,rfl⟩
 rw [← hL2] at hq2
 clear PF hpr hL2 hp hz
 simp only [eCode,dCode,eLL] at hbg hdr hdp hm1 hm2 hm3 hsf hfo hq1 hq2
 have bcc:(c != c) = false:=by simp
 have b55:(c5 != c5) = false:=by simp
 have i1:(sumLen f ≤ 1000000000∧f.length ≤ 1000000000) = True:=eq_true (by omega)
 have bff:(forB f != forB f) = false:=by simp
 have hflm:(f.map eL).length = f.length:=List.length_map _
 have hglm:(g.map eL).length = g.length:=List.length_map _
 have hplm:(p.map eL).length = p.length:=List.length_map _
 have hhlm:(h.map eL).length = h.length:=List.length_map _
 have b00:((0:Int) != 0) = false:=by decide
 have b0e:((0:Int) == 0) = true:=by decide
 obtain ⟨C,hC⟩:∃ C,C = code.map eU:=⟨_,rfl⟩
 rw [← hC] at hbg hdr hdp
 refine AFn.of_runs (cfg_ok 162) Try.func4 rfl rfl rfl (by simp only [List.length_cons,List.length_nil];decide) ?_
 have hres:Try.f4.results.toList = [.tmp 2]:=rfl
 have hrts:Try.f4.resultTypes.toList = [4]:=rfl
 simp only [argRegs,argAV1,eL,eI,eLL,eB,Nat.zero_add,Nat.reduceAdd,eCode,dCode]
 intro M
 refine RunK.of ?_
 rw [← hC]
 repeat' (first|with_reducible (first|refine Q1 ?_|refine Q2 ?_|refine Q3 ?_|refine Q4 ?_|refine Q5 ?_|refine Q6 ?_|refine Q7 ?_|refine Q8 ?_|refine Q9 ?_|refine Qa ?_|refine Qb ?_|refine Qc ?_|refine Qd ?_|refine Qe ?_|refine Qf ?_)|((with_reducible refine Qo ?_ ?_);focus rfl)|((with_reducible first|refine QT 24 (l:=?_) ?_ ?_|refine QF 24 (l:=?_) ?_ ?_);rotate_left 1;focus (simp only [Zu,Nat.reduceSub,Nat.reduceBEq];with_reducible rfl))|((with_reducible first|refine QS (cfg_ok 162) ((((TFs.at' 5 hbg).at' 26 hdr).at' 27 hm1).at' 28 hm2) (s':=?_) ?_ ?_|refine QC (b:=?_) ?_ ?_);rotate_left 1;focus ((with_reducible refine QW ?_);simp only [Zg,seval,if_true,if_false,reduceCtorEq,Nat.reduceEqDiff,TFs];with_reducible rfl)))
 ((repeat' (first|with_reducible (first|refine Q1 ?_|refine Q2 ?_|refine Q3 ?_|refine Q4 ?_|refine Q5 ?_|refine Q6 ?_|refine Q7 ?_|refine Q8 ?_|refine Q9 ?_|refine Qa ?_|refine Qb ?_|refine Qc ?_|refine Qd ?_|refine Qe ?_|refine Qf ?_)|((with_reducible refine Qo ?_ ?_);focus rfl)|((with_reducible first|refine QT 24 (l:=?_) ?_ ?_|refine QF 24 (l:=?_) ?_ ?_);rotate_left 1;focus (simp only [Zu,Nat.reduceSub,Nat.reduceBEq];with_reducible rfl))|((with_reducible refine QC (b:=?_) ?_ ?_);rotate_left 1;focus ((with_reducible refine QW ?_);simp only [Zg,seval,if_true,if_false,reduceCtorEq,Nat.reduceEqDiff,TFs,codLL_d,i1,bcc];with_reducible rfl))));(with_reducible refine RunK.regCut (cfg_ok 162) (TFs.at' 29 hsf) 8 (s1:=?_) ?_ ?_);rotate_left 1;(focus ((with_reducible refine QW ?_);simp only [Zg,seval,if_true,if_false,reduceCtorEq,Nat.reduceEqDiff,TFs,codLL_d,i1,bcc];with_reducible rfl));simp only [List.toList_toArray,List.drop_succ_cons,List.drop_zero])
 refine ROps.boolNe (d:=51) Try.underlying4 rfl (by rfl) rfl (by decide) rfl rfl ?_
 rw [bff]
 (refine ROps.opsT (cfg_ok 162) (T:=Tab.none) (s':=?_) ?_ ?_;rotate_left 1;focus (simp only [Zg,seval,if_true,if_false,reduceCtorEq,Nat.reduceEqDiff];with_reducible rfl))
 refine RunK.fits (s0:=⟨[(0,.c (.val (.sl 1 C))),(3,.c (.val (.sl 1 (f.map eL)))),(4,.c (.val (.sl 1 (g.map eL)))),(5,.c (.val (.sl 1 (p.map eL)))),(6,.c (.val (.int c))),(52,.c (.val (.bool false)))],[]⟩) ?_ ?_
 ·(repeat' (first|with_reducible refine Qn|((with_reducible refine Qr ?_ ?_);focus (first|with_reducible rfl|(simp only [Zz,Nat.reduceBEq];done)|rfl))|((with_reducible refine Qj (o':=?_) ?_ ?_ ?_);rotate_left 1;focus rfl)|((with_reducible refine Qw ?_ ?_);(focus (first|with_reducible rfl|(simp only [Zv];done)));focus (first|exact id|exact (fun h => nomatch h)|exact (fun _ => rfl)))))
 refine RunK.condF rfl ?_
 refine Q3 ?_
 refine Q2 ?_
 refine Q1 ?_
 refine RunK.via ⟨[(0,.c (.val (.sl 1 C)))],[]⟩ ?_ ?_
 ·by_cases hc0:c = 0
  rotate_left
  ·have bc0:(c == 0) = false:=beq_eq_false_iff_ne.2 hc0
   have hpe:=tmf_no hpc hc0
   have i2:((p.length:Int) > 0) = False:=eq_false (by rw [hpe];simp)
   repeat' (first|with_reducible (first|refine Q1 ?_|refine Q2 ?_|refine Q3 ?_|refine Q4 ?_|refine Q5 ?_|refine Q6 ?_|refine Q7 ?_|refine Q8 ?_|refine Q9 ?_|refine Qa ?_|refine Qb ?_|refine Qc ?_|refine Qd ?_|refine Qe ?_|refine Qf ?_)|((with_reducible refine Qo ?_ ?_);focus rfl)|((with_reducible first|refine QT 24 (l:=?_) ?_ ?_|refine QF 24 (l:=?_) ?_ ?_);rotate_left 1;focus (simp only [Zu,Nat.reduceSub,Nat.reduceBEq];with_reducible rfl))|((with_reducible first|refine QS (cfg_ok 162) Tab.none (s':=?_) ?_ ?_|refine QC (b:=?_) ?_ ?_);rotate_left 1;focus ((with_reducible refine QW ?_);simp only [Zg,seval,if_true,if_false,reduceCtorEq,Nat.reduceEqDiff,bc0,hplm,i2];with_reducible rfl)))
   refine viaK.on ?_
   (repeat' (first|with_reducible refine Qn|((with_reducible refine Qr ?_ ?_);focus (first|with_reducible rfl|(simp only [Zz,Nat.reduceBEq];done)|rfl))|((with_reducible refine Qj (o':=?_) ?_ ?_ ?_);rotate_left 1;focus rfl)|((with_reducible refine Qw ?_ ?_);(focus (first|with_reducible rfl|(simp only [Zv];done)));focus (first|exact id|exact (fun h => nomatch h)|exact (fun _ => rfl)))))
  subst hc0
  have T:=tmf_all hpc
  have hp8:=forB_short T.fb
  have hps:=(forB_spec T.fb).1
  rw [T.sw] at hm3
  rw [T.fo] at hfo
  have hft:=a_ForestText p T.fb
  have hsl:(shwD p).length ≤ 1000:=by
   have h1:=shwF_len (for_lev8 T.fb)
   unfold shwD
   split
   ·decide
   ·omega
  have hpp:=AFn.valT2 (a_impl_ParseForest (shwD p) hsl)
  rw [prs_shw T.fb] at hpp
  have hTl:=T.len
  have hTb:=T.fb
  obtain ⟨x,hx⟩:∃ x,x = bstr (shwD p):=⟨_,rfl⟩
  rw [← hx] at hft hpp
  simp only [eLL,List.map_append] at hft hpp hfo
  have j1:(p.length ≤ 1000000000∧p.length ≤ 1000000000∧sumLen p ≤ 1000000000) = True:=eq_true (by omega)
  have j2:(sumLen p ≤ 1000000000∧p.length ≤ 1000000000) = True:=eq_true (by omega)
  have w1:w64 ((f.length:Int) + (g.length:Int)) = (p.length:Int):=by rw [w64_eq (by omega)];omega
  have bpp:((p.length:Int) != (p.length:Int)) = false:=by simp
  have q1:=big_mul (c:=24) (n:=f.length) (by omega) (by omega)
  have q2:=big_le (n:=f.length) (by omega)
  have q3:=big_mul (c:=24) (n:=f.length + g.length) (by omega) (by omega)
  have q4:=big_le (n:=f.length + g.length) (by omega)
  have dpp:decide (p = p) = true:=decide_eq_true rfl
  clear T hpc hx hm1 hm2 hdr hbg
  repeat' (first|with_reducible (first|refine Q1 ?_|refine Q2 ?_|refine Q3 ?_|refine Q4 ?_|refine Q5 ?_|refine Q6 ?_|refine Q7 ?_|refine Q8 ?_|refine Q9 ?_|refine Qa ?_|refine Qb ?_|refine Qc ?_|refine Qd ?_|refine Qe ?_|refine Qf ?_)|((with_reducible refine Qo ?_ ?_);focus rfl)|((with_reducible first|refine QT 24 (l:=?_) ?_ ?_|refine QF 24 (l:=?_) ?_ ?_);rotate_left 1;focus (simp only [Zu,Nat.reduceSub,Nat.reduceBEq];with_reducible rfl))|((with_reducible first|refine QS (cfg_ok 162) (((((TFs.at' 27 hm3).at' 30 hft).at' 31 hpp).at' 32 hfo)) (s':=?_) ?_ ?_|refine QC (b:=?_) ?_ ?_);rotate_left 1;focus ((with_reducible refine QW ?_);simp only [Zg,seval,if_true,if_false,reduceCtorEq,Nat.reduceEqDiff,TFs,codLL_d,b0e,b00,j1,j2,hTb,w1,bpp,q1,q2,q3,q4,dpp,hflm,hglm,hplm,Nat.zero_add];with_reducible rfl)))
  refine viaK.on ?_
  (repeat' (first|with_reducible refine Qn|((with_reducible refine Qr ?_ ?_);focus (first|with_reducible rfl|(simp only [Zz,Nat.reduceBEq];done)|rfl))|((with_reducible refine Qj (o':=?_) ?_ ?_ ?_);rotate_left 1;focus rfl)|((with_reducible refine Qw ?_ ?_);(focus (first|with_reducible rfl|(simp only [Zv];done)));focus (first|exact id|exact (fun h => nomatch h)|exact (fun _ => rfl)))))
 by_cases hc5:c5 = 0
 rotate_left
 ·have b5:(c5 != 0) = true:=bne_iff_ne.2 hc5
  have h5:((h.length:Int) == 0) = true:=by rw [PN hc5];rfl
  repeat' (first|with_reducible (first|refine Q1 ?_|refine Q2 ?_|refine Q3 ?_|refine Q4 ?_|refine Q5 ?_|refine Q6 ?_|refine Q7 ?_|refine Q8 ?_|refine Q9 ?_|refine Qa ?_|refine Qb ?_|refine Qc ?_|refine Qd ?_|refine Qe ?_|refine Qf ?_)|((with_reducible refine Qo ?_ ?_);focus rfl)|((with_reducible first|refine QT 24 (l:=?_) ?_ ?_|refine QF 24 (l:=?_) ?_ ?_);rotate_left 1;focus (simp only [Zu,Nat.reduceSub,Nat.reduceBEq];with_reducible rfl))|((with_reducible first|refine QS (cfg_ok 162) (((Tab.none.at' 34 hdp).at' 31 hq1).at' 35 hq2) (s':=?_) ?_ ?_|refine QC (b:=?_) ?_ ?_);rotate_left 1;focus ((with_reducible refine QW ?_);simp only [Zg,seval,if_true,if_false,reduceCtorEq,Nat.reduceEqDiff,b55,b5,hhlm,h5];with_reducible rfl)))
  (refine Ends.mk (by simp) (rs:=?_) (ks:=?_) hres hrts ?_ ?_ ?_;rotate_left 2;(focus (simp only [Ze,Zg,seval,if_true,if_false,reduceCtorEq,Nat.reduceEqDiff];with_reducible rfl));(focus simp);focus (first|with_reducible rfl|(simp only [Zv];done)))
 subst hc5
 obtain ⟨k1,k2⟩:=PY rfl
 have hft:=a_ForestText h k1
 rw [k2] at hft
 simp only [eLL] at hft
 repeat' (first|with_reducible (first|refine Q1 ?_|refine Q2 ?_|refine Q3 ?_|refine Q4 ?_|refine Q5 ?_|refine Q6 ?_|refine Q7 ?_|refine Q8 ?_|refine Q9 ?_|refine Qa ?_|refine Qb ?_|refine Qc ?_|refine Qd ?_|refine Qe ?_|refine Qf ?_)|((with_reducible refine Qo ?_ ?_);focus rfl)|((with_reducible first|refine QT 24 (l:=?_) ?_ ?_|refine QF 24 (l:=?_) ?_ ?_);rotate_left 1;focus (simp only [Zu,Nat.reduceSub,Nat.reduceBEq];with_reducible rfl))|((with_reducible first|refine QS (cfg_ok 162) (((Tab.none.at' 34 hdp).at' 31 hq1).at' 35 hq2) (s':=?_) ?_ ?_|refine QC (b:=?_) ?_ ?_);rotate_left 1;focus ((with_reducible refine QW ?_);simp only [Zg,seval,if_true,if_false,reduceCtorEq,Nat.reduceEqDiff,b55,b00];with_reducible rfl)))
 repeat' (first|with_reducible (first|refine Q1 ?_|refine Q2 ?_|refine Q3 ?_|refine Q4 ?_|refine Q5 ?_|refine Q6 ?_|refine Q7 ?_|refine Q8 ?_|refine Q9 ?_|refine Qa ?_|refine Qb ?_|refine Qc ?_|refine Qd ?_|refine Qe ?_|refine Qf ?_)|((with_reducible refine Qo ?_ ?_);focus rfl)|((with_reducible first|refine QT 24 (l:=?_) ?_ ?_|refine QF 24 (l:=?_) ?_ ?_);rotate_left 1;focus (simp only [Zu,Nat.reduceSub,Nat.reduceBEq];with_reducible rfl))|((with_reducible first|refine QS (cfg_ok 162) (Tab.none.at' 30 hft) (s':=?_) ?_ ?_|refine QC (b:=?_) ?_ ?_);rotate_left 1;focus ((with_reducible refine QW ?_);simp only [Zg,seval,if_true,if_false,reduceCtorEq,Nat.reduceEqDiff,b00];with_reducible rfl)))
 ((repeat' (first|with_reducible (first|refine Q1 ?_|refine Q2 ?_|refine Q3 ?_|refine Q4 ?_|refine Q5 ?_|refine Q6 ?_|refine Q7 ?_|refine Q8 ?_|refine Q9 ?_|refine Qa ?_|refine Qb ?_|refine Qc ?_|refine Qd ?_|refine Qe ?_|refine Qf ?_)|((with_reducible refine Qo ?_ ?_);focus rfl)|((with_reducible first|refine QT 24 (l:=?_) ?_ ?_|refine QF 24 (l:=?_) ?_ ?_);rotate_left 1;focus (simp only [Zu,Nat.reduceSub,Nat.reduceBEq];with_reducible rfl))|((with_reducible refine QC (b:=?_) ?_ ?_);rotate_left 1;focus ((with_reducible refine QW ?_);simp only [Zg,seval,if_true,if_false,reduceCtorEq,Nat.reduceEqDiff,b0e];with_reducible rfl))));(with_reducible refine RunK.regCut (cfg_ok 162) Tab.none 5 (s1:=?_) ?_ ?_);rotate_left 1;(focus ((with_reducible refine QW ?_);simp only [Zg,seval,if_true,if_false,reduceCtorEq,Nat.reduceEqDiff,b0e];with_reducible rfl));simp only [List.toList_toArray,List.drop_succ_cons,List.drop_zero])
 refine ROps.bEq (d:=160) (p:=z) (q:=z) rfl (by rfl) rfl (by decide) rfl rfl ?_
 rw [show (z == z) = true by simp]
 (refine ROps.opsT (cfg_ok 162) (T:=Tab.none) (s':=?_) ?_ ?_;rotate_left 1;focus (simp only [Zg,seval,if_true,if_false,reduceCtorEq,Nat.reduceEqDiff];with_reducible rfl))
 repeat' (first|with_reducible (first|refine Q1 ?_|refine Q2 ?_|refine Q3 ?_|refine Q4 ?_|refine Q5 ?_|refine Q6 ?_|refine Q7 ?_|refine Q8 ?_|refine Q9 ?_|refine Qa ?_|refine Qb ?_|refine Qc ?_|refine Qd ?_|refine Qe ?_|refine Qf ?_)|((with_reducible refine Qo ?_ ?_);focus rfl)|((with_reducible first|refine QT 24 (l:=?_) ?_ ?_|refine QF 24 (l:=?_) ?_ ?_);rotate_left 1;focus (simp only [Zu,Nat.reduceSub,Nat.reduceBEq];with_reducible rfl))|((with_reducible first|refine QS (cfg_ok 162) Tab.none (s':=?_) ?_ ?_|refine QC (b:=?_) ?_ ?_);rotate_left 1;focus ((with_reducible refine QW ?_);simp only [Zg,seval,if_true,if_false,reduceCtorEq,Nat.reduceEqDiff];with_reducible rfl)))
 (refine Ends.mk (by simp) (rs:=?_) (ks:=?_) hres hrts ?_ ?_ ?_;rotate_left 2;(focus (simp only [Ze,Zg,seval,if_true,if_false,reduceCtorEq,Nat.reduceEqDiff];with_reducible rfl));(focus simp);focus (first|with_reducible rfl|(simp only [Zv];done)))
theorem walk_FnForests (v0:Value) (x0:List Int) (w:World) (h0:Rd RBytes w [v0] x0):Calls Try.prog 4 #[v0] w (RetV w (.bool true)):=law_code (fun code hc => a_FnForests code hc) v0 x0 w h0
end Go.Proofs.Ytedgfkpfhonlpaa
