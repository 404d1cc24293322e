/- Lemmas (10). -/
import Derived.Test.YtgngidchldajhaaGreatZC1
import Derived.Test.YtgngidchldajhaaGreatZC2
import Derived.Test.YtgngidchldajhaaGreatZC5
import Derived.Test.YtgngidchldajhaaGreatZC6
import Derived.Test.YtgngidchldajhaaGreatZC7
import Derived.Test.YtgngidchldajhaaGreatZC9
set_option linter.unusedSimpArgs false
set_option linter.unusedVariables false
namespace Go.Proofs.YtgngidchldajhaaGreat
open Go.RowKit
theorem foldS_len {α:Type} (f:α→List Spl) (m:α→Nat):∀ (bs:List α) (A:List Spl),(∀ b ∈ bs,(f b).length ≤ 2 ^ m b)→(foldS A (bs.map f)).length ≤ A.length * 2 ^ (bs.map m).sum
 | [],A,_ => by simp [foldS]
 | b :: bs,A,h => by
  have h1:=foldS_len f m bs (A.flatMap fun s => (f b).map (catS s)) (fun x hx => h x (by simp [hx]))
  have h2:(A.flatMap fun s => (f b).map (catS s)).length = A.length * (f b).length:=by
   clear h1
   induction A with
   | nil => simp
   | cons a A ih => rw [List.flatMap_cons,List.length_append,ih,List.length_map,List.length_cons,Nat.succ_mul,Nat.add_comm]
  rw [h2] at h1
  have e:((b :: bs).map m).sum = m b + (bs.map m).sum:=by simp
  rw [e,Nat.pow_add]
  refine Nat.le_trans h1 ?_
  rw [← Nat.mul_assoc]
  exact Nat.mul_le_mul_right _ (Nat.mul_le_mul_left _ (h b (by simp)))
theorem split_len:∀ (n:Nat) {t:List Int},t.length ≤ n→LevP t→(split t).length ≤ 2 ^ t.length
 | 0,t,hn,h => by have:=h.pos;omega
 | n + 1,t,hn,h => by
  rw [split_eq h,List.length_append,List.length_map,List.length_singleton]
  have h1:=foldS_len split List.length (brs t) [([],[])] (fun b hb => split_len n (by have:=brs_short h b hb;omega) (brs_lev h b hb))
  have hb:=sumLen_brs h
  have h2:(prodS ((brs t).map split)).length ≤ 2 ^ sumLen (brs t):=by
   have:(foldS [([],[])] ((brs t).map split)).length ≤ 1 * 2 ^ sumLen (brs t):=h1
   rw [Nat.one_mul] at this;exact this
  rw [← hb,Nat.pow_succ]
  have:0 < 2 ^ sumLen (brs t):=Nat.pow_pos (by decide)
  omega
theorem prod_len {bs:List (List Int)} (h:∀ b ∈ bs,LevP b) (h8:sumLen bs ≤ 8):(prodS (bs.map split)).length ≤ 256:=by
 have h1:=foldS_len split List.length bs [([],[])] (fun b hb => split_len _ (Nat.le_refl _) (h b hb))
 have h2:(prodS (bs.map split)).length ≤ 2 ^ sumLen bs:=by
  have:(foldS [([],[])] (bs.map split)).length ≤ 1 * 2 ^ sumLen bs:=h1
  rw [Nat.one_mul] at this;exact this
 exact Nat.le_trans h2 (Nat.pow_le_pow_right (by decide) h8)
theorem prod_good {bs:List (List Int)} (h:∀ b ∈ bs,LevP b):∀ s ∈ prodS (bs.map split),GoodS (sumLen bs) s:=fun s hs => by
 have:=foldS_good split List.length bs [([],[])] 0 (fun b hb => split_good _ (Nat.le_refl _) (h b hb)) (fun s hs => by
  obtain rfl:=List.mem_singleton.1 hs
  exact ⟨by simp,rfl⟩) s hs
 rw [Nat.zero_add] at this
 exact this
theorem GoodS.nrm {n:Nat} {s:Spl} (h:GoodS n s):GoodS n (nrmS s):=by
 refine ⟨fun t ht => h.1 t ?_,?_⟩
 ·unfold nrmS at ht
  simp only [List.mem_append,sortC_mem] at ht ⊢
  exact ht
 ·unfold nrmS
  simp only
  rw [sumLen_perm (sortC_perm _),sumLen_perm (sortC_perm _)]
  exact h.2
theorem len_sum:∀ {f:List (List Int)},(∀ t ∈ f,LevP t)→f.length ≤ sumLen f
 | [],_ => Nat.le_refl _
 | t :: f,h => by
  have h1:=(h t (by simp)).pos
  have h2:=len_sum (f:=f) (fun x hx => h x (by simp [hx]))
  have:sumLen (t :: f) = t.length + sumLen f:=rfl
  rw [this,List.length_cons];omega
theorem GoodS.ha {n:Nat} {s:Spl} (h:GoodS n s) (hn:n ≤ 9):HaS s:=by
 have h1:=len_sum (f:=s.1) (fun t ht => (h.1 t (by simp [ht])).1)
 have h2:=len_sum (f:=s.2) (fun t ht => (h.1 t (by simp [ht])).1)
 have h3:=h.2
 exact ⟨⟨by omega,by omega⟩,⟨by omega,by omega⟩⟩
theorem gath_ok {L:List Spl} {n:Nat} (hL:∀ s ∈ L,GoodS n s) (hn:n ≤ 9):∀ p ∈ gathS L,1 ≤ p.2∧HaS p.1:=fun p hp => by
 have h:=gathS_is L
 refine ⟨(h.cnt p hp).1,?_⟩
 obtain ⟨s,hs,e⟩:=List.mem_map.1 (h.key p hp)
 rw [← e]
 exact (hL s hs).nrm.ha hn
theorem gath_good {L:List Spl} {n:Nat} (hL:∀ s ∈ L,GoodS n s):∀ p ∈ gathS L,1 ≤ p.2∧p.2 ≤ L.length∧GoodS n p.1:=fun p hp => by
 have h:=gathS_is L
 have hc:=h.cnt p hp
 rw [List.length_map] at hc
 refine ⟨hc.1,hc.2,?_⟩
 obtain ⟨s,hs,e⟩:=List.mem_map.1 (h.key p hp)
 rw [← e]
 exact (hL s hs).nrm
theorem gath_exp (L:List Spl):(expN (gathS L)).length = L.length:=by rw [(gathS_is L).2.length_eq,List.length_map]
theorem gath_one:gathS [([],[])] = [(([],[]),1)]:=IsN.ext cmpS_cmp (gathS_is _) one_is (List.Perm.refl _)
theorem prodS_snoc (Ls:List (List Spl)) (L:List Spl):prodS (Ls ++ [L]) = (prodS Ls).flatMap fun s => L.map (catS s):=by unfold prodS;rw [List.foldl_append];rfl
theorem times_gath (Ls:List (List Spl)) (L:List Spl):timesN cmpS mulS (gathS (prodS Ls)) (gathS L) = gathS (prodS (Ls ++ [L])):=by
 refine IsN.ext cmpS_cmp (IsN.times cmpS_cmp mulS (gathS_is _) (gathS_is _)) (gathS_is _) ?_
 rw [prodS_snoc,nrm_flat]
theorem mem_take {α:Type} {l:List α} {i:Nat} {P:α→Prop} (h:∀ b ∈ l,P b):∀ b ∈ l.take i,P b:=fun b hb => h b (List.mem_of_mem_take hb)
theorem sumLen_take' (l:List (List Int)) (i:Nat):sumLen (l.take i) ≤ sumLen l:=by
 conv => rhs;rw [← List.take_append_drop i l,sumLen_append]
 omega
theorem a_l03Parts (t:List Int) (h:LevP t) (hl:t.length ≤ 1000):AFn Tryz.prog 146 [eL t] (· = [.own 1 ((brs t).map eL) true]) :=
 afn_L_oo (enters_of Tryz.func146 rfl rfl) (fun u w h' => c_spec_l03Parts u t w h' h (by omega))
theorem a_l03Branches (t:List Int) (h:LevP t) (hc:canon t = t) (hl:t.length ≤ 1000):AFn Tryz.prog 208 [eL t] (· = [.own 1 ((sortC cmpT (brs t)).map eL) true]):=by
 have h1:=a_l03CanonB t h hl
 have h2:=a_l03Parts t h hl
 have hb:=sumLen_brs h
 have h3:=a_l03Sort (brs t) (by have:=brs_few h;omega) (fun b hb' => by have:=sumLen_mem hb';omega)
 rw [hc] at h1
 simp only [eL,eLL] at h1 h2 h3
 refine AFn.of_runs (cfg_ok 7) Tryz.func208 rfl rfl rfl (by simp only [List.length_cons,List.length_nil];decide) ?_
 have hres:Tryz.f208.results.toList = [.tmp 2]:=rfl
 have hrts:Tryz.f208.resultTypes.toList = [31]:=rfl
 simp only [argRegs,argAV1,eL]
 intro M
 refine RunK.of ?_
 repeat' (first|with_reducible (first|refine Q1 ?_|refine Q2 ?_|refine Q3 ?_|refine Q4 ?_|refine Q5 ?_|refine Q6 ?_|refine Q7 ?_|refine Q8 ?_|refine Q9 ?_|refine Qa ?_|refine Qb ?_|refine Qc ?_|refine Qd ?_|refine Qe ?_|refine Qf ?_)|((with_reducible refine Qo ?_ ?_);focus rfl)|((with_reducible first|refine QT 3 (l:=?_) ?_ ?_|refine QF 3 (l:=?_) ?_ ?_);rotate_left 1;focus (simp only [Zu,Nat.reduceSub,Nat.reduceBEq];with_reducible rfl))|((with_reducible first|refine QS (cfg_ok 7) (((Tab.none.at' 75 h1).at' 146 h2).at' 222 h3) (s':=?_) ?_ ?_|refine QC (b:=?_) ?_ ?_);rotate_left 1;focus ((with_reducible refine QW ?_);simp only [Zg,seval,Nat.reduceEqDiff];with_reducible rfl)))
 (refine Ends.mk (by simp) (rs:=?_) (ks:=?_) hres hrts ?_ ?_ ?_;rotate_left 2;(focus (simp only [Ze,Zg,seval,Nat.reduceEqDiff,forest];with_reducible rfl));(focus simp);focus (first|with_reducible rfl|(simp only [Zv,forest];done)))
set_option maxHeartbeats 4000000 in
theorem a_l05Forest_of (n:Nat) (hT:∀ b,LevP b→canon b = b→b.length ≤ n→AFn Tryz.prog 144 [eL b] (· = [.val (.sl 3 ((gathS (split b)).map eSp))])) (bs:List (List Int)) (hb:∀ b ∈ bs,LevP b∧canon b = b∧b.length ≤ n) (h8:sumLen bs ≤ 8) :
  AFn Tryz.prog 95 [eLL bs] (· = [.val (.sl 3 ((gathS (prodS (bs.map split))).map eSp))]):=by
 have hlev:∀ b ∈ bs,LevP b:=fun b hb' => (hb b hb').1
 have hbl:=len_sum hlev
 refine AFn.of_runs (cfg_ok 21) Tryz.func95 rfl rfl rfl (by simp only [List.length_cons,List.length_nil];decide) ?_
 have hres:Tryz.f95.results.toList = [.tmp 2]:=rfl
 have hrts:Tryz.f95.resultTypes.toList = [50]:=rfl
 simp only [argRegs,argAV1,eLL]
 intro M
 refine RunK.of ?_
 repeat' (first|with_reducible (first|refine Q1 ?_|refine Q2 ?_|refine Q3 ?_|refine Q4 ?_|refine Q5 ?_|refine Q6 ?_|refine Q7 ?_|refine Q8 ?_|refine Q9 ?_|refine Qa ?_|refine Qb ?_|refine Qc ?_|refine Qd ?_|refine Qe ?_|refine Qf ?_)|((with_reducible refine Qo ?_ ?_);focus rfl)|((with_reducible first|refine QT 5 (l:=?_) ?_ ?_|refine QF 5 (l:=?_) ?_ ?_);rotate_left 1;focus (simp only [Zu,Nat.reduceSub,Nat.reduceBEq];with_reducible rfl))|((with_reducible first|refine QS (cfg_ok 21) Tab.none (s':=?_) ?_ ?_|refine QC (b:=?_) ?_ ?_);rotate_left 1;focus ((with_reducible refine QW ?_);simp only [Zg,seval,Nat.reduceEqDiff];with_reducible rfl)))
 refine RunK.frz 3 ?_
 refine RunK.fits (s0:=⟨[(0,.c (.val (.sl 1 (bs.map eL)))),(3,.c (.val (.sl 3 [[.sl 1 [],.sl 1 [],.int 1]]))),(4,.c (.val (.int 0)))],[]⟩) ?_ ?_
 ·(repeat' (first|with_reducible refine Qn|((with_reducible refine Qr ?_ ?_);focus (first|with_reducible rfl|(simp only [Zz,St.frz,frzR,look,AV.frz,AC.frz,drop];done)|rfl))|((with_reducible refine Qj (o':=?_) ?_ ?_ ?_);rotate_left 1;focus rfl)|((with_reducible refine Qw ?_ ?_);(focus (first|with_reducible rfl|(simp only [Zv,St.frz,frzR,frzH,look,AV.frz,AC.frz,drop];done)));focus (first|exact id|exact (fun h => nomatch h)|exact (fun _ => rfl)))))
 refine RunK.loop (β:=Nat) (γ:=Unit) (fun i => ⟨[(0,.c (.val (.sl 1 (bs.map eL)))),(3,.c (.val (.sl 3 ((gathS (prodS ((bs.take i).map split))).map eSp)))),(4,.c (.val (.int i)))],[]⟩) (fun i => i ≤ bs.length) (fun i => bs.length - i)
  (fun _ => ⟨[(3,.c (.val (.sl 3 ((gathS (prodS (bs.map split))).map eSp))))],[]⟩) (fun _ => True) 0 (Nat.zero_le _) ?_ ?_ ?_
 ·(repeat' (first|with_reducible refine Qn|((with_reducible refine Qr ?_ ?_);focus (first|with_reducible rfl|(simp only [Zz,Nat.reduceBEq,List.take_zero,List.map_nil,show prodS [] = [([],[])] from rfl,gath_one,List.map_cons,eSp,Int.natCast_zero];done)|rfl))|((with_reducible refine Qj (o':=?_) ?_ ?_ ?_);rotate_left 1;focus rfl)|((with_reducible refine Qw ?_ ?_);(focus (first|with_reducible rfl|(simp only [Zv,List.take_zero,List.map_nil,show prodS [] = [([],[])] from rfl,gath_one,List.map_cons,eSp,Int.natCast_zero];done)));focus (first|exact id|exact (fun h => nomatch h)|exact (fun _ => rfl)))))
 ·intro i hi
  have hi:i ≤ bs.length:=hi
  have hw:=w64_succ (n:=i) (by omega)
  by_cases h:i < bs.length
  ·have i1:((i:Int) < (bs.length:Int)) = True:=eq_true (by omega)
   have i2:((0:Int) ≤ (i:Int)) = True:=eq_true (by omega)
   obtain ⟨b,hbe⟩:∃ b,b = bs[i]:=⟨_,rfl⟩
   have hmem:b ∈ bs:=by rw [hbe];exact List.getElem_mem _
   have hg:(bs.map eL)[i]? = some [.sl 1 (b.map eI)]:=by rw [map_get h,hbe];rfl
   have hle:(bs.map eL).length = bs.length:=List.length_map _
   obtain ⟨hb1,hb2,hb3⟩:=hb b hmem
   have hb4:b.length ≤ 8:=by have:=sumLen_mem hmem;omega
   have ht:=hT b hb1 hb2 hb3
   have hX:=sumLen_take' bs i
   have hlevX:=mem_take (i:=i) hlev
   have htm:=a_l05Times (gathS (prodS ((bs.take i).map split))) (gathS (split b)) (gath_ok (prod_good hlevX) (by omega)) (gath_ok (split_good _ (Nat.le_refl _) hb1) (by omega))
    (by rw [gath_exp];have:=prod_len hlevX (by omega);omega)
    (by rw [gath_exp];have:=split_len _ (Nat.le_refl _) hb1;have h2:2 ^ b.length ≤ 2 ^ 8:=Nat.pow_le_pow_right (by decide) hb4;omega)
   rw [times_gath] at htm
   have htk:(bs.take (i + 1)).map split = (bs.take i).map split ++ [split b]:=by rw [hbe,List.take_succ_eq_append_getElem h,List.map_append];rfl
   simp only [eL] at ht
   repeat' (first|with_reducible (first|refine Q1 ?_|refine Q2 ?_|refine Q3 ?_|refine Q4 ?_|refine Q5 ?_|refine Q6 ?_|refine Q7 ?_|refine Q8 ?_|refine Q9 ?_|refine Qa ?_|refine Qb ?_|refine Qc ?_|refine Qd ?_|refine Qe ?_|refine Qf ?_)|((with_reducible refine Qo ?_ ?_);focus rfl)|((with_reducible first|refine QT 5 (l:=?_) ?_ ?_|refine QF 5 (l:=?_) ?_ ?_);rotate_left 1;focus (simp only [Zu,Nat.reduceSub,Nat.reduceBEq];with_reducible rfl))|((with_reducible first|refine QS (cfg_ok 21) ((Tab.none.at' 144 ht).at' 169 htm) (s':=?_) ?_ ?_|refine QC (b:=?_) ?_ ?_);rotate_left 1;focus ((with_reducible refine QW ?_);simp only [Zg,seval,Nat.reduceEqDiff,i1,i2,hg,hw,hle,Int.toNat_natCast];with_reducible rfl)))
   refine roundK.on (i + 1) ⟨h,by omega⟩ ?_
   rw [htk]
   (repeat' (first|with_reducible refine Qn|((with_reducible refine Qr ?_ ?_);focus (first|with_reducible rfl|(simp only [Zz,Nat.reduceBEq];done)|rfl))|((with_reducible refine Qj (o':=?_) ?_ ?_ ?_);rotate_left 1;focus rfl)|((with_reducible refine Qw ?_ ?_);(focus (first|with_reducible rfl|(simp only [Zv];done)));focus (first|exact id|exact (fun h => nomatch h)|exact (fun _ => rfl)))))
  ·have i1:((i:Int) < (bs.length:Int)) = False:=eq_false (by omega)
   obtain rfl:i = bs.length:=by omega
   rw [List.take_length]
   repeat' (first|with_reducible (first|refine Q1 ?_|refine Q2 ?_|refine Q3 ?_|refine Q4 ?_|refine Q5 ?_|refine Q6 ?_|refine Q7 ?_|refine Q8 ?_|refine Q9 ?_|refine Qa ?_|refine Qb ?_|refine Qc ?_|refine Qd ?_|refine Qe ?_|refine Qf ?_)|((with_reducible refine Qo ?_ ?_);focus rfl)|((with_reducible first|refine QT 5 (l:=?_) ?_ ?_|refine QF 5 (l:=?_) ?_ ?_);rotate_left 1;focus (simp only [Zu,Nat.reduceSub,Nat.reduceBEq];with_reducible rfl))|((with_reducible first|refine QS (cfg_ok 21) Tab.none (s':=?_) ?_ ?_|refine QC (b:=?_) ?_ ?_);rotate_left 1;focus ((with_reducible refine QW ?_);simp only [Zg,seval,Nat.reduceEqDiff,i1,List.length_map];with_reducible rfl)))
   refine roundK.out () trivial ?_
   (repeat' (first|with_reducible refine Qn|((with_reducible refine Qr ?_ ?_);focus (first|with_reducible rfl|(simp only [Zz,Nat.reduceBEq];done)|rfl))|((with_reducible refine Qj (o':=?_) ?_ ?_ ?_);rotate_left 1;focus rfl)|((with_reducible refine Qw ?_ ?_);(focus (first|with_reducible rfl|(simp only [Zv];done)));focus (first|exact id|exact (fun h => nomatch h)|exact (fun _ => rfl)))))
 ·rintro _ _
  repeat' (first|with_reducible (first|refine Q1 ?_|refine Q2 ?_|refine Q3 ?_|refine Q4 ?_|refine Q5 ?_|refine Q6 ?_|refine Q7 ?_|refine Q8 ?_|refine Q9 ?_|refine Qa ?_|refine Qb ?_|refine Qc ?_|refine Qd ?_|refine Qe ?_|refine Qf ?_)|((with_reducible refine Qo ?_ ?_);focus rfl)|((with_reducible first|refine QT 5 (l:=?_) ?_ ?_|refine QF 5 (l:=?_) ?_ ?_);rotate_left 1;focus (simp only [Zu,Nat.reduceSub,Nat.reduceBEq];with_reducible rfl))|((with_reducible first|refine QS (cfg_ok 21) Tab.none (s':=?_) ?_ ?_|refine QC (b:=?_) ?_ ?_);rotate_left 1;focus ((with_reducible refine QW ?_);simp only [Zg,seval];with_reducible rfl)))
  (refine Ends.mk (by simp) (rs:=?_) (ks:=?_) hres hrts ?_ ?_ ?_;rotate_left 2;(focus (simp only [Ze,Zg,seval,Nat.reduceEqDiff];with_reducible rfl));(focus simp);focus (first|with_reducible rfl|(simp only [Zv];done)))
theorem tree_sum {t:List Int} (h:LevP t) (hc:canon t = t):(gathS (prodS ((sortC cmpT (brs t)).map split))).foldl (fun s p => putN cmpS s p.2 (rootS p.1)) [(([t],[]),1)] = gathS (split t):=by
 have hf:=spec_tree h hc (fun b => gathS (split b)) (fun b _ => gathS_is _)
 unfold putsS at hf
 rw [spec_forest (sortC cmpT (brs t)) (fun b => gathS (split b)) (fun b _ => rfl)] at hf
 exact hf
theorem putM_is (L:List (Spl × Int)) (P:List (Spl × Int)) {M:List Spl} (hL:IsN cmpS L M) (hP:∀ p ∈ P,1 ≤ p.2):IsN cmpS (P.foldl (fun s p => putN cmpS s p.2 (rootS p.1)) L) (M ++ expN (P.map fun p => (rootS p.1,p.2))):=by
 have h2:=IsN.puts cmpS_cmp (P.map fun p => (rootS p.1,p.2)) hL (fun p hp => by
  obtain ⟨q,hq,rfl⟩:=List.mem_map.1 hp
  exact hP q hq)
 rw [List.foldl_map] at h2
 exact h2
theorem canon_brs {t:List Int} (h:LevP t) (hc:canon t = t):∀ b ∈ brs t,canon b = b:=fun b hb => by
 have hl:∀ c ∈ sortC cmpD ((brs t).map canon),LevP c:=fun c hc' => by
  rw [sortC_mem,List.mem_map] at hc'
  obtain ⟨x,hx,rfl⟩:=hc'
  exact canon_lev (brs_lev h x hx)
 have e:=canon_eq h
 rw [hc] at e
 rw [e,brs_rootOn hl,sortC_mem,List.mem_map] at hb
 obtain ⟨x,hx,rfl⟩:=hb
 exact canon_idem (brs_lev h x hx)
theorem root_sm {s:Spl} {n:Nat} (h:GoodS n s) (hn:n ≤ 8):SmS (rootS s):=by
 have h1:=(h.ha (by omega)).1.sm
 have hl:LevP (rootOn s.2):=rootOn_lev fun b hb => (h.1 b (by simp [hb])).1
 refine ⟨h1,by simp [rootS],?_⟩
 show (canon (rootOn s.2)).length + 0 ≤ 100
 rw [canon_len hl,rootOn_len]
 have:=h.2;omega
set_option maxHeartbeats 8000000 in
theorem a_l05Tree:∀ (n:Nat),n ≤ 8→∀ t:List Int,LevP t→canon t = t→t.length ≤ n→AFn Tryz.prog 144 [eL t] (· = [.val (.sl 3 ((gathS (split t)).map eSp))])
 | 0,_,t,h,_,hn => by have:=h.pos;omega
 | n + 1,hn8,t,h,hc,hn => by
  have hsb:=sumLen_brs h
  have hperm:=sortC_perm (c:=cmpT) (brs t)
  have hlev:∀ b ∈ sortC cmpT (brs t),LevP b:=fun b hb => brs_lev h b (sortC_mem.1 hb)
  have hs8:sumLen (sortC cmpT (brs t)) ≤ 7:=by rw [sumLen_perm hperm];omega
  have hbr:=AFn.valT (a_l03Branches t h hc (by omega))
  have hfo:=a_l05Forest_of n (fun b h1 h2 h3 => a_l05Tree n (by omega) b h1 h2 h3) (sortC cmpT (brs t)) (fun b hb => by
   have hb':=sortC_mem.1 hb
   exact ⟨brs_lev h b hb',canon_brs h hc b hb',by have:=brs_short h b hb';omega⟩) (by omega)
  have how:=AFn.valT (a_l01Own t (by omega))
  have hgood:=gath_good (prod_good hlev)
  have hlen:=prod_len hlev (by omega)
  have hfin:=tree_sum h hc
  have hBl:(gathS (prodS ((sortC cmpT (brs t)).map split))).length ≤ 256:=by have:=(gathS_is (prodS ((sortC cmpT (brs t)).map split))).len;rw [List.length_map] at this;omega
  have hBe:=gath_exp (prodS ((sortC cmpT (brs t)).map split))
  obtain ⟨B,hB⟩:∃ B,B = gathS (prodS ((sortC cmpT (brs t)).map split)):=⟨_,rfl⟩
  rw [← hB] at hgood hfin hfo hBl hBe
  have hone:IsN cmpS [((([t],[]):Spl),1)] [([t],[])]:=⟨⟨by simp,by simp⟩,List.Perm.refl _⟩
  have hF:∀ j,((B.take j).foldl (fun s p => putN cmpS s p.2 (rootS p.1)) [(([t],[]),1)]).length ≤ 1000000∧∀ q ∈ (B.take j).foldl (fun s p => putN cmpS s p.2 (rootS p.1)) [(([t],[]),1)],(1 ≤ q.2∧q.2 ≤ 1000000000)∧SmS q.1:=fun j => by
   have hP:∀ p ∈ B.take j,1 ≤ p.2∧p.2 ≤ 256∧SmS (rootS p.1):=fun p hp => by
    obtain ⟨g1,g2,g3⟩:=hgood p (List.mem_of_mem_take hp)
    exact ⟨g1,by omega,root_sm g3 (by omega)⟩
   have hi:=putM_is _ (B.take j) hone (fun p hp => (hP p hp).1)
   have hlt:(expN ((B.take j).map fun p => (rootS p.1,p.2))).length ≤ 256 * 256:=by
    have key:∀ (X:List (Spl × Int)),(∀ p ∈ X,p.2 ≤ 256)→(expN (X.map fun p => (rootS p.1,p.2))).length ≤ 256 * X.length:=by
     intro X
     induction X with
     | nil => intro _;simp [expN]
     | cons x X ih =>
      intro hx
      have h1:=ih (fun p hp => hx p (by simp [hp]))
      have h2:=hx x (by simp)
      rw [List.map_cons,expN_cons,List.length_append,List.length_replicate,List.length_cons,Nat.mul_succ]
      show x.2.toNat + _ ≤ _
      omega
    have h1:=key (B.take j) (fun p hp => (hP p hp).2.1)
    have h2:(B.take j).length ≤ 256:=by rw [List.length_take];omega
    exact Nat.le_trans h1 (Nat.mul_le_mul_left _ h2)
   have hM:([(([t],[]):Spl)] ++ expN ((B.take j).map fun p => (rootS p.1,p.2))).length ≤ 1 + 256 * 256:=by rw [List.length_append,List.length_singleton];omega
   refine ⟨Nat.le_trans hi.len (by omega),fun q hq => ?_⟩
   have hcq:=hi.cnt q hq
   refine ⟨⟨hcq.1,by omega⟩,?_⟩
   have hk:=hi.key q hq
   rcases List.mem_append.1 hk with hk|hk
   ·rw [List.mem_singleton.1 hk]
    exact ⟨⟨by simp,by show t.length + 0 ≤ 100;omega⟩,by show SmF [];decide⟩
   ·obtain ⟨r,hr,e⟩:=expN_mem hk
    obtain ⟨p,hp,rfl⟩:=List.mem_map.1 hr
    rw [← e]
    exact (hP p hp).2.2
  simp only [eL,eLL] at hbr hfo how
  refine AFn.of_runs (cfg_ok 41) Tryz.func144 rfl rfl rfl (by simp only [List.length_cons,List.length_nil];decide) ?_
  have hres:Tryz.f144.results.toList = [.tmp 2]:=rfl
  have hrts:Tryz.f144.resultTypes.toList = [50]:=rfl
  simp only [argRegs,argAV1,eL]
  intro M
  refine RunK.of ?_
  repeat' (first|with_reducible (first|refine Q1 ?_|refine Q2 ?_|refine Q3 ?_|refine Q4 ?_|refine Q5 ?_|refine Q6 ?_|refine Q7 ?_|refine Q8 ?_|refine Q9 ?_|refine Qa ?_|refine Qb ?_|refine Qc ?_|refine Qd ?_|refine Qe ?_|refine Qf ?_)|((with_reducible refine Qo ?_ ?_);focus rfl)|((with_reducible first|refine QT 6 (l:=?_) ?_ ?_|refine QF 6 (l:=?_) ?_ ?_);rotate_left 1;focus (simp only [Zu,Nat.reduceSub,Nat.reduceBEq];with_reducible rfl))|((with_reducible first|refine QS (cfg_ok 41) ((Tab.none.at' 208 hbr).at' 95 hfo) (s':=?_) ?_ ?_|refine QC (b:=?_) ?_ ?_);rotate_left 1;focus ((with_reducible refine QW ?_);simp only [Zg,seval,Nat.reduceEqDiff];with_reducible rfl))|((with_reducible refine QD (cfg_ok 41) ((Tab.none.at' 208 hbr).at' 95 hfo) mixed_ok (tr:=?_) (s':=?_) ?_ ?_ ?_);rotate_left 2;(focus ((with_reducible refine QW ?_);simp only [Zg,Zd,seval,if_true,if_false,reduceCtorEq,Nat.reduceEqDiff];with_reducible rfl));focus ((with_reducible refine QK ?_);simp only [Zk];kernel_rfl)))
  refine RunK.regCut (cfg_ok 41) (Tab.none.at' 145 how) 3 (s1:=?_) ?_ ?_
  rotate_left 1
  focus (refine Work.mk ?_;simp only [Zg,seval,Nat.reduceEqDiff];with_reducible rfl)
  simp only [List.drop_succ_cons,List.drop_zero]
  refine ROps.frzs [11] ?_
  refine ROps.opsT (cfg_ok 41) (T:=Tab.none) (s':=?_) ?_ ?_
  rotate_left 1
  focus (simp only [Zg,seval,Nat.reduceEqDiff];with_reducible rfl)
  repeat' (first|with_reducible (first|refine Q1 ?_|refine Q2 ?_|refine Q3 ?_|refine Q4 ?_|refine Q5 ?_|refine Q6 ?_|refine Q7 ?_|refine Q8 ?_|refine Q9 ?_|refine Qa ?_|refine Qb ?_|refine Qc ?_|refine Qd ?_|refine Qe ?_|refine Qf ?_)|((with_reducible refine Qo ?_ ?_);focus rfl)|((with_reducible first|refine QT 6 (l:=?_) ?_ ?_|refine QF 6 (l:=?_) ?_ ?_);rotate_left 1;focus (simp only [Zu,Nat.reduceSub,Nat.reduceBEq];with_reducible rfl))|((with_reducible first|refine QS (cfg_ok 41) Tab.none (s':=?_) ?_ ?_|refine QC (b:=?_) ?_ ?_);rotate_left 1;focus ((with_reducible refine QW ?_);simp only [Zg,seval,Nat.reduceEqDiff];with_reducible rfl))|((with_reducible refine QD (cfg_ok 41) Tab.none mixed_ok (tr:=?_) (s':=?_) ?_ ?_ ?_);rotate_left 2;(focus ((with_reducible refine QW ?_);simp only [Zg,Zd,seval,if_true,if_false,reduceCtorEq,Nat.reduceEqDiff];with_reducible rfl));focus ((with_reducible refine QK ?_);simp only [Zk];kernel_rfl)))
  refine RunK.frz 4 ?_
  refine RunK.fits (s0:=⟨[(3,.c (.val (.sl 3 (B.map eSp)))),(4,.c (.val (.sl 3 [[.sl 1 [[.sl 1 (t.map eI)]],.sl 1 [],.int 1]]))),(5,.c (.val (.int 0)))],[]⟩) ?_ ?_
  ·(repeat' (first|with_reducible refine Qn|((with_reducible refine Qr ?_ ?_);focus (first|with_reducible rfl|(simp only [Zz,St.frz,frzR,look,AV.frz,AC.frz,drop];done)|rfl))|((with_reducible refine Qj (o':=?_) ?_ ?_ ?_);rotate_left 1;focus rfl)|((with_reducible refine Qw ?_ ?_);(focus (first|with_reducible rfl|(simp only [Zv,St.frz,frzR,frzH,look,AV.frz,AC.frz,drop];done)));focus (first|exact id|exact (fun h => nomatch h)|exact (fun _ => rfl)))))
  refine RunK.loop (β:=Nat) (γ:=Unit) (fun j => ⟨[(3,.c (.val (.sl 3 (B.map eSp)))),(4,.c (.val (.sl 3 (((B.take j).foldl (fun s p => putN cmpS s p.2 (rootS p.1)) [(([t],[]),1)]).map eSp)))),(5,.c (.val (.int j)))],[]⟩) (fun j => j ≤ B.length) (fun j => B.length - j)
   (fun _ => ⟨[(4,.c (.val (.sl 3 ((gathS (split t)).map eSp))))],[]⟩) (fun _ => True) 0 (Nat.zero_le _) ?_ ?_ ?_
  ·(repeat' (first|with_reducible refine Qn|((with_reducible refine Qr ?_ ?_);focus (first|with_reducible rfl|(simp only [Zz,Nat.reduceBEq,List.take_zero,List.foldl_nil,List.map_nil,List.map_cons,eSp,eL,Int.natCast_zero];done)|rfl))|((with_reducible refine Qj (o':=?_) ?_ ?_ ?_);rotate_left 1;focus rfl)|((with_reducible refine Qw ?_ ?_);(focus (first|with_reducible rfl|(simp only [Zv,List.take_zero,List.foldl_nil,List.map_nil,List.map_cons,eSp,eL,Int.natCast_zero];done)));focus (first|exact id|exact (fun h => nomatch h)|exact (fun _ => rfl)))))
  ·intro i hi
   have hi:i ≤ B.length:=hi
   have hw:=w64_succ (n:=i) (by omega)
   by_cases h':i < B.length
   ·have i1:((i:Int) < (B.length:Int)) = True:=eq_true (by omega)
    have i2:((0:Int) ≤ (i:Int)) = True:=eq_true (by omega)
    obtain ⟨z,hz⟩:∃ z,z = B[i]:=⟨_,rfl⟩
    have hgz:=hgood B[i] (List.getElem_mem _)
    rw [← hz] at hgz
    obtain ⟨g1,g2,g3⟩:=hgz
    have hgz:=(g3.ha (by omega)).2.sm
    have hlz:∀ b ∈ z.1.2,LevP b:=fun b hb => (g3.1 b (by simp [hb])).1
    have hroot:=AFn.valT (a_l03Root z.1.2 hgz hlz)
    have hst:(B.take (i + 1)).foldl (fun s p => putN cmpS s p.2 (rootS p.1)) [(([t],[]),1)] = putN cmpS ((B.take i).foldl (fun s p => putN cmpS s p.2 (rootS p.1)) [(([t],[]),1)]) z.2 (rootS z.1):=by
     rw [hz,List.take_succ_eq_append_getElem h',List.foldl_append];rfl
    have hFi:=hF i
    obtain ⟨K,hK⟩:∃ K,K = (B.take i).foldl (fun s p => putN cmpS s p.2 (rootS p.1)) [(([t],[]),1)]:=⟨_,rfl⟩
    rw [← hK] at hst hFi ⊢
    have hput:=a_l05Put K z.2 (rootS z.1) hFi.1 hFi.2 ⟨g1,by omega⟩ (root_sm g3 (by omega))
    have hg:(B.map eSp)[i]? = some [.sl 1 (z.1.1.map eL),.sl 1 (z.1.2.map eL),.int z.2]:=by rw [map_get h',hz];rfl
    have hle:(B.map eSp).length = B.length:=List.length_map _
    simp only [eLL,rootS,eSp,eL,List.map_cons,List.map_nil] at hroot hput
    repeat' (first|with_reducible (first|refine Q1 ?_|refine Q2 ?_|refine Q3 ?_|refine Q4 ?_|refine Q5 ?_|refine Q6 ?_|refine Q7 ?_|refine Q8 ?_|refine Q9 ?_|refine Qa ?_|refine Qb ?_|refine Qc ?_|refine Qd ?_|refine Qe ?_|refine Qf ?_)|((with_reducible refine Qo ?_ ?_);focus rfl)|((with_reducible first|refine QT 6 (l:=?_) ?_ ?_|refine QF 6 (l:=?_) ?_ ?_);rotate_left 1;focus (simp only [Zu,Nat.reduceSub,Nat.reduceBEq];with_reducible rfl))|((with_reducible first|refine QS (cfg_ok 41) ((Tab.none.at' 210 hroot).at' 209 hput) (s':=?_) ?_ ?_|refine QC (b:=?_) ?_ ?_);rotate_left 1;focus ((with_reducible refine QW ?_);simp only [Zg,seval,Nat.reduceEqDiff,i1,hw,hle];with_reducible rfl))|((with_reducible refine QD (cfg_ok 41) ((Tab.none.at' 210 hroot).at' 209 hput) mixed_ok (tr:=?_) (s':=?_) ?_ ?_ ?_);rotate_left 2;(focus ((with_reducible refine QW ?_);simp only [Zg,Zd,seval,Nat.reduceEqDiff,i1,i2,hg,hle,Int.toNat_natCast];with_reducible rfl));focus ((with_reducible refine QK ?_);simp only [Zk];kernel_rfl)))
    refine roundK.on (i + 1) ⟨h',by omega⟩ ?_
    rw [hst]
    (repeat' (first|with_reducible refine Qn|((with_reducible refine Qr ?_ ?_);focus (first|with_reducible rfl|(simp only [Zz,Nat.reduceBEq,rootS];done)|rfl))|((with_reducible refine Qj (o':=?_) ?_ ?_ ?_);rotate_left 1;focus rfl)|((with_reducible refine Qw ?_ ?_);(focus (first|with_reducible rfl|(simp only [Zv,rootS];done)));focus (first|exact id|exact (fun h => nomatch h)|exact (fun _ => rfl)))))
   ·have i1:((i:Int) < (B.length:Int)) = False:=eq_false (by omega)
    obtain rfl:i = B.length:=by omega
    rw [List.take_length,hfin]
    repeat' (first|with_reducible (first|refine Q1 ?_|refine Q2 ?_|refine Q3 ?_|refine Q4 ?_|refine Q5 ?_|refine Q6 ?_|refine Q7 ?_|refine Q8 ?_|refine Q9 ?_|refine Qa ?_|refine Qb ?_|refine Qc ?_|refine Qd ?_|refine Qe ?_|refine Qf ?_)|((with_reducible refine Qo ?_ ?_);focus rfl)|((with_reducible first|refine QT 6 (l:=?_) ?_ ?_|refine QF 6 (l:=?_) ?_ ?_);rotate_left 1;focus (simp only [Zu,Nat.reduceSub,Nat.reduceBEq];with_reducible rfl))|((with_reducible first|refine QS (cfg_ok 41) Tab.none (s':=?_) ?_ ?_|refine QC (b:=?_) ?_ ?_);rotate_left 1;focus ((with_reducible refine QW ?_);simp only [Zg,seval,Nat.reduceEqDiff,i1,List.length_map];with_reducible rfl))|((with_reducible refine QD (cfg_ok 41) Tab.none mixed_ok (tr:=?_) (s':=?_) ?_ ?_ ?_);rotate_left 2;(focus ((with_reducible refine QW ?_);simp only [Zg,Zd,seval,if_true,if_false,reduceCtorEq,Nat.reduceEqDiff,i1,List.length_map];with_reducible rfl));focus ((with_reducible refine QK ?_);simp only [Zk];kernel_rfl)))
    refine roundK.out () trivial ?_
    (repeat' (first|with_reducible refine Qn|((with_reducible refine Qr ?_ ?_);focus (first|with_reducible rfl|(simp only [Zz,Nat.reduceBEq];done)|rfl))|((with_reducible refine Qj (o':=?_) ?_ ?_ ?_);rotate_left 1;focus rfl)|((with_reducible refine Qw ?_ ?_);(focus (first|with_reducible rfl|(simp only [Zv];done)));focus (first|exact id|exact (fun h => nomatch h)|exact (fun _ => rfl)))))
  ·rintro _ _
   repeat' (first|with_reducible (first|refine Q1 ?_|refine Q2 ?_|refine Q3 ?_|refine Q4 ?_|refine Q5 ?_|refine Q6 ?_|refine Q7 ?_|refine Q8 ?_|refine Q9 ?_|refine Qa ?_|refine Qb ?_|refine Qc ?_|refine Qd ?_|refine Qe ?_|refine Qf ?_)|((with_reducible refine Qo ?_ ?_);focus rfl)|((with_reducible first|refine QT 6 (l:=?_) ?_ ?_|refine QF 6 (l:=?_) ?_ ?_);rotate_left 1;focus (simp only [Zu,Nat.reduceSub,Nat.reduceBEq];with_reducible rfl))|((with_reducible first|refine QS (cfg_ok 41) Tab.none (s':=?_) ?_ ?_|refine QC (b:=?_) ?_ ?_);rotate_left 1;focus ((with_reducible refine QW ?_);simp only [Zg,seval];with_reducible rfl))|((with_reducible refine QD (cfg_ok 41) Tab.none mixed_ok (tr:=?_) (s':=?_) ?_ ?_ ?_);rotate_left 2;(focus ((with_reducible refine QW ?_);simp only [Zg,Zd,seval,if_true,if_false,reduceCtorEq,Nat.reduceEqDiff];with_reducible rfl));focus ((with_reducible refine QK ?_);simp only [Zk];kernel_rfl)))
   (refine Ends.mk (by simp) (rs:=?_) (ks:=?_) hres hrts ?_ ?_ ?_;rotate_left 2;(focus (simp only [Ze,Zg,seval,Nat.reduceEqDiff];with_reducible rfl));(focus simp);focus (first|with_reducible rfl|(simp only [Zv];done)))
end Go.Proofs.YtgngidchldajhaaGreat
namespace Go.Proofs.YtgngidchldajhaaGreat
open Go.RowKit
theorem tmod_mP (n:Int):((n.tmod 10007) + 10007).tmod 10007 = mP n:=by
 have h1:n.tmod 10007 = if 0 ≤ n then n % 10007 else -((-n) % 10007):=by
  split
  ·rename_i h;exact Int.tmod_eq_emod_of_nonneg h
  ·rename_i h
   have:=Int.neg_tmod (-n) 10007
   rw [Int.neg_neg] at this
   rw [this,Int.tmod_eq_emod_of_nonneg (by omega)]
 rw [h1]
 unfold mP
 split
 ·rw [Int.tmod_eq_emod_of_nonneg (by omega)];omega
 ·rw [Int.tmod_eq_emod_of_nonneg (by omega)];omega
theorem tmod_bd (n:Int):-10007 < n.tmod 10007∧n.tmod 10007 < 10007:=by
 have h1:n.tmod 10007 = if 0 ≤ n then n % 10007 else -((-n) % 10007):=by
  split
  ·rename_i h;exact Int.tmod_eq_emod_of_nonneg h
  ·rename_i h
   have:=Int.neg_tmod (-n) 10007
   rw [Int.neg_neg] at this
   rw [this,Int.tmod_eq_emod_of_nonneg (by omega)]
 rw [h1];split <;> omega
theorem z10007:((10007:Int) = 0) = False:=eq_false (by decide)
theorem a_num (n:Int):AFn Tryz.prog 103 [eI n] (· = [.val (.int (mP n))]):=by
 have hb:=tmod_bd n
 have hw:w64 (n.tmod 10007 + 10007) = n.tmod 10007 + 10007:=w64_eq (by omega)
 rw [← tmod_mP n]
 refine AFn.of_runs (cfg_ok 7) Tryz.func103 rfl rfl rfl (by simp only [List.length_cons,List.length_nil];decide) ?_
 have hres:Tryz.f103.results.toList = [.tmp 2]:=rfl
 have hrts:Tryz.f103.resultTypes.toList = [2]:=rfl
 simp only [argRegs,argAV1,eL,eI,eLL,eB,Nat.zero_add,Nat.reduceAdd]
 intro M
 refine RunK.of ?_
 repeat' (first|with_reducible (first|refine Q1 ?_|refine Q2 ?_|refine Q3 ?_|refine Q4 ?_|refine Q5 ?_|refine Q6 ?_|refine Q7 ?_|refine Q8 ?_|refine Q9 ?_|refine Qa ?_|refine Qb ?_|refine Qc ?_|refine Qd ?_|refine Qe ?_|refine Qf ?_)|((with_reducible refine Qo ?_ ?_);focus rfl)|((with_reducible first|refine QT 3 (l:=?_) ?_ ?_|refine QF 3 (l:=?_) ?_ ?_);rotate_left 1;focus (simp only [Zu,Nat.reduceSub,Nat.reduceBEq];with_reducible rfl))|((with_reducible first|refine QS (cfg_ok 7) Tab.none (s':=?_) ?_ ?_|refine QC (b:=?_) ?_ ?_);rotate_left 1;focus ((with_reducible refine QW ?_);simp only [Zg,seval,if_true,if_false,reduceCtorEq,Nat.reduceEqDiff,hw,z10007];with_reducible rfl)))
 (refine Ends.mk (by simp) (rs:=?_) (ks:=?_) hres hrts ?_ ?_ ?_;rotate_left 2;(focus (simp only [Ze,Zg,seval,if_true,if_false,reduceCtorEq,Nat.reduceEqDiff];with_reducible rfl));(focus simp);focus (first|with_reducible rfl|(simp only [Zv];done)))
theorem a_l01Mod (n:Int):AFn Tryz.prog 101 [eI n] (· = [.val (.int (mP n))]):=by
 have hb:=tmod_bd n
 have hw:w64 (n.tmod 10007 + 10007) = n.tmod 10007 + 10007:=w64_eq (by omega)
 rw [← tmod_mP n]
 refine AFn.of_runs (cfg_ok 7) Tryz.func101 rfl rfl rfl (by simp only [List.length_cons,List.length_nil];decide) ?_
 have hres:Tryz.f101.results.toList = [.tmp 2]:=rfl
 have hrts:Tryz.f101.resultTypes.toList = [2]:=rfl
 simp only [argRegs,argAV1,eL,eI,eLL,eB,Nat.zero_add,Nat.reduceAdd]
 intro M
 refine RunK.of ?_
 repeat' (first|with_reducible (first|refine Q1 ?_|refine Q2 ?_|refine Q3 ?_|refine Q4 ?_|refine Q5 ?_|refine Q6 ?_|refine Q7 ?_|refine Q8 ?_|refine Q9 ?_|refine Qa ?_|refine Qb ?_|refine Qc ?_|refine Qd ?_|refine Qe ?_|refine Qf ?_)|((with_reducible refine Qo ?_ ?_);focus rfl)|((with_reducible first|refine QT 3 (l:=?_) ?_ ?_|refine QF 3 (l:=?_) ?_ ?_);rotate_left 1;focus (simp only [Zu,Nat.reduceSub,Nat.reduceBEq];with_reducible rfl))|((with_reducible first|refine QS (cfg_ok 7) Tab.none (s':=?_) ?_ ?_|refine QC (b:=?_) ?_ ?_);rotate_left 1;focus ((with_reducible refine QW ?_);simp only [Zg,seval,if_true,if_false,reduceCtorEq,Nat.reduceEqDiff,hw,z10007];with_reducible rfl)))
 (refine Ends.mk (by simp) (rs:=?_) (ks:=?_) hres hrts ?_ ?_ ?_;rotate_left 2;(focus (simp only [Ze,Zg,seval,if_true,if_false,reduceCtorEq,Nat.reduceEqDiff];with_reducible rfl));(focus simp);focus (first|with_reducible rfl|(simp only [Zv];done)))
noncomputable def TMod:Tab Tryz.prog:=Tab.none.add 101 (tab1 codI fun n => some [.val (.int (mP n))]) (tab1_ok fun n rs h => by cases h;exact a_l01Mod n)
theorem a_l01Add (a b:Int) (h:-9223372036854775808 ≤ a + b∧a + b ≤ 9223372036854775807):AFn Tryz.prog 172 [eI a,eI b] (· = [.val (.int (mP (a + b)))]):=by
 have hw:=w64_eq h
 refine AFn.of_runs (cfg_ok 9) Tryz.func172 rfl rfl rfl (by simp only [List.length_cons,List.length_nil];decide) ?_
 have hres:Tryz.f172.results.toList = [.tmp 4]:=rfl
 have hrts:Tryz.f172.resultTypes.toList = [2]:=rfl
 simp only [argRegs,argAV1,eL,eI,eLL,eB,Nat.zero_add,Nat.reduceAdd]
 intro M
 refine RunK.of ?_
 repeat' (first|with_reducible (first|refine Q1 ?_|refine Q2 ?_|refine Q3 ?_|refine Q4 ?_|refine Q5 ?_|refine Q6 ?_|refine Q7 ?_|refine Q8 ?_|refine Q9 ?_|refine Qa ?_|refine Qb ?_|refine Qc ?_|refine Qd ?_|refine Qe ?_|refine Qf ?_)|((with_reducible refine Qo ?_ ?_);focus rfl)|((with_reducible first|refine QT 5 (l:=?_) ?_ ?_|refine QF 5 (l:=?_) ?_ ?_);rotate_left 1;focus (simp only [Zu,Nat.reduceSub,Nat.reduceBEq];with_reducible rfl))|((with_reducible first|refine QS (cfg_ok 9) TMod (s':=?_) ?_ ?_|refine QC (b:=?_) ?_ ?_);rotate_left 1;focus ((with_reducible refine QW ?_);simp only [Zg,seval,if_true,if_false,reduceCtorEq,Nat.reduceEqDiff,TMod,hw];with_reducible rfl)))
 (refine Ends.mk (by simp) (rs:=?_) (ks:=?_) hres hrts ?_ ?_ ?_;rotate_left 2;(focus (simp only [Ze,Zg,seval,if_true,if_false,reduceCtorEq,Nat.reduceEqDiff];with_reducible rfl));(focus simp);focus (first|with_reducible rfl|(simp only [Zv];done)))
theorem a_l01Mul (a b:Int) (h:-9223372036854775808 ≤ a * b∧a * b ≤ 9223372036854775807):AFn Tryz.prog 100 [eI a,eI b] (· = [.val (.int (mP (a * b)))]):=by
 have hw:=w64_eq h
 refine AFn.of_runs (cfg_ok 9) Tryz.func100 rfl rfl rfl (by simp only [List.length_cons,List.length_nil];decide) ?_
 have hres:Tryz.f100.results.toList = [.tmp 4]:=rfl
 have hrts:Tryz.f100.resultTypes.toList = [2]:=rfl
 simp only [argRegs,argAV1,eL,eI,eLL,eB,Nat.zero_add,Nat.reduceAdd]
 intro M
 refine RunK.of ?_
 repeat' (first|with_reducible (first|refine Q1 ?_|refine Q2 ?_|refine Q3 ?_|refine Q4 ?_|refine Q5 ?_|refine Q6 ?_|refine Q7 ?_|refine Q8 ?_|refine Q9 ?_|refine Qa ?_|refine Qb ?_|refine Qc ?_|refine Qd ?_|refine Qe ?_|refine Qf ?_)|((with_reducible refine Qo ?_ ?_);focus rfl)|((with_reducible first|refine QT 5 (l:=?_) ?_ ?_|refine QF 5 (l:=?_) ?_ ?_);rotate_left 1;focus (simp only [Zu,Nat.reduceSub,Nat.reduceBEq];with_reducible rfl))|((with_reducible first|refine QS (cfg_ok 9) TMod (s':=?_) ?_ ?_|refine QC (b:=?_) ?_ ?_);rotate_left 1;focus ((with_reducible refine QW ?_);simp only [Zg,seval,if_true,if_false,reduceCtorEq,Nat.reduceEqDiff,TMod,hw];with_reducible rfl)))
 (refine Ends.mk (by simp) (rs:=?_) (ks:=?_) hres hrts ?_ ?_ ?_;rotate_left 2;(focus (simp only [Ze,Zg,seval,if_true,if_false,reduceCtorEq,Nat.reduceEqDiff];with_reducible rfl));(focus simp);focus (first|with_reducible rfl|(simp only [Zv];done)))
end Go.Proofs.YtgngidchldajhaaGreat
namespace Go.Proofs.YtgngidchldajhaaGreat
open Go.RowKit
section
variable {β:Type} {S:Rep β} {w:World}
theorem OwnF.partAt {v:Value} {xs:List (Int × β)} {F:List Nat} (h:OwnF (RS (RP RI S)) F w [v] xs) (hS:S.k = 1) (i:Nat) (hi:i < xs.length) :
  ∃ g cap s G,v = .slice (some ⟨g,0,none⟩) xs.length cap∧xs.length ≤ cap∧cap ≤ 9223372036854775807∧g < w.heap.size∧w.cell? ⟨g,i * 2,none⟩ = some (.int .i64 xs[i].1)∧w.cell? ⟨g,i * 2 + 1,none⟩ = some s∧w.frozen? ⟨g,i * 2,none⟩ = false ∧
   OwnF S G w [s] xs[i].2∧(∀ b,b ∈ G→b ∈ F∧b ≠ g) ∧
   (∀ n,In64 n→OwnF (RS (RP RI S)) F (w.setCell ⟨g,i * 2,none⟩ (.int .i64 n)) [v] (xs.set i (n,xs[i].2))∧ChgF F w (w.setCell ⟨g,i * 2,none⟩ (.int .i64 n))) ∧
   (∀ (w':World) (y:β),OwnF S G w' [s] y→ChgF G w w'→OwnF (RS (RP RI S)) F w' [v] (xs.set i (xs[i].1,y))∧ChgF F w w'):=by
 have hlt:=h.lt
 have hnd:=h.2
 have hk2:(RP RI S).k = 2:=by show 1 + S.k = 2;omega
 obtain ⟨g,cap,d1,c,d2,F1,G0,F2,hv,hc1,hc2,rfl,hcl,hd1,hx,hrow,hK⟩:=h.lens i hi
 rw [hk2] at hd1 hrow
 have hx0:=hx
 obtain ⟨c1,c2,Ga,G,rfl,rfl,⟨⟨rfl,hb⟩,rfl⟩,hs⟩:=hx0
 have hsl:=S.rd_len (S.own_rd hs)
 rw [hS] at hsl
 match c2,hsl with
 | [s],_ =>
 simp only [List.nil_append] at *
 have hn1:=List.nodup_cons.1 hnd
 have hn2:=List.nodup_append.1 hn1.2
 have hn3:=List.nodup_append.1 hn2.2.1
 have e1:d1 ++ ([Value.int IntKind.i64 xs[i].1] ++ [s] ++ d2) = d1 ++ (Value.int IntKind.i64 xs[i].1 :: s :: d2):=by simp
 have g1:w.cell? ⟨g,i * 2,none⟩ = some (.int .i64 xs[i].1):=hrow.cells (i * 2) _ (by rw [e1,List.getElem?_append_right (by omega),hd1];simp)
 have g2:w.cell? ⟨g,i * 2 + 1,none⟩ = some s:=hrow.cells (i * 2 + 1) _ (by rw [e1,List.getElem?_append_right (by omega),hd1];simp)
 have hGF:∀ b,b ∈ G→b ∈ g :: (F1 ++ (G ++ F2))∧b ≠ g:=fun b hb => ⟨by simp [hb],fun e => hn1.1 (by subst e;simp [hb])⟩
 refine ⟨g,cap,s,G,hv,hc1,hc2,hlt g (by simp),g1,g2,hrow.frozen _,⟨hs,hn3.1⟩,hGF,?_,?_⟩
 ·intro n hn
  obtain ⟨hst,hgr⟩:=hrow.store (i * 2) (.int .i64 n)
  have hset:(d1 ++ ([Value.int IntKind.i64 xs[i].1] ++ [s] ++ d2)).set (i * 2) (.int .i64 n) = d1 ++ ([Value.int IntKind.i64 n] ++ [s] ++ d2):=by
   rw [List.set_append_right _ _ (by omega),hd1,Nat.sub_self];rfl
  rw [hset] at hst
  have hfr:∀ b,b ≠ g→(w.setCell ⟨g,i * 2,none⟩ (.int .i64 n)).heap[b]? = w.heap[b]?:=fun b hb => heap_setCell_other w ⟨g,i * 2,none⟩ b _ hb
  refine ⟨hK _ [.int .i64 n,s] (n,xs[i].2) G (by rw [hk2];rfl) ⟨[.int .i64 n],[s],[],G,rfl,rfl,⟨⟨rfl,hn⟩,rfl⟩,S.own_frame hs (fun b hb => hfr b (hGF b hb).2)⟩ (fun b hb => hfr b ?_) (by rw [hk2];exact hst) hnd,(ChgF.of_grown hgr).mono (fun b hb => by simp at hb;simp [hb])⟩
  intro e
  subst e
  rcases List.mem_append.1 hb with h|h
  ·exact hn1.1 (by simp [h])
  ·exact hn1.1 (by simp [h])
 ·intro w' y hy hch
  have hfr:∀ b,b ∈ F1 ++ F2→w'.heap[b]? = w.heap[b]?:=by
   intro b hm
   refine hch.block b (hlt b ?_) ?_
   ·rcases List.mem_append.1 hm with hm|hm
    ·simp [hm]
    ·simp [hm]
   ·intro hG
    rcases List.mem_append.1 hm with hm|hm
    ·exact hn2.2.2 b hm b (by simp [hG]) rfl
    ·exact hn3.2.2 b hG b hm rfl
  have hrow':Row w' v 2 xs.length (d1 ++ ([Value.int IntKind.i64 xs[i].1] ++ [s] ++ d2)) (some g):=hrow.frame (fun g' hg' => by cases hg';exact hch.block g (hlt g (by simp)) (fun e => (hGF g e).2 rfl))
  exact ⟨hK _ [.int .i64 xs[i].1,s] (xs[i].1,y) G (by rw [hk2];rfl) ⟨[.int .i64 xs[i].1],[s],[],G,rfl,rfl,⟨⟨rfl,hb⟩,rfl⟩,hy.1⟩ hfr (by rw [hk2];exact hrow') hnd,hch.mono (fun b hb => (hGF b hb).1)⟩
theorem Rd.partAt {v:Value} {xs:List (Int × β)} (h:Rd (RS (RP RI S)) w [v] xs) (hS:S.k = 1) (i:Nat) (hi:i < xs.length) :
  ∃ b off cap s,v = .slice (some ⟨b,off,none⟩) xs.length cap∧b < w.heap.size∧w.cell? ⟨b,off + i * 2,none⟩ = some (.int .i64 xs[i].1)∧w.cell? ⟨b,off + i * 2 + 1,none⟩ = some s∧In64 xs[i].1∧Rd S w [s] xs[i].2:=by
 have hk2:(RP RI S).k = 2:=by show 1 + S.k = 2;omega
 obtain ⟨oa,cap,ds,h1,h2,h3,h4,h5,h6⟩:=h
 simp only [List.cons.injEq,and_true] at h1
 subst h1
 obtain ⟨c,hc,hpos⟩:=h5.get i hi
 rw [hk2] at hpos
 obtain ⟨c1,c2,rfl,⟨rfl,hb⟩,hs⟩:=hc
 have hsl:=S.rd_len hs
 rw [hS] at hsl
 match c2,hsl with
 | [s],_ =>
 rcases h6 with h6|⟨b,off,rfl,hbl,hcell⟩
 ·have:=h5.len
  rw [h6,hk2] at this
  simp at this
  omega
 ·refine ⟨b,off,cap,s,rfl,hbl,hcell _ _ (hpos 0 _ rfl),(by rw [Nat.add_assoc];exact hcell _ _ (hpos 1 _ rfl)),hb,Rd.of hs⟩
end
abbrev RPart:Rep (Int × List (List Int)):=RP RI (RS (RS RI))
def cnt_P:List (Int × List (List Int))→Nat
 | [] => 0
 | p :: ps => 1 + cnt_II p.2 + cnt_P ps
def mkd_P:List (Int × List (List Int))→Int→List (Int × List (List Int))
 | [],_ => []
 | p :: ps,k => (k,mkd_II p.2 (k + 1)) :: mkd_P ps (k + 1 + cnt_II p.2)
theorem mkd_P_len:∀ (ps:List (Int × List (List Int))) (k:Int),(mkd_P ps k).length = ps.length
 | [],_ => rfl
 | p :: ps,k => by simp [mkd_P,mkd_P_len ps]
theorem mkd_P_get:∀ (ps:List (Int × List (List Int))) (k:Int) (i:Nat) (h:i < ps.length),(mkd_P ps k)[i]'(by rw [mkd_P_len];exact h) = (k + cnt_P (ps.take i),mkd_II ps[i].2 (k + cnt_P (ps.take i) + 1))
 | p :: ps,k,0,h => by simp [mkd_P,cnt_P]
 | p :: ps,k,i + 1,h => by
  simp only [mkd_P,List.getElem_cons_succ,List.take_succ_cons]
  rw [mkd_P_get ps _ i (by simpa using h)]
  simp only [cnt_P]
  have e:k + 1 + (cnt_II p.2:Int) + (cnt_P (ps.take i):Nat) = k + ((1 + cnt_II p.2 + cnt_P (ps.take i):Nat):Int):=by omega
  rw [e]
theorem cnt_P_append:∀ (ps qs:List (Int × List (List Int))),cnt_P (ps ++ qs) = cnt_P ps + cnt_P qs
 | [],qs => by simp [cnt_P]
 | p :: ps,qs => by simp only [List.cons_append,cnt_P,cnt_P_append ps qs];omega
theorem cnt_P_take_succ (ps:List (Int × List (List Int))) (k:Nat) (h:k < ps.length):cnt_P (ps.take (k + 1)) = cnt_P (ps.take k) + (1 + cnt_II ps[k].2):=by
 rw [List.take_succ_eq_append_getElem h,cnt_P_append];simp [cnt_P]
theorem cnt_P_take (ps:List (Int × List (List Int))) (k:Nat):cnt_P (ps.take k) ≤ cnt_P ps:=by
 have:cnt_P (ps.take k ++ ps.drop k) = cnt_P ps:=by rw [List.take_append_drop]
 rw [cnt_P_append] at this
 omega
set_option maxRecDepth 100000 in
set_option maxHeartbeats 1000000 in
theorem markF_P (v:Value) (xs:List (Int × List (List Int))) (F:List Nat) (k0:Int) (w:World) (h:OwnF (RS RPart) F w [v] xs) (hk0:0 ≤ k0) (hk:k0 + cnt_P xs ≤ 4611686018427387904) :
  Calls Tryz.prog 38 #[v,.int .i64 k0] w fun e w' => e = .returned (.int .i64 (k0 + (cnt_P xs:Nat)))∧OwnF (RS RPart) F w' [v] (mkd_P xs k0)∧ChgF F w w':=by
 obtain ⟨oa,cap,rfl,m1,m2⟩:=h.rd.val
 unfold maxLen at m2
 have H0:=Lib.hid h
 clear h
 go_enter Tryz.func38,Tryz.ntmps38
 go_wp2_with fail
 go_loopw [1,5] (fun q i wr => ∃ (k:Nat) (z:List (Int × List (List Int))),k ≤ xs.length∧i = .int .i64 k∧q = .int .i64 (k0 + (cnt_P (xs.take k):Nat))∧Hid (z = (mkd_P xs k0).take k ++ xs.drop k)∧Hid (OwnF (RS RPart) F wr [.slice oa xs.length cap] z∧ChgF F w wr)) (fun _ i _ => xs.length - (intOf i).toNat)
 case atStart => exact ⟨0,xs,Nat.zero_le _,rfl,by simp [cnt_P],Lib.hid (by simp),Lib.hid ⟨H0.out,ChgF.refl _ _⟩⟩
 case round =>
  obtain ⟨k,z,hkl,rfl,rfl,hz,hown⟩:=hrel
  clear H0
  by_cases hlt:k < xs.length
  ·have hml:=mkd_P_len xs k0
   have hzl:z.length = xs.length:=by rw [hz.out];simp [hml];omega
   obtain ⟨g,cap',s,G,hv,-,-,hgl,g1,g2,hfz,hGs,hGF,hK1,hK2⟩:=hown.out.1.partAt rfl k (by omega)
   rw [hzl] at hv
   simp only [Value.slice.injEq,true_and] at hv
   obtain ⟨rfl,rfl⟩:=hv
   have hzk:z[k]'(by omega) = xs[k]:=by
    simp only [hz.out]
    rw [List.getElem_append_right (by simp [hml];omega)]
    simp [List.getElem_drop,hml]
    congr 1;omega
   have hst:=cnt_P_take_succ xs k hlt
   have hle:=cnt_P_take xs (k + 1)
   have hmk:=mkd_P_get xs k0 k hlt
   obtain ⟨n,hn⟩:∃ n,n = cnt_P (xs.take k):=⟨_,rfl⟩
   rw [← hn] at hst hmk
   rw [← hn]
   have hset:z.set k (k0 + (n:Int),mkd_II xs[k].2 (k0 + n + 1)) = (mkd_P xs k0).take (k + 1) ++ xs.drop (k + 1):=by
    rw [hz.out,List.set_append_right _ _ (by simp [hml];omega)]
    have e:k - ((mkd_P xs k0).take k).length = 0:=by simp [hml];omega
    rw [e,List.drop_eq_getElem_cons hlt,List.set_cons_zero,List.take_succ_eq_append_getElem (by rw [hml];exact hlt),hmk]
    simp
   obtain ⟨f1,f2⟩:=hK1 (k0 + n) (by unfold In64;omega)
   obtain ⟨W1,hW1⟩:∃ W1,W1 = wr.setCell ⟨g,k * 2,none⟩ (.int .i64 (k0 + n)):=⟨_,rfl⟩
   rw [← hW1] at f1 f2
   have hzl2:(z.set k (k0 + (n:Int),z[k].2)).length = xs.length:=by rw [List.length_set,hzl]
   obtain ⟨g',cap',s',G',hv',-,-,-,g1',g2',-,hGs',hGF',-,hK2'⟩:=f1.partAt rfl k (by omega)
   rw [hzl2] at hv'
   simp only [Value.slice.injEq,Option.some.injEq,Addr.mk.injEq,and_true,true_and] at hv'
   obtain ⟨rfl,rfl⟩:=hv'
   have hne:(⟨g,k * 2,none⟩:Addr) ≠ ⟨g,k * 2 + 1,none⟩:=by intro h;injection h;omega
   have hss:s' = s:=by
    rw [hW1,World.cell?_setCell_other _ _ _ _ hne,g2] at g2'
    exact (Option.some.inj g2').symm
   subst hss
   simp only [List.getElem_set_self,hzk] at hGs' hK2' g1 f1
   have hpf:=hst
   obtain ⟨pf,hpf'⟩:∃ pf,pf = xs[k].2:=⟨_,rfl⟩
   rw [← hpf'] at hset hst hGs' hK2'
   obtain ⟨os,cs,rfl,q1,q2⟩:=hGs'.rd.val
   unfold maxLen at q2
   have hmkF:=markF_II _ pf G' (k0 + n + 1) W1 hGs' (by omega) (by omega)
   rw [hW1] at hmkF
   have HK2:=Lib.hid hK2'
   have HSET:=Lib.hid hset
   have HST:=Lib.hid hst
   have HW1:=Lib.hid hW1
   have HF2:=Lib.hid f2
   have i1:(0:Int) ≤ (k:Int):=by omega
   have i2:(k:Int) < (xs.length:Int):=by omega
   obtain ⟨p1,hp1⟩:∃ p1,p1 = xs[k].1:=⟨_,rfl⟩
   rw [← hp1] at g1
   have hw1:IntKind.i64.wrap (k0 + (n:Int)) = k0 + n:=IntWalk.i64_in _ (by omega)
   have hw2:IntKind.i64.wrap (k0 + (n:Int) + 1) = k0 + n + 1:=IntWalk.i64_in _ (by omega)
   clear hK1 hK2 hK2' hset hst hmk hzk hzl hzl2 hn hpf hpf' f1 f2 hGs hGs' hGF hGF' hml g1' g2' hW1 hp1
   go_wp2_with fail
   refine hmkF.mono ?_
   rintro e w2 ⟨rfl,hr2,hc2⟩
   obtain ⟨k1,k2⟩:=HK2.out w2 (mkd_II pf (k0 + n + 1)) hr2 (by rw [HW1.out];exact hc2)
   have HF:Hid (OwnF (RS RPart) F w2 [.slice (some ⟨g,0,none⟩) xs.length cap] ((mkd_P xs k0).take (k + 1) ++ xs.drop (k + 1))∧ChgF F w w2):=Lib.hid ⟨by rw [List.set_set] at k1;rw [HSET.out] at k1;exact k1,hown.out.2.trans (HF2.out.trans k2)⟩
   clear k1 k2 hr2 hc2 hmkF
   go_wp2_with fail
   go_roundw
   case rel => exact ⟨k + 1,_,by omega,by go_num,by rw [HST.out];congr 1;omega,Lib.hid rfl,HF⟩
   case measure => simp [intOf] <;> omega
  ·have hfin:Hid (z = mkd_P xs k0):=Lib.hid (by rw [hz.out,List.take_of_length_le (by rw [mkd_P_len];omega),List.drop_of_length_le (by omega),List.append_nil])
   have hf2:xs.take k = xs:=List.take_of_length_le (by omega)
   rw [hf2]
   go_wp2_with fail
   go_ret
   exact ⟨rfl,hfin.out ▸ hown.out.1,hown.out.2⟩
theorem ChgF.toChg {F:List Nat} {w w':World} {lo hi:Nat} (h:ChgF F w w') (hF:∀ b,b ∈ F→lo ≤ b∧b < hi):Chg lo hi w w' :=
 ⟨h.os,h.tape,h.output,h.size,fun k hk hne => h.block k hk (fun e => by have:=hF k e;omega)⟩
theorem mark_P (v:Value) (xs:List (Int × List (List Int))) (lo hi:Nat) (k0:Int) (w:World) (h:Own (RS RPart) lo hi w [v] xs) (hk0:0 ≤ k0) (hk:k0 + cnt_P xs ≤ 4611686018427387904) :
  Calls Tryz.prog 38 #[v,.int .i64 k0] w fun e w' => e = .returned (.int .i64 (k0 + (cnt_P xs:Nat)))∧Own (RS RPart) lo hi w' [v] (mkd_P xs k0)∧Chg lo hi w w':=by
 obtain ⟨F,hF,hb⟩:=OwnF.of h
 refine (markF_P v xs F k0 w hF hk0 hk).mono ?_
 rintro e w' ⟨rfl,h1,h2⟩
 exact ⟨rfl,h1.to hb,h2.toChg hb⟩
set_option maxRecDepth 100000 in
set_option maxHeartbeats 1000000 in
theorem eqv_Part (s1 s2:Value) (n:Int) (f:List (List Int)) (w:World) (h1:Rd (RS (RS RI)) w [s1] f) (h2:Rd (RS (RS RI)) w [s2] f) :
  Calls Tryz.prog 109 #[.agg #[.int .i64 n,s1],.agg #[.int .i64 n,s2]] w (RetV w (.bool true)):=by
 obtain ⟨o1,c1,rfl,_,_⟩:=h1.val
 obtain ⟨o2,c2,rfl,_,_⟩:=h2.val
 have H1:=Lib.hid h1
 have H2:=Lib.hid h2
 have hne:(n != n) = false:=by simp
 clear h1 h2
 go_enter Tryz.func109,Tryz.ntmps109
 go_wp2_with fail
 have b1:Below w.heap.size w (w.alloc (.cells #[.int .i64 n,.slice o1 f.length c1] 84)):=(Below.refl _ _).alloc (Nat.le_refl _) _
 have b2:Below w.heap.size w ((w.alloc (.cells #[.int .i64 n,.slice o1 f.length c1] 84)).alloc (.cells #[.int .i64 n,.slice o2 f.length c2] 84)):=b1.alloc (by simp) _
 refine (eqv_II _ _ f _ (H1.out.below b2 (Nat.le_refl _)) (H2.out.below b2 (Nat.le_refl _))).mono ?_
 rintro e w' ⟨rfl,b3⟩
 go_wp2_with fail
 go_ret
 exact ⟨rfl,b2.trans (b3.mono b2.size)⟩
set_option maxRecDepth 100000 in
set_option maxHeartbeats 1000000 in
theorem eqv_P (v1 v2:Value) (xs:List (Int × List (List Int))) (w:World) (h1:Rd (RS RPart) w [v1] xs) (h2:Rd (RS RPart) w [v2] xs) :
  Calls Tryz.prog 37 #[v1,v2] w (RetV w (.bool true)):=by
 have a1:=fun i hi => h1.partAt (S:=RS (RS RI)) rfl i hi
 have a2:=fun i hi => h2.partAt (S:=RS (RS RI)) rfl i hi
 obtain ⟨oa,cap,rfl,m1,m2⟩:=h1.val
 obtain ⟨ob,cap2,rfl,m3,m4⟩:=h2.val
 unfold maxLen at m2 m4
 have A1:=Lib.hid a1
 have A2:=Lib.hid a2
 have hne:((xs.length:Int) != (xs.length:Int)) = false:=by simp
 have EG:=Lib.hid (enters (P:=Tryz.prog) (f:=109) Tryz.func109 (by kernel_rfl) rfl)
 clear h1 h2 a1 a2
 go_enter Tryz.func37,Tryz.ntmps37
 go_wp2_with fail
 go_loopw [5] (fun i wr => ∃ k:Nat,k ≤ xs.length∧i = .int .i64 k∧Below w.heap.size w wr) (fun i _ => xs.length - (intOf i).toNat)
 case atStart => exact ⟨0,Nat.zero_le _,rfl,Below.refl _ _⟩
 case round =>
  obtain ⟨k,hk,rfl,hbel⟩:=hrel
  have hsz1:=hbel.size
  by_cases hlt:k < xs.length
  ·obtain ⟨b1,f1,c1,s1,hv1,hb1,g1,g2,_,r1⟩:=A1.out k hlt
   obtain ⟨b2,f2,c2,s2,hv2,hb2,g3,g4,_,r2⟩:=A2.out k hlt
   simp only [Value.slice.injEq,true_and] at hv1 hv2
   obtain ⟨rfl,rfl⟩:=hv1
   obtain ⟨rfl,rfl⟩:=hv2
   have k1:=(hbel.cell (p:=⟨b1,f1 + k * 2,none⟩) hb1).trans g1
   have k2:=(hbel.cell (p:=⟨b1,f1 + k * 2 + 1,none⟩) hb1).trans g2
   have k3:=(hbel.cell (p:=⟨b2,f2 + k * 2,none⟩) hb2).trans g3
   have k4:=(hbel.cell (p:=⟨b2,f2 + k * 2 + 1,none⟩) hb2).trans g4
   obtain ⟨n,hn⟩:∃ n,n = xs[k].1:=⟨_,rfl⟩
   obtain ⟨f,hf⟩:∃ f,f = xs[k].2:=⟨_,rfl⟩
   rw [← hn] at k1 k3
   rw [← hf] at r1 r2
   obtain ⟨o1,d1,rfl,_,_⟩:=r1.val
   obtain ⟨o2,d2,rfl,_,_⟩:=r2.val
   have HEQ:Hid (∀ W:World,W.heap = wr.heap→Calls Tryz.prog 109 #[.agg #[.int .i64 n,.slice o1 f.length d1],.agg #[.int .i64 n,.slice o2 f.length d2]] W (RetV W (.bool true))):=Lib.hid (fun W hW => eqv_Part _ _ n f W ((r1.below hbel (Nat.le_refl _)).of_heap hW) ((r2.below hbel (Nat.le_refl _)).of_heap hW))
   have i1:(0:Int) ≤ (k:Int):=by omega
   have i2:(k:Int) < (xs.length:Int):=by omega
   clear g1 g2 g3 g4 r1 r2 hn hf
   go_wp2_with fail
   go_region_law ((refine step_call rfl 109 _ _ rfl EG.out #[.agg #[.int .i64 n,.slice o1 f.length d1],.agg #[.int .i64 n,.slice o2 f.length d2]] (by simp [Act.eval]) ?_;refine Calls.mono (HEQ.out _ (by rfl)) ?_;rintro e w2 ⟨rfl,b3⟩;have b3':Below wr.heap.size wr w2:=⟨b3.os,b3.tape,b3.output,b3.size,b3.block⟩;refine ⟨_,rfl,?_⟩))
   all_goals
    have hb4:=hbel.trans (b3'.mono hsz1)
    go_wp2_with fail
    go_roundw
    case rel => exact ⟨k + 1,by omega,by go_num,hb4⟩
    case measure => simp [intOf] <;> omega
  ·go_wp2_with fail
   go_ret
   exact ⟨rfl,hbel⟩
end Go.Proofs.YtgngidchldajhaaGreat
namespace Go.Proofs.YtgngidchldajhaaGreat
open Go.RowKit
section
variable {β:Type} {S:Rep β} {w:World}
end
end Go.Proofs.YtgngidchldajhaaGreat
namespace Go.Proofs.YtgngidchldajhaaGreat
open Go.RowKit
section
variable {β:Type} {S:Rep β} {w:World}
theorem Own.setPart {v:Value} {xs:List (Int × β)} {lo hi:Nat} (h:Own (RS (RP RI S)) lo hi w [v] xs) (hS:S.k = 1) (i:Nat) (hi':i < xs.length) :
  ∃ g cap,v = .slice (some ⟨g,0,none⟩) xs.length cap∧xs.length ≤ cap∧cap ≤ 9223372036854775807∧lo ≤ g∧g < hi∧g < w.heap.size ∧
   ∀ (w1:World) (y:Int × β) (u:Value) (M hi2:Nat),In64 y.1→Own S M hi2 w1 [u] y.2→hi ≤ M→M ≤ hi2→Below hi w w1 →
    (∃ a b,w1.cell? ⟨g,i * 2,none⟩ = some a∧w1.cell? ⟨g,i * 2 + 1,none⟩ = some b)∧w1.frozen? ⟨g,i * 2,none⟩ = false∧w1.frozen? ⟨g,i * 2 + 1,none⟩ = false ∧
    Own (RS (RP RI S)) lo hi2 ((w1.setCell ⟨g,i * 2,none⟩ (.int .i64 y.1)).setCell ⟨g,i * 2 + 1,none⟩ u) [v] (xs.set i y)∧Chg lo hi w1 ((w1.setCell ⟨g,i * 2,none⟩ (.int .i64 y.1)).setCell ⟨g,i * 2 + 1,none⟩ u):=by
 have hk2:(RP RI S).k = 2:=by show 1 + S.k = 2;omega
 obtain ⟨og,ds,F,hrow,hel,hF,hlt⟩:=h.open
 obtain ⟨g,rfl⟩:=hrow.some_of hi'
 obtain ⟨cap,hv,hc1,hc2⟩:=hrow.slice
 obtain ⟨d1,c0,d2,F1,G,F2,rfl,rfl,hd1,hL1,hx,hL2⟩:=hel.split i hi'
 have la:=(RP RI S).rd_len ((RP RI S).own_rd hx)
 rw [hk2] at la hd1
 match c0,la with
 | [a,b],_ =>
  have hg:=hlt g (by simp)
  have hgs:=hrow.lt g rfl
  refine ⟨g,cap,hv,hc1,by unfold maxLen at hc2;omega,hg.1,hg.2,hgs,?_⟩
  intro w1 y u M hi2 hy1 hy hiM hM2 hbel
  obtain ⟨Gy,hGy,hGyn,hGyl⟩:=hy
  have hrow1:Row w1 v (RP RI S).k xs.length (d1 ++ ([a,b] ++ d2)) (some g):=hrow.frame (fun g' hg' => by cases hg';exact hbel.block g hg.2)
  obtain ⟨s1,r1⟩:=hrow1.store (i * 2) (.int .i64 y.1)
  have hset:(d1 ++ ([a,b] ++ d2)).set (i * 2) (.int .i64 y.1) = d1 ++ ([.int .i64 y.1,b] ++ d2):=by
   rw [List.set_append_right _ _ (by omega),hd1,Nat.sub_self];rfl
  rw [hset] at s1
  obtain ⟨s2,r2⟩:=s1.store (i * 2 + 1) u
  have hset2:(d1 ++ ([.int .i64 y.1,b] ++ d2)).set (i * 2 + 1) u = d1 ++ ([.int .i64 y.1,u] ++ d2):=by
   rw [List.set_append_right _ _ (by omega),hd1,Nat.add_sub_cancel_left];rfl
  rw [hset2] at s2
  obtain ⟨W,hW⟩:∃ W,W = (w1.setCell ⟨g,i * 2,none⟩ (.int .i64 y.1)).setCell ⟨g,i * 2 + 1,none⟩ u:=⟨_,rfl⟩
  have hWh:∀ z,z ≠ g→W.heap[z]? = w1.heap[z]?:=fun z hz => by
   rw [hW,heap_setCell_other _ ⟨g,i * 2 + 1,none⟩ z u hz,heap_setCell_other _ ⟨g,i * 2,none⟩ z _ hz]
  rw [← hW] at s2 r2 ⊢
  have hne:∀ z,z ∈ F1 ++ (G ++ F2)→z ≠ g:=by
   intro z hz e;subst e
   exact (List.nodup_append.1 hF).2.2 z (by simp) z hz rfl
  have hfr:∀ z,z ∈ F1 ++ (G ++ F2)→W.heap[z]? = w.heap[z]?:=by
   intro z hz
   rw [hWh z (hne z hz)]
   exact hbel.block z (hlt z (List.mem_append_right _ hz)).2
  have hGf:∀ z,z ∈ Gy→W.heap[z]? = w1.heap[z]?:=by
   intro z hz
   have:=(hGyl z hz).1
   exact hWh z (by omega)
  have hyc:(RP RI S).own W [.int .i64 y.1,u] y Gy:=⟨[.int .i64 y.1],[u],[],Gy,rfl,rfl,⟨⟨rfl,hy1⟩,rfl⟩,S.own_frame hGy hGf⟩
  have hjoin:=ownL.join (R:=RP RI S) hi' (hL1.frame fun z hz => hfr z (by simp [hz])) hyc (hL2.frame fun z hz => hfr z (by simp [hz]))
  refine ⟨⟨a,b,hrow1.cells (i * 2) a (by rw [List.getElem?_append_right (by omega),hd1];simp),hrow1.cells (i * 2 + 1) b (by rw [List.getElem?_append_right (by omega),hd1,Nat.add_sub_cancel_left];rfl)⟩,hrow1.frozen _,hrow1.frozen _,?_,
   (Chg.of_grown r1 (fun z hz => by cases hz;exact hg)).trans (Chg.of_grown r2 (fun z hz => by cases hz;exact hg))⟩
  refine Own.mk' (og:=some g) (ds:=d1 ++ ([.int .i64 y.1,u] ++ d2)) (by rw [List.length_set];exact s2) hjoin ?_ ?_
  ·have hb:(F1 ++ F2).Nodup:=(List.nodup_append.1 hF).2.1.sublist (List.Sublist.append (List.Sublist.refl _) (List.sublist_append_right _ _))
   have hb1:=List.nodup_append.1 hb
   have hab:∀ z,z ∈ Gy→z ∉ F1 ++ F2∧z ≠ g:=by
    intro z hz
    have h1:=(hGyl z hz).1
    refine ⟨fun hm => ?_,by omega⟩
    have:=(hlt z (by
     rcases List.mem_append.1 hm with hm|hm
     ·simp [hm]
     ·simp [hm])).2
    omega
   simp only [Option.toList_some,List.singleton_append,List.nodup_cons]
   constructor
   ·intro hm
    simp only [List.mem_append] at hm
    rcases hm with hm|hm|hm
    ·exact hne g (by simp [hm]) rfl
    ·exact (hab g hm).2 rfl
    ·exact hne g (by simp [hm]) rfl
   ·refine List.nodup_append.2 ⟨hb1.1,List.nodup_append.2 ⟨hGyn,hb1.2.1,fun z hz z' hz' e => ?_⟩,fun z hz z' hz' e => ?_⟩
    ·subst e;exact (hab z hz).1 (by simp [hz'])
    ·subst e
     rcases List.mem_append.1 hz' with hz'|hz'
     ·exact (hab z hz').1 (by simp [hz])
     ·exact hb1.2.2 z hz z hz' rfl
  ·intro z hz
   simp only [List.mem_append,Option.mem_toList,Option.some.injEq] at hz
   rcases hz with hz|hz|hz|hz
   ·subst hz;omega
   ·have:=hlt z (by simp [hz]);omega
   ·have:=hGyl z hz;omega
   ·have:=hlt z (by simp [hz]);omega
end
theorem heap3a (w:World) (a b c:Go.Obj):(((w.alloc a).alloc b).alloc c).heap[w.heap.size + 1]? = some b:=by
 rw [Go.heap_alloc_old _ _ (by simp),Go.heap_alloc2_new]
theorem heap3b (w:World) (a b c:Go.Obj):(((w.alloc a).alloc b).alloc c).heap[w.heap.size + 1 + 1]? = some c:=by
 have e:((w.alloc a).alloc b).heap.size = w.heap.size + 1 + 1:=by simp
 rw [← e,Go.heap_alloc_new]
def szN:List (Int × List (List Int))→Nat
 | [] => 0
 | p :: ps => (p.2.length + sumLen p.2) + szN ps
def szP (e:List (Int × List (List Int))):Prop:=e.length + szN e ≤ 1048576
theorem szN_mem:∀ {e:List (Int × List (List Int))} {p:Int × List (List Int)},p ∈ e→p.2.length + sumLen p.2 ≤ szN e
 | q :: e,p,h => by
  rcases List.mem_cons.1 h with rfl|h
  ·unfold szN;omega
  ·have:=szN_mem h;unfold szN;omega
theorem cnt_le_szN:∀ (e:List (Int × List (List Int))),cnt_P e ≤ e.length + szN e
 | [] => by simp [cnt_P]
 | p :: e => by
  have:=cnt_le_szN e
  unfold cnt_P szN cnt_II
  simp only [List.length_cons]
  omega
theorem cntb_P (e:List (Int × List (List Int))) (h:szP e):cnt_P e ≤ 1048576:=Nat.le_trans (cnt_le_szN e) h
theorem madeCells_parts (n:Nat):(madeCells (Value.agg #[.int .i64 0,.slice none 0 0]).cells (n * 2)).toList = (List.replicate n [Value.int .i64 0,Value.slice none 0 0]).flatten:=by
 exact madeCells_rep (z:=.agg #[.int .i64 0,.slice none 0 0]) (ds:=[.int 0,.sl 1 []]) ⟨rfl,rfl⟩ (by decide) n
theorem ownL_parts {w:World}:∀ n,ownL RPart w (List.replicate n [Value.int .i64 0,Value.slice none 0 0]).flatten (List.replicate n (0,[])) []
 | 0 => ⟨rfl,rfl⟩
 | n + 1 => ⟨[.int .i64 0,.slice none 0 0],_,[],[],rfl,rfl,⟨[.int .i64 0],[.slice none 0 0],[],[],rfl,rfl,⟨⟨rfl,by show In64 0;unfold In64;omega⟩,rfl⟩,⟨.slice none 0 0,none,[],[],rfl,Row.nil w 1,⟨rfl,rfl⟩,rfl⟩⟩,ownL_parts n⟩
theorem tPartI:ST Tryz.prog 64 84 (.agg #[.int .i64 0,.slice none 0 0]) 2 32:=ST.mk' (by kernel_rfl) (by kernel_rfl) rfl (by decide)
set_option maxRecDepth 100000 in
set_option maxHeartbeats 1000000 in
theorem c_toPart (s:Value) (n:Int) (f:List (List Int)) (w:World) (h:Rd (RS (RS RI)) w [s] f) (hn:In64 n) (hsz:szII f) :
  Calls Tryz.prog 102 #[.agg #[.int .i64 n,s]] w fun e w' => ∃ u,e = .returned (.agg #[.int .i64 n,u])∧Own (RS (RS RI)) w.heap.size w'.heap.size w' [u] f∧Below w.heap.size w w':=by
 obtain ⟨o1,c1,rfl,_,_⟩:=h.val
 have H1:=Lib.hid h
 clear h
 go_enter Tryz.func102,Tryz.ntmps102
 go_wp2_with fail
 obtain ⟨W,hW⟩:∃ W,W = ((w.alloc (.cells #[.int .i64 n,.slice o1 f.length c1] 122)).alloc (.cells #[.int .i64 0,.slice none 0 0] 84)).alloc (.cells #[.int .i64 n,.slice none 0 0] 84):=⟨_,rfl⟩
 have bW:Below w.heap.size w W:=by
  rw [hW]
  have b1:=(Below.refl w.heap.size w).alloc (Nat.le_refl _) (.cells #[.int .i64 n,.slice o1 f.length c1] 122)
  have b2:=b1.alloc b1.size (.cells #[.int .i64 0,.slice none 0 0] 84)
  exact b2.alloc b2.size (.cells #[.int .i64 n,.slice none 0 0] 84)
 have hsW:W.heap.size = w.heap.size + 3:=by rw [hW];simp
 have k1:W.heap[w.heap.size + 1]? = some (.cells #[.int .i64 0,.slice none 0 0] 84):=by rw [hW];exact heap3a _ _ _ _
 have k2:W.heap[w.heap.size + 1 + 1]? = some (.cells #[.int .i64 n,.slice none 0 0] 84):=by rw [hW];exact heap3b _ _ _ _
 rw [← hW]
 refine (to_II _ f W (H1.out.below bW (Nat.le_refl _)) hsz).mono ?_
 rintro e w2 ⟨u,rfl,o2,b2⟩
 obtain ⟨o3,c3,rfl,l1,l2⟩:=o2.val
 have k1:=(b2.block (w.heap.size + 1) (by omega)).trans k1
 have k2:=(b2.block (w.heap.size + 1 + 1) (by omega)).trans k2
 have c20:w2.cell? ⟨w.heap.size + 1 + 1,0,none⟩ = some (.int .i64 n):=by simp [World.cell?,k2]
 have c21:w2.cell? ⟨w.heap.size + 1 + 1,1,none⟩ = some (.slice none 0 0):=by simp [World.cell?,k2]
 have c10:w2.cell? ⟨w.heap.size + 1,0,none⟩ = some (.int .i64 0):=by simp [World.cell?,k1]
 have c11:w2.cell? ⟨w.heap.size + 1,1,none⟩ = some (.slice none 0 0):=by simp [World.cell?,k1]
 have f20:w2.frozen? ⟨w.heap.size + 1 + 1,0,none⟩ = false:=by simp [World.frozen?,k2]
 have f21:w2.frozen? ⟨w.heap.size + 1 + 1,1,none⟩ = false:=by simp [World.frozen?,k2]
 have f10:w2.frozen? ⟨w.heap.size + 1,0,none⟩ = false:=by simp [World.frozen?,k1]
 have f11:w2.frozen? ⟨w.heap.size + 1,1,none⟩ = false:=by simp [World.frozen?,k1]
 go_wp2_with fail
 have b3:=(((bW.trans (b2.mono (by omega))).setCell (p:=⟨w.heap.size + 1 + 1,1,none⟩) (by show w.heap.size ≤ w.heap.size + 1 + 1;omega) (.slice o3 f.length c3)).setCell (p:=⟨w.heap.size + 1,0,none⟩) (by show w.heap.size ≤ w.heap.size + 1;omega) (.int .i64 n)).setCell (p:=⟨w.heap.size + 1,1,none⟩) (by show w.heap.size ≤ w.heap.size + 1;omega) (.slice o3 f.length c3)
 have hfin:∀ z,w.heap.size + 3 ≤ z→(((w2.setCell ⟨w.heap.size + 1 + 1,1,none⟩ (.slice o3 f.length c3)).setCell ⟨w.heap.size + 1,0,none⟩ (.int .i64 n)).setCell ⟨w.heap.size + 1,1,none⟩ (.slice o3 f.length c3)).heap[z]? = w2.heap[z]?:=fun z hz => by
  rw [heap_setCell_other _ ⟨w.heap.size + 1,1,none⟩ z _ (by show z ≠ w.heap.size + 1;omega),heap_setCell_other _ ⟨w.heap.size + 1,0,none⟩ z _ (by show z ≠ w.heap.size + 1;omega),heap_setCell_other _ ⟨w.heap.size + 1 + 1,1,none⟩ z _ (by show z ≠ w.heap.size + 1 + 1;omega)]
 have o4:Own (RS (RS RI)) w.heap.size (((w2.setCell ⟨w.heap.size + 1 + 1,1,none⟩ (.slice o3 f.length c3)).setCell ⟨w.heap.size + 1,0,none⟩ (.int .i64 n)).setCell ⟨w.heap.size + 1,1,none⟩ (.slice o3 f.length c3)).heap.size (((w2.setCell ⟨w.heap.size + 1 + 1,1,none⟩ (.slice o3 f.length c3)).setCell ⟨w.heap.size + 1,0,none⟩ (.int .i64 n)).setCell ⟨w.heap.size + 1,1,none⟩ (.slice o3 f.length c3)) [.slice o3 f.length c3] f:=by
  obtain ⟨F,h1,h2,h3⟩:=o2
  refine ⟨F,(RS (RS RI)).own_frame h1 (fun z hz => hfin z (by have:=h3 z hz;omega)),h2,fun z hz => ?_⟩
  have:=h3 z hz
  have hsz3:(((w2.setCell ⟨w.heap.size + 1 + 1,1,none⟩ (.slice o3 f.length c3)).setCell ⟨w.heap.size + 1,0,none⟩ (.int .i64 n)).setCell ⟨w.heap.size + 1,1,none⟩ (.slice o3 f.length c3)).heap.size = w2.heap.size:=by simp
  omega
 refine bodyPost_ret (v:=.agg #[.int .i64 n,.slice o3 f.length c3]) ?_ rfl ⟨_,rfl,o4,b3⟩
 have hres:Tryz.f102.results = #[.cell 2 84]:=by kernel_rfl
 clear o4 b3 hfin b2 o2 bW
 simp only [results,hres]
 go_simp
set_option maxRecDepth 100000 in
set_option maxHeartbeats 1000000 in
theorem to_P (v:Value) (xs:List (Int × List (List Int))) (w:World) (h:Rd (RS RPart) w [v] xs) (hsz:szP xs) :
  Calls Tryz.prog 34 #[v] w (RetO (RS RPart) w xs):=by
 have hat:=fun i hi => h.partAt (S:=RS (RS RI)) rfl i hi
 obtain ⟨oa,cap,rfl,m1,m2⟩:=h.val
 unfold maxLen at m2
 have HA:=Lib.hid hat
 have hln:xs.length ≤ 1048576:=by unfold szP at hsz;omega
 have HZ:=Lib.hid hsz
 clear hat h hsz
 go_enter Tryz.func34,Tryz.ntmps34
 go_wp2_with (at_make;refine wpList_makeRow rfl _ _ 64 rfl 84 (.agg #[.int .i64 0,.slice none 0 0]) 2 32 tPartI _ _ _ _ xs.length rfl rfl rfl rfl (by omega) (by unfold maxLen;omega) ?_;rintro v1 w1 hrow0 hgr0 rfl)
 rw [madeCells_parts] at hrow0
 have hb0:Below w.heap.size w w1:=Below.of_grown hgr0 (Nat.le_refl _) (fun g hg => by cases hg)
 have HO:Hid (Own (RS RPart) w.heap.size w1.heap.size w1 [.slice (some ⟨w.heap.size,0,none⟩) xs.length xs.length] (List.replicate xs.length (0,[]))):=Lib.hid (Own.mk' (og:=some w.heap.size) (F:=[]) (ds:=(List.replicate xs.length [Value.int .i64 0,Value.slice none 0 0]).flatten) (by rw [List.length_replicate];exact hrow0) (ownL_parts xs.length) (by simp) (fun b hb => by have:=hrow0.lt w.heap.size rfl;simp at hb;omega))
 clear hrow0 hgr0
 go_wp2_with fail
 go_loopw [4] (fun i wr => ∃ (k:Nat) (z:List (Int × List (List Int))),k ≤ xs.length∧i = .int .i64 k∧Hid (z = xs.take k ++ List.replicate (xs.length - k) (0,[]))∧Hid (Own (RS RPart) w.heap.size wr.heap.size wr [.slice (some ⟨w.heap.size,0,none⟩) xs.length xs.length] z)∧Below w.heap.size w wr) (fun i _ => xs.length - (intOf i).toNat)
 case atStart => exact ⟨0,_,Nat.zero_le _,rfl,Lib.hid (by simp),HO,hb0⟩
 case round =>
  obtain ⟨k,z,hk,rfl,hz,hown,hbel⟩:=hrel
  have hsz1:=hbel.size
  clear HO
  by_cases hlt:k < xs.length
  ·obtain ⟨b,off,cap2,s,hv2,hb,g1,g2,hin,hrd⟩:=HA.out k hlt
   simp only [Value.slice.injEq,true_and] at hv2
   obtain ⟨rfl,rfl⟩:=hv2
   have g1':=(hbel.cell (p:=⟨b,off + k * 2,none⟩) hb).trans g1
   have g2':=(hbel.cell (p:=⟨b,off + k * 2 + 1,none⟩) hb).trans g2
   have hzl:z.length = xs.length:=by rw [hz.out];simp;omega
   obtain ⟨g,cap',hv,_,_,hg1,hg2,hg3,hK⟩:=hown.out.setPart (S:=RS (RS RI)) rfl k (by rw [hzl];exact hlt)
   rw [hzl] at hv
   simp only [Value.slice.injEq,Option.some.injEq,Addr.mk.injEq,and_true,true_and] at hv
   obtain ⟨rfl,rfl⟩:=hv
   have hset:z.set k xs[k] = xs.take (k + 1) ++ List.replicate (xs.length - (k + 1)) (0,[]):=by
    rw [hz.out,List.set_append_right _ _ (by simp;omega)]
    have e:k - (xs.take k).length = 0:=by simp;omega
    rw [e,show xs.length - k = (xs.length - (k + 1)) + 1 by omega,List.replicate_succ,List.set_cons_zero,List.take_succ_eq_append_getElem hlt,List.append_assoc,List.singleton_append]
   have hxl:szII xs[k].2:=by
    have h1:=szN_mem (List.getElem_mem hlt)
    have h2:=HZ.out
    unfold szP at h2
    unfold szII
    omega
   have HK:=Lib.hid hK
   have hto:=c_toPart s xs[k].1 xs[k].2 wr (hrd.below hbel (Nat.le_refl _)) hin hxl
   obtain ⟨os,cs,rfl,l1,l2⟩:=hrd.val
   obtain ⟨x,hx⟩:∃ x,x = xs[k]:=⟨_,rfl⟩
   rw [← hx] at g1' g2' hset hto hin l1
   have HSET:=Lib.hid hset
   have HIN:=Lib.hid hin
   have HTO:=Lib.hid hto
   clear g1 g2 hrd hx hset hK hto hxl hin
   go_wp2_with (go_at_call 102;refine HTO.out.mono ?_;rintro e w2 ⟨u,rfl,o2,b2⟩;obtain ⟨ou,cu,rfl,lu1,lu2⟩:=o2.val;obtain ⟨⟨a1,a2,f1,f2⟩,f3,f4,f5,f6⟩:=HK.out w2 x (.slice ou x.2.length cu) wr.heap.size w2.heap.size HIN.out o2 (Nat.le_refl _) b2.size b2;have HF:=Lib.hid f5;have hb3:Below w.heap.size w w2:=hbel.trans (b2.mono hsz1);have hb4:=(hb3.setCell (p:=⟨w.heap.size,k * 2,none⟩) (Nat.le_refl _) (.int .i64 x.1)).setCell (p:=⟨w.heap.size,k * 2 + 1,none⟩) (Nat.le_refl _) (.slice ou x.2.length cu);clear f5 f6 o2)
   go_roundw
   case rel => exact ⟨k + 1,_,by omega,by go_num,HSET,Lib.hid (HF.out.top _ (by simp)),hb4⟩
   case measure => simp [intOf];omega
  ·have hfin:Hid (z = xs):=Lib.hid (by rw [hz.out,List.take_of_length_le (by omega),show xs.length - k = 0 by omega];simp)
   go_wp2_with fail
   go_ret
   exact ⟨_,rfl,hfin.out ▸ hown.out,hbel⟩
end Go.Proofs.YtgngidchldajhaaGreat
