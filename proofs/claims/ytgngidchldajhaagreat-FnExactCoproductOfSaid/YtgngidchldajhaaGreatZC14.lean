/- Lemmas (14). -/
import Derived.Test.YtgngidchldajhaaGreatZC7
import Derived.Test.YtgngidchldajhaaGreatZC9
import Derived.Test.YtgngidchldajhaaGreatZC12
import Derived.Test.YtgngidchldajhaaGreatZC13
set_option linter.unusedSimpArgs false
set_option linter.unusedVariables false
namespace Go.Proofs.YtgngidchldajhaaGreat
open Go.RowKit
def codLLL:Cod (List (List (List Int))):=codS 1 codLL
theorem codLLL_d (f g:List (List Int)):codLLL.d [.sl 1 [[.sl 1 (f.map eL)],[.sl 1 (g.map eL)]]] = some [f,g]:=codLLL.de [f,g]
def cat2:List (List (List Int))→Option (List Res)
 | [f,g] => if SmF f∧SmF g then some [.val (.sl 1 ((f ++ g).map eL))] else none
 | _ => none
theorem cat2_eq (f g:List (List Int)):cat2 [f,g] = if SmF f∧SmF g then some [.val (.sl 1 ((f ++ g).map eL))] else none:=rfl
noncomputable def TCat:Tab Tryz.prog :=
 Tab.none.add 155 (tab1 codLLL cat2) (tab1_ok fun bs rs h => by
  unfold cat2 at h
  split at h
  ·rename_i f g
   split at h
   ·rename_i hs
    cases h
    have hc:=AFn.val1 (a_slicesConcatL [f,g] (by simp [cntL];have:=hs.1.1;have:=hs.2.1;omega) (by simp))
    simp only [List.flatten_cons,List.flatten_nil,List.append_nil] at hc
    exact hc
   ·cases h
  ·cases h)
theorem a_branchesOf (t:List Int) (h:LevP t) (hl:t.length ≤ 1000):AFn Tryz.prog 78 [eL t] (· = [.own 1 ((brs t).map eL) true]) :=
 afn_L_oo (enters_of Tryz.func78 rfl rfl) (fun u w h' => c_impl_branchesOf u t w h' h (by omega))
theorem foldS_snoc (A:List Spl) (Ls:List (List Spl)) (L:List Spl):foldS A (Ls ++ [L]) = (foldS A Ls).flatMap fun s => L.map (catS s):=by unfold foldS;rw [List.foldl_append];rfl
theorem flatS_len (A L:List Spl):(A.flatMap fun s => L.map (catS s)).length = A.length * L.length:=by
 induction A with
 | nil => simp
 | cons a A ih => rw [List.flatMap_cons,List.length_append,ih,List.length_map,List.length_cons,Nat.succ_mul,Nat.add_comm]
set_option maxRecDepth 20000 in
set_option maxHeartbeats 8000000 in
theorem a_splitTree:∀ (n:Nat),n ≤ 8→∀ t:List Int,LevP t→t.length ≤ n→AFn Tryz.prog 81 [eL t] (· = [.own 3 ((split t).map eS0) false])
 | 0,_,t,h,hn => by have:=h.pos;omega
 | n + 1,hn8,t,h,hn => by
  have hsb:=sumLen_brs h
  have hlev:=brs_lev h
  have hbr:=AFn.valT (a_branchesOf t h (by omega))
  have hbl:(brs t).length ≤ 8:=by have:=brs_few h;omega
  have hca:=AFn.valT (a_canonical13 t h (by omega))
  simp only [eL] at hbr hca
  have hAg:∀ k,(∀ s ∈ prodS (((brs t).take k).map split),GoodS (sumLen ((brs t).take k)) s)∧(prodS (((brs t).take k).map split)).length ≤ 256∧sumLen ((brs t).take k) ≤ 7:=fun k => by
   have h1:=sumLen_take' (brs t) k
   exact ⟨prod_good (mem_take hlev),prod_len (mem_take hlev) (by omega),by omega⟩
  rw [split_eq h]
  refine AFn.of_runs (cfg_ok 80) Tryz.func81 rfl rfl rfl (by simp only [List.length_cons,List.length_nil];decide) ?_
  have hres:Tryz.f81.results.toList = [.tmp 2]:=rfl
  have hrts:Tryz.f81.resultTypes.toList = [50]:=rfl
  simp only [argRegs,argAV1,eL]
  intro M
  refine RunK.of ?_
  repeat' (first|with_reducible (first|refine Q1 ?_|refine Q2 ?_|refine Q3 ?_|refine Q4 ?_|refine Q5 ?_|refine Q6 ?_|refine Q7 ?_|refine Q8 ?_|refine Q9 ?_|refine Qa ?_|refine Qb ?_|refine Qc ?_|refine Qd ?_|refine Qe ?_|refine Qf ?_)|((with_reducible refine Qo ?_ ?_);focus rfl)|((with_reducible first|refine QT 59 (l:=?_) ?_ ?_|refine QF 59 (l:=?_) ?_ ?_);rotate_left 1;focus (simp only [Zu,Nat.reduceSub,Nat.reduceBEq];with_reducible rfl))|((with_reducible first|refine QS (cfg_ok 80) (Tab.none.at' 78 hbr) (s':=?_) ?_ ?_|refine QC (b:=?_) ?_ ?_);rotate_left 1;focus ((with_reducible refine QW ?_);simp only [Zg,seval,Nat.reduceEqDiff,List.length_map];with_reducible rfl))|((with_reducible refine QD (cfg_ok 80) (Tab.none.at' 78 hbr) mixed_ok (tr:=?_) (s':=?_) ?_ ?_ ?_);rotate_left 2;(focus ((with_reducible refine QW ?_);simp only [Zg,Zd,seval,if_true,if_false,reduceCtorEq,Nat.reduceEqDiff,List.length_map];with_reducible rfl));focus ((with_reducible refine QK ?_);simp only [Zk];kernel_rfl)))
  refine RunK.loop (β:=Nat) (γ:=Unit) (fun k => ⟨[(0,.c (.val (.sl 1 (t.map eI)))),(3,.c (.own 3 (prodS (((brs t).take k).map split)).length)),(16,.c (.val (.sl 1 ((brs t).map eL)))),(17,.c (.val (.int (brs t).length))),(18,.c (.val (.int k)))],[(3,.row 3 ((prodS (((brs t).take k).map split)).map eS0) false)]⟩) (fun k => k ≤ (brs t).length) (fun k => (brs t).length - k)
   (fun _ => ⟨[(0,.c (.val (.sl 1 (t.map eI)))),(3,.c (.own 3 (prodS ((brs t).map split)).length))],[(3,.row 3 ((prodS ((brs t).map split)).map eS0) false)]⟩) (fun _ => True) 0 (Nat.zero_le _) ?_ ?_ ?_
  ·(repeat' (first|with_reducible refine Qn|((with_reducible refine Qr ?_ ?_);focus (first|with_reducible rfl|(simp only [Zz,Nat.reduceBEq,List.take_zero,List.map_nil,show prodS [] = [([],[])] from rfl,Int.natCast_zero];done)|rfl))|((with_reducible refine Qj (o':=?_) ?_ ?_ ?_);rotate_left 1;focus rfl)|((with_reducible refine Qw ?_ ?_);(focus (first|with_reducible rfl|(simp only [Zv,List.take_zero,show prodS [] = [([],[])] from rfl,eS0];done)));focus (first|exact id|exact (fun h => nomatch h)|exact (fun _ => rfl)))))
  ·intro k hk
   have hk:k ≤ (brs t).length:=hk
   have hwk:=w64_succ (n:=k) (by omega)
   obtain ⟨g1,g2,g3⟩:=hAg k
   by_cases hkb:k < (brs t).length
   ·have i1:((k:Int) < ((brs t).length:Int)) = True:=eq_true (by omega)
    have i2:((0:Int) ≤ (k:Int)) = True:=eq_true (by omega)
    obtain ⟨b,hb⟩:∃ b,b = (brs t)[k]:=⟨_,rfl⟩
    have hbm:b ∈ brs t:=by rw [hb];exact List.getElem_mem _
    have hg:((brs t).map eL)[k]? = some [.sl 1 (b.map eI)]:=by rw [map_get hkb,hb];rfl
    have hle:((brs t).map eL).length = (brs t).length:=List.length_map _
    have hblen:=brs_short h b hbm
    have hih:=AFn.val1 (a_splitTree n (by omega) b (hlev b hbm) (by omega))
    have hgB:=split_good _ (Nat.le_refl _) (hlev b hbm)
    have hlB:(split b).length ≤ 256:=by
     have h1:=split_len _ (Nat.le_refl _) (hlev b hbm)
     have h2:2 ^ b.length ≤ 2 ^ 8:=Nat.pow_le_pow_right (by decide) (by omega)
     omega
    have htk:prodS (((brs t).take (k + 1)).map split) = (prodS (((brs t).take k).map split)).flatMap fun s => (split b).map (catS s):=by
     rw [hb,List.take_succ_eq_append_getElem hkb,List.map_append];exact foldS_snoc _ _ _
    have hn2:(prodS (((brs t).take (k + 1)).map split)).length ≤ 256:=(hAg (k + 1)).2.1
    obtain ⟨A,hA⟩:∃ A,A = prodS (((brs t).take k).map split):=⟨_,rfl⟩
    obtain ⟨B,hB⟩:∃ B,B = split b:=⟨_,rfl⟩
    rw [← hA] at g1 g2 htk ⊢
    rw [← hB] at hih hgB hlB htk
    rw [htk] at hn2
    simp only [eL] at hih
    have hsA:∀ s ∈ A,SmS s:=fun s hs => ((g1 s hs).ha (by omega)).sm
    have hsB:∀ s ∈ B,SmS s:=fun s hs => ((hgB s hs).ha (by omega)).sm
    have hAl:(A.map eS0).length = A.length:=List.length_map _
    repeat' (first|with_reducible (first|refine Q1 ?_|refine Q2 ?_|refine Q3 ?_|refine Q4 ?_|refine Q5 ?_|refine Q6 ?_|refine Q7 ?_|refine Q8 ?_|refine Q9 ?_|refine Qa ?_|refine Qb ?_|refine Qc ?_|refine Qd ?_|refine Qe ?_|refine Qf ?_)|((with_reducible refine Qo ?_ ?_);focus rfl)|((with_reducible first|refine QT 59 (l:=?_) ?_ ?_|refine QF 59 (l:=?_) ?_ ?_);rotate_left 1;focus (simp only [Zu,Nat.reduceSub,Nat.reduceBEq];with_reducible rfl))|((with_reducible first|refine QS (cfg_ok 80) Tab.none (s':=?_) ?_ ?_|refine QC (b:=?_) ?_ ?_);rotate_left 1;focus ((with_reducible refine QW ?_);simp only [Zg,seval,Nat.reduceEqDiff,i1,i2,hg,hle,Int.toNat_natCast];with_reducible rfl))|((with_reducible refine QD (cfg_ok 80) Tab.none mixed_ok (tr:=?_) (s':=?_) ?_ ?_ ?_);rotate_left 2;(focus ((with_reducible refine QW ?_);simp only [Zg,Zd,seval,if_true,if_false,reduceCtorEq,Nat.reduceEqDiff,i1,i2,hg,hle,Int.toNat_natCast,List.length_map];with_reducible rfl));focus ((with_reducible refine QK ?_);simp only [Zk];kernel_rfl)))
    refine RunK.loop (β:=Nat) (γ:=Unit) (fun i => ⟨[(0,.c (.val (.sl 1 (t.map eI)))),(3,.c (.own 3 A.length)),(5,.c (.val (.sl 1 (b.map eI)))),(6,.c (.own 6 ((A.take i).flatMap fun s => B.map (catS s)).length)),(16,.c (.val (.sl 1 ((brs t).map eL)))),(17,.c (.val (.int (brs t).length))),(18,.c (.val (.int k))),(23,.c (.own 3 A.length)),(24,.c (.val (.int A.length))),(25,.c (.val (.int i)))],
      [(3,.row 3 (A.map eS0) false),(6,.row 3 (((A.take i).flatMap fun s => B.map (catS s)).map eS0) false)]⟩) (fun i => i ≤ A.length) (fun i => A.length - i)
     (fun _ => ⟨[(0,.c (.val (.sl 1 (t.map eI)))),(6,.c (.own 6 (A.flatMap fun s => B.map (catS s)).length)),(16,.c (.val (.sl 1 ((brs t).map eL)))),(17,.c (.val (.int (brs t).length))),(18,.c (.val (.int k)))],[(6,.row 3 ((A.flatMap fun s => B.map (catS s)).map eS0) false)]⟩) (fun _ => True) 0 (Nat.zero_le _) ?_ ?_ ?_
    ·(repeat' (first|with_reducible refine Qn|((with_reducible refine Qr ?_ ?_);focus (first|with_reducible rfl|(simp only [Zz,Nat.reduceBEq,List.take_zero,List.flatMap_nil,Int.natCast_zero];done)|rfl))|((with_reducible refine Qj (o':=?_) ?_ ?_ ?_);rotate_left 1;focus rfl)|((with_reducible refine Qw ?_ ?_);(focus (first|with_reducible rfl|(simp only [Zv,List.take_zero,List.flatMap_nil];done)));focus (first|exact id|exact (fun h => nomatch h)|exact (fun _ => rfl)))))
    ·intro i hi
     have hi:i ≤ A.length:=hi
     have hwi:=w64_succ (n:=i) (by omega)
     by_cases hiA:i < A.length
     ·have j1:((i:Int) < (A.length:Int)) = True:=eq_true (by omega)
      have j2:((0:Int) ≤ (i:Int)) = True:=eq_true (by omega)
      obtain ⟨s,hs⟩:∃ s,s = A[i]:=⟨_,rfl⟩
      have hsm:=hsA A[i] (List.getElem_mem _)
      have hgs:(A.map eS0)[i]? = some [.sl 1 (s.1.map eL),.sl 1 (s.2.map eL),.int 0]:=by rw [map_get hiA,hs];rfl
      have htkA:(A.take (i + 1)).flatMap (fun s => B.map (catS s)) = ((A.take i).flatMap fun s => B.map (catS s)) ++ B.map (catS s):=by
       rw [hs,List.take_succ_eq_append_getElem hiA,List.flatMap_append];simp
      have hXl:((A.take i).flatMap fun s => B.map (catS s)).length + B.length ≤ 256:=by
       rw [flatS_len] at hn2 ⊢
       rw [List.length_take,Nat.min_eq_left hi]
       have:(i + 1) * B.length ≤ A.length * B.length:=Nat.mul_le_mul_right _ hiA
       rw [Nat.succ_mul] at this;omega
      rw [← hs] at hsm
      obtain ⟨X,hX⟩:∃ X,X = (A.take i).flatMap fun s => B.map (catS s):=⟨_,rfl⟩
      rw [← hX] at htkA hXl ⊢
      have hBl:(B.map eS0).length = B.length:=List.length_map _
      repeat' (first|with_reducible (first|refine Q1 ?_|refine Q2 ?_|refine Q3 ?_|refine Q4 ?_|refine Q5 ?_|refine Q6 ?_|refine Q7 ?_|refine Q8 ?_|refine Q9 ?_|refine Qa ?_|refine Qb ?_|refine Qc ?_|refine Qd ?_|refine Qe ?_|refine Qf ?_)|((with_reducible refine Qo ?_ ?_);focus rfl)|((with_reducible first|refine QT 59 (l:=?_) ?_ ?_|refine QF 59 (l:=?_) ?_ ?_);rotate_left 1;focus (simp only [Zu,Nat.reduceSub,Nat.reduceBEq];with_reducible rfl))|((with_reducible first|refine QS (cfg_ok 80) (Tab.none.at' 81 hih) (s':=?_) ?_ ?_|refine QC (b:=?_) ?_ ?_);rotate_left 1;focus ((with_reducible refine QW ?_);simp only [Zg,seval,Nat.reduceEqDiff,j1,j2,hgs,hBl,Int.toNat_natCast];with_reducible rfl))|((with_reducible refine QD (cfg_ok 80) (Tab.none.at' 81 hih) mixed_ok (tr:=?_) (s':=?_) ?_ ?_ ?_);rotate_left 2;(focus ((with_reducible refine QW ?_);simp only [Zg,Zd,seval,if_true,if_false,reduceCtorEq,Nat.reduceEqDiff,j1,j2,hgs,hAl,hBl,Int.toNat_natCast];with_reducible rfl));focus ((with_reducible refine QK ?_);simp only [Zk];kernel_rfl)))
      refine RunK.loop (β:=Nat) (γ:=Unit) (fun j => ⟨[(0,.c (.val (.sl 1 (t.map eI)))),(3,.c (.own 3 A.length)),(5,.c (.val (.sl 1 (b.map eI)))),(6,.c (.own 6 (X ++ (B.take j).map (catS s)).length)),(8,.optr 8 0 0),(16,.c (.val (.sl 1 ((brs t).map eL)))),(17,.c (.val (.int (brs t).length))),(18,.c (.val (.int k))),(23,.c (.own 3 A.length)),(24,.c (.val (.int A.length))),(25,.c (.val (.int i))),(30,.c (.val (.sl 3 (B.map eS0)))),(31,.c (.val (.int B.length))),(32,.c (.val (.int j)))],
        [(3,.row 3 (A.map eS0) false),(6,.row 3 ((X ++ (B.take j).map (catS s)).map eS0) false),(8,.row 3 [[.sl 1 (s.1.map eL),.sl 1 (s.2.map eL),.int 0]] false)]⟩) (fun j => j ≤ B.length) (fun j => B.length - j)
       (fun _ => ⟨[(0,.c (.val (.sl 1 (t.map eI)))),(3,.c (.own 3 A.length)),(5,.c (.val (.sl 1 (b.map eI)))),(6,.c (.own 6 (X ++ B.map (catS s)).length)),(16,.c (.val (.sl 1 ((brs t).map eL)))),(17,.c (.val (.int (brs t).length))),(18,.c (.val (.int k))),(23,.c (.own 3 A.length)),(24,.c (.val (.int A.length))),(25,.c (.val (.int i)))],
        [(3,.row 3 (A.map eS0) false),(6,.row 3 ((X ++ B.map (catS s)).map eS0) false)]⟩) (fun _ => True) 0 (Nat.zero_le _) ?_ ?_ ?_
      ·(repeat' (first|with_reducible refine Qn|((with_reducible refine Qr ?_ ?_);focus (first|with_reducible rfl|(simp only [Zz,Nat.reduceBEq,List.take_zero,List.map_nil,List.append_nil,Int.natCast_zero];done)|rfl))|((with_reducible refine Qj (o':=?_) ?_ ?_ ?_);rotate_left 1;focus rfl)|((with_reducible refine Qw ?_ ?_);(focus (first|with_reducible rfl|(simp only [Zv,List.take_zero];done)));focus (first|exact id|exact (fun h => nomatch h)|exact (fun _ => rfl)))))
      ·intro j hj
       have hj:j ≤ B.length:=hj
       have hwj:=w64_succ (n:=j) (by omega)
       by_cases hjB:j < B.length
       ·have l1:((j:Int) < (B.length:Int)) = True:=eq_true (by omega)
        have l2:((0:Int) ≤ (j:Int)) = True:=eq_true (by omega)
        obtain ⟨c,hc⟩:∃ c,c = B[j]:=⟨_,rfl⟩
        have hcm:=hsB B[j] (List.getElem_mem _)
        have hgc:(B.map eS0)[j]? = some [.sl 1 (c.1.map eL),.sl 1 (c.2.map eL),.int 0]:=by rw [map_get hjB,hc];rfl
        have htkB:X ++ (B.take (j + 1)).map (catS s) = (X ++ (B.take j).map (catS s)) ++ [catS s c]:=by
         rw [hc,List.take_succ_eq_append_getElem hjB,List.map_append,List.append_assoc];rfl
        rw [← hc] at hcm
        have hYl:(X ++ (B.take j).map (catS s)).length ≤ 256:=by rw [List.length_append,List.length_map,List.length_take];omega
        obtain ⟨Y,hY⟩:∃ Y,Y = X ++ (B.take j).map (catS s):=⟨_,rfl⟩
        rw [← hY] at htkB hYl ⊢
        have q1:=big_le (n:=Y.length + 1) (by omega)
        have q2:=big_mul (n:=Y.length + 1) (c:=56) (by omega) (by omega)
        have hYm:(Y.map eS0).length = Y.length:=List.length_map _
        have e1:=eq_true (And.intro hsm.1 hcm.1)
        have e2:=eq_true (And.intro hsm.2 hcm.2)
        repeat' (first|with_reducible (first|refine Q1 ?_|refine Q2 ?_|refine Q3 ?_|refine Q4 ?_|refine Q5 ?_|refine Q6 ?_|refine Q7 ?_|refine Q8 ?_|refine Q9 ?_|refine Qa ?_|refine Qb ?_|refine Qc ?_|refine Qd ?_|refine Qe ?_|refine Qf ?_)|((with_reducible refine Qo ?_ ?_);focus rfl)|((with_reducible first|refine QT 59 (l:=?_) ?_ ?_|refine QF 59 (l:=?_) ?_ ?_);rotate_left 1;focus (simp only [Zu,Nat.reduceSub,Nat.reduceBEq];with_reducible rfl))|((with_reducible first|refine QS (cfg_ok 80) Tab.none (s':=?_) ?_ ?_|refine QC (b:=?_) ?_ ?_);rotate_left 1;focus ((with_reducible refine QW ?_);simp only [Zg,seval,Nat.reduceEqDiff,l1,l2,hgc,hBl,Int.toNat_natCast];with_reducible rfl))|((with_reducible refine QD (cfg_ok 80) Tab.none mixed_ok (tr:=?_) (s':=?_) ?_ ?_ ?_);rotate_left 2;(focus ((with_reducible refine QW ?_);simp only [Zg,Zd,seval,Nat.reduceEqDiff];with_reducible rfl));focus ((with_reducible refine QK ?_);simp only [Zk];kernel_rfl)))
        (((with_reducible refine RunK.wFz (cfg_ok 80) TCat mixed_ok [41,47] (tr:=?_) (s1:=?_) (rest:=?_) ?_ ?_ ?_);rotate_left 3;(focus ((with_reducible refine QW ?_);simp only [Zg,Zd,seval,Nat.reduceEqDiff,drunF,devalF,devalB,dregF_mk,TCat,TCat,codLLL_d,cat2_eq,e1,e2];with_reducible rfl));focus ((with_reducible refine QK ?_);simp only [Zk];kernel_rfl));(refine ROps.opsT (cfg_ok 80) (T:=TCat) (s':=?_) ?_ ?_;rotate_left 1;focus (simp only [Zg,seval,Nat.reduceEqDiff,TCat,TCat,q1,q2,hYm];with_reducible rfl)))
        repeat' (first|with_reducible (first|refine Q1 ?_|refine Q2 ?_|refine Q3 ?_|refine Q4 ?_|refine Q5 ?_|refine Q6 ?_|refine Q7 ?_|refine Q8 ?_|refine Q9 ?_|refine Qa ?_|refine Qb ?_|refine Qc ?_|refine Qd ?_|refine Qe ?_|refine Qf ?_)|((with_reducible refine Qo ?_ ?_);focus rfl)|((with_reducible first|refine QT 59 (l:=?_) ?_ ?_|refine QF 59 (l:=?_) ?_ ?_);rotate_left 1;focus (simp only [Zu,Nat.reduceSub,Nat.reduceBEq];with_reducible rfl))|((with_reducible first|refine QS (cfg_ok 80) Tab.none (s':=?_) ?_ ?_|refine QC (b:=?_) ?_ ?_);rotate_left 1;focus ((with_reducible refine QW ?_);simp only [Zg,seval,hwj];with_reducible rfl))|((with_reducible refine QD (cfg_ok 80) Tab.none mixed_ok (tr:=?_) (s':=?_) ?_ ?_ ?_);rotate_left 2;(focus ((with_reducible refine QW ?_);simp only [Zg,Zd,seval,if_true,if_false,reduceCtorEq,Nat.reduceEqDiff,hwj];with_reducible rfl));focus ((with_reducible refine QK ?_);simp only [Zk];kernel_rfl)))
        refine roundK.on (j + 1) ⟨hjB,by omega⟩ ?_
        rw [htkB]
        (repeat' (first|with_reducible refine Qn|((with_reducible refine Qr ?_ ?_);focus (first|with_reducible rfl|(simp only [Zz,Nat.reduceBEq,catS];done)|rfl))|((with_reducible refine Qj (o':=?_) ?_ ?_ ?_);rotate_left 1;focus rfl)|((with_reducible refine Qw ?_ ?_);(focus (first|with_reducible rfl|(simp only [Zv,eS0,catS];done)));focus (first|exact id|exact (fun h => nomatch h)|exact (fun _ => rfl)))))
       ·have l1:((j:Int) < (B.length:Int)) = False:=eq_false (by omega)
        obtain rfl:j = B.length:=by omega
        rw [List.take_length]
        repeat' (first|with_reducible (first|refine Q1 ?_|refine Q2 ?_|refine Q3 ?_|refine Q4 ?_|refine Q5 ?_|refine Q6 ?_|refine Q7 ?_|refine Q8 ?_|refine Q9 ?_|refine Qa ?_|refine Qb ?_|refine Qc ?_|refine Qd ?_|refine Qe ?_|refine Qf ?_)|((with_reducible refine Qo ?_ ?_);focus rfl)|((with_reducible first|refine QT 59 (l:=?_) ?_ ?_|refine QF 59 (l:=?_) ?_ ?_);rotate_left 1;focus (simp only [Zu,Nat.reduceSub,Nat.reduceBEq];with_reducible rfl))|((with_reducible first|refine QS (cfg_ok 80) Tab.none (s':=?_) ?_ ?_|refine QC (b:=?_) ?_ ?_);rotate_left 1;focus ((with_reducible refine QW ?_);simp only [Zg,seval,l1];with_reducible rfl))|((with_reducible refine QD (cfg_ok 80) Tab.none mixed_ok (tr:=?_) (s':=?_) ?_ ?_ ?_);rotate_left 2;(focus ((with_reducible refine QW ?_);simp only [Zg,Zd,seval,if_true,if_false,reduceCtorEq,Nat.reduceEqDiff,l1];with_reducible rfl));focus ((with_reducible refine QK ?_);simp only [Zk];kernel_rfl)))
        refine roundK.out () trivial ?_
        (repeat' (first|with_reducible refine Qn|((with_reducible refine Qr ?_ ?_);focus (first|with_reducible rfl|(simp only [Zz,Nat.reduceBEq];done)|rfl))|((with_reducible refine Qj (o':=?_) ?_ ?_ ?_);rotate_left 1;focus rfl)|((with_reducible refine Qw ?_ ?_);(focus (first|with_reducible rfl|(simp only [Zv];done)));focus (first|exact id|exact (fun h => nomatch h)|exact (fun _ => rfl)))))
      ·rintro _ _
       repeat' (first|with_reducible (first|refine Q1 ?_|refine Q2 ?_|refine Q3 ?_|refine Q4 ?_|refine Q5 ?_|refine Q6 ?_|refine Q7 ?_|refine Q8 ?_|refine Q9 ?_|refine Qa ?_|refine Qb ?_|refine Qc ?_|refine Qd ?_|refine Qe ?_|refine Qf ?_)|((with_reducible refine Qo ?_ ?_);focus rfl)|((with_reducible first|refine QT 59 (l:=?_) ?_ ?_|refine QF 59 (l:=?_) ?_ ?_);rotate_left 1;focus (simp only [Zu,Nat.reduceSub,Nat.reduceBEq];with_reducible rfl))|((with_reducible first|refine QS (cfg_ok 80) Tab.none (s':=?_) ?_ ?_|refine QC (b:=?_) ?_ ?_);rotate_left 1;focus ((with_reducible refine QW ?_);simp only [Zg,seval,hwi];with_reducible rfl))|((with_reducible refine QD (cfg_ok 80) Tab.none mixed_ok (tr:=?_) (s':=?_) ?_ ?_ ?_);rotate_left 2;(focus ((with_reducible refine QW ?_);simp only [Zg,Zd,seval,if_true,if_false,reduceCtorEq,Nat.reduceEqDiff,hwi];with_reducible rfl));focus ((with_reducible refine QK ?_);simp only [Zk];kernel_rfl)))
       refine roundK.on (i + 1) ⟨hiA,by omega⟩ ?_
       rw [htkA]
       (repeat' (first|with_reducible refine Qn|((with_reducible refine Qr ?_ ?_);focus (first|with_reducible rfl|(simp only [Zz,Nat.reduceBEq];done)|rfl))|((with_reducible refine Qj (o':=?_) ?_ ?_ ?_);rotate_left 1;focus rfl)|((with_reducible refine Qw ?_ ?_);(focus (first|with_reducible rfl|(simp only [Zv];done)));focus (first|exact id|exact (fun h => nomatch h)|exact (fun _ => rfl)))))
     ·have j1:((i:Int) < (A.length:Int)) = False:=eq_false (by omega)
      obtain rfl:i = A.length:=by omega
      rw [List.take_length]
      repeat' (first|with_reducible (first|refine Q1 ?_|refine Q2 ?_|refine Q3 ?_|refine Q4 ?_|refine Q5 ?_|refine Q6 ?_|refine Q7 ?_|refine Q8 ?_|refine Q9 ?_|refine Qa ?_|refine Qb ?_|refine Qc ?_|refine Qd ?_|refine Qe ?_|refine Qf ?_)|((with_reducible refine Qo ?_ ?_);focus rfl)|((with_reducible first|refine QT 59 (l:=?_) ?_ ?_|refine QF 59 (l:=?_) ?_ ?_);rotate_left 1;focus (simp only [Zu,Nat.reduceSub,Nat.reduceBEq];with_reducible rfl))|((with_reducible first|refine QS (cfg_ok 80) Tab.none (s':=?_) ?_ ?_|refine QC (b:=?_) ?_ ?_);rotate_left 1;focus ((with_reducible refine QW ?_);simp only [Zg,seval,j1];with_reducible rfl))|((with_reducible refine QD (cfg_ok 80) Tab.none mixed_ok (tr:=?_) (s':=?_) ?_ ?_ ?_);rotate_left 2;(focus ((with_reducible refine QW ?_);simp only [Zg,Zd,seval,if_true,if_false,reduceCtorEq,Nat.reduceEqDiff,j1];with_reducible rfl));focus ((with_reducible refine QK ?_);simp only [Zk];kernel_rfl)))
      refine roundK.out () trivial ?_
      (repeat' (first|with_reducible refine Qn|((with_reducible refine Qr ?_ ?_);focus (first|with_reducible rfl|(simp only [Zz,Nat.reduceBEq];done)|rfl))|((with_reducible refine Qj (o':=?_) ?_ ?_ ?_);rotate_left 1;focus rfl)|((with_reducible refine Qw ?_ ?_);(focus (first|with_reducible rfl|(simp only [Zv];done)));focus (first|exact id|exact (fun h => nomatch h)|exact (fun _ => rfl)))))
    ·rintro _ _
     repeat' (first|with_reducible (first|refine Q1 ?_|refine Q2 ?_|refine Q3 ?_|refine Q4 ?_|refine Q5 ?_|refine Q6 ?_|refine Q7 ?_|refine Q8 ?_|refine Q9 ?_|refine Qa ?_|refine Qb ?_|refine Qc ?_|refine Qd ?_|refine Qe ?_|refine Qf ?_)|((with_reducible refine Qo ?_ ?_);focus rfl)|((with_reducible first|refine QT 59 (l:=?_) ?_ ?_|refine QF 59 (l:=?_) ?_ ?_);rotate_left 1;focus (simp only [Zu,Nat.reduceSub,Nat.reduceBEq];with_reducible rfl))|((with_reducible first|refine QS (cfg_ok 80) Tab.none (s':=?_) ?_ ?_|refine QC (b:=?_) ?_ ?_);rotate_left 1;focus ((with_reducible refine QW ?_);simp only [Zg,seval,Nat.reduceEqDiff,hwk];with_reducible rfl))|((with_reducible refine QD (cfg_ok 80) Tab.none mixed_ok (tr:=?_) (s':=?_) ?_ ?_ ?_);rotate_left 2;(focus ((with_reducible refine QW ?_);simp only [Zg,Zd,seval,if_true,if_false,reduceCtorEq,Nat.reduceEqDiff,hwk];with_reducible rfl));focus ((with_reducible refine QK ?_);simp only [Zk];kernel_rfl)))
     refine roundK.on (k + 1) ⟨hkb,by omega⟩ ?_
     rw [htk]
     (repeat' (first|with_reducible refine Qn|((with_reducible refine Qr ?_ ?_);focus (first|with_reducible rfl|(simp only [Zz,Nat.reduceBEq];done)|rfl))|((with_reducible refine Qj (o':=?_) ?_ ?_ ?_);rotate_left 1;focus rfl)|((with_reducible refine Qw ?_ ?_);(focus (first|with_reducible rfl|(simp only [Zv];done)));focus (first|exact id|exact (fun h => nomatch h)|exact (fun _ => rfl)))))
   ·have i1:((k:Int) < ((brs t).length:Int)) = False:=eq_false (by omega)
    obtain rfl:k = (brs t).length:=by omega
    rw [List.take_length]
    repeat' (first|with_reducible (first|refine Q1 ?_|refine Q2 ?_|refine Q3 ?_|refine Q4 ?_|refine Q5 ?_|refine Q6 ?_|refine Q7 ?_|refine Q8 ?_|refine Q9 ?_|refine Qa ?_|refine Qb ?_|refine Qc ?_|refine Qd ?_|refine Qe ?_|refine Qf ?_)|((with_reducible refine Qo ?_ ?_);focus rfl)|((with_reducible first|refine QT 59 (l:=?_) ?_ ?_|refine QF 59 (l:=?_) ?_ ?_);rotate_left 1;focus (simp only [Zu,Nat.reduceSub,Nat.reduceBEq];with_reducible rfl))|((with_reducible first|refine QS (cfg_ok 80) Tab.none (s':=?_) ?_ ?_|refine QC (b:=?_) ?_ ?_);rotate_left 1;focus ((with_reducible refine QW ?_);simp only [Zg,seval,i1];with_reducible rfl))|((with_reducible refine QD (cfg_ok 80) Tab.none mixed_ok (tr:=?_) (s':=?_) ?_ ?_ ?_);rotate_left 2;(focus ((with_reducible refine QW ?_);simp only [Zg,Zd,seval,if_true,if_false,reduceCtorEq,Nat.reduceEqDiff,i1];with_reducible rfl));focus ((with_reducible refine QK ?_);simp only [Zk];kernel_rfl)))
    refine roundK.out () trivial ?_
    (repeat' (first|with_reducible refine Qn|((with_reducible refine Qr ?_ ?_);focus (first|with_reducible rfl|(simp only [Zz,Nat.reduceBEq];done)|rfl))|((with_reducible refine Qj (o':=?_) ?_ ?_ ?_);rotate_left 1;focus rfl)|((with_reducible refine Qw ?_ ?_);(focus (first|with_reducible rfl|(simp only [Zv];done)));focus (first|exact id|exact (fun h => nomatch h)|exact (fun _ => rfl)))))
  ·rintro _ _
   have g1:=prod_good hlev
   have g2:=prod_len hlev (by omega)
   obtain ⟨A,hA⟩:∃ A,A = prodS ((brs t).map split):=⟨_,rfl⟩
   rw [← hA] at g1 g2 ⊢
   repeat' (first|with_reducible (first|refine Q1 ?_|refine Q2 ?_|refine Q3 ?_|refine Q4 ?_|refine Q5 ?_|refine Q6 ?_|refine Q7 ?_|refine Q8 ?_|refine Q9 ?_|refine Qa ?_|refine Qb ?_|refine Qc ?_|refine Qd ?_|refine Qe ?_|refine Qf ?_)|((with_reducible refine Qo ?_ ?_);focus rfl)|((with_reducible first|refine QT 59 (l:=?_) ?_ ?_|refine QF 59 (l:=?_) ?_ ?_);rotate_left 1;focus (simp only [Zu,Nat.reduceSub,Nat.reduceBEq];with_reducible rfl))|((with_reducible first|refine QS (cfg_ok 80) Tab.none (s':=?_) ?_ ?_|refine QC (b:=?_) ?_ ?_);rotate_left 1;focus ((with_reducible refine QW ?_);simp only [Zg,seval,Nat.reduceEqDiff];with_reducible rfl))|((with_reducible refine QD (cfg_ok 80) Tab.none mixed_ok (tr:=?_) (s':=?_) ?_ ?_ ?_);rotate_left 2;(focus ((with_reducible refine QW ?_);simp only [Zg,Zd,seval,if_true,if_false,reduceCtorEq,Nat.reduceEqDiff];with_reducible rfl));focus ((with_reducible refine QK ?_);simp only [Zk];kernel_rfl)))
   refine RunK.loop (β:=Nat) (γ:=Unit) (fun i => ⟨[(0,.c (.val (.sl 1 (t.map eI)))),(3,.c (.own 3 A.length)),(56,.c (.own 3 A.length)),(57,.c (.val (.int A.length))),(58,.c (.val (.int i)))],[(3,.row 3 ((A.take i).map (fun s => eS0 (rootS s)) ++ (A.drop i).map eS0) false)]⟩) (fun i => i ≤ A.length) (fun i => A.length - i)
    (fun _ => ⟨[(0,.c (.val (.sl 1 (t.map eI)))),(3,.c (.own 3 A.length))],[(3,.row 3 (A.map fun s => eS0 (rootS s)) false)]⟩) (fun _ => True) 0 (Nat.zero_le _) ?_ ?_ ?_
   ·(repeat' (first|with_reducible refine Qn|((with_reducible refine Qr ?_ ?_);focus (first|with_reducible rfl|(simp only [Zz,Nat.reduceBEq,Int.natCast_zero];done)|rfl))|((with_reducible refine Qj (o':=?_) ?_ ?_ ?_);rotate_left 1;focus rfl)|((with_reducible refine Qw ?_ ?_);(focus (first|with_reducible rfl|(simp only [Zv,List.take_zero,List.drop_zero];done)));focus (first|exact id|exact (fun h => nomatch h)|exact (fun _ => rfl)))))
   ·intro i hi
    have hi:i ≤ A.length:=hi
    have hwi:=w64_succ (n:=i) (by omega)
    have hrl:((A.take i).map (fun s => eS0 (rootS s)) ++ (A.drop i).map eS0).length = A.length:=by rw [List.length_append,List.length_map,List.length_map,List.length_take,List.length_drop];omega
    by_cases hiA:i < A.length
    ·have j1:((i:Int) < (A.length:Int)) = True:=eq_true (by omega)
     have j2:((0:Int) ≤ (i:Int)) = True:=eq_true (by omega)
     obtain ⟨s,hs⟩:∃ s,s = A[i]:=⟨_,rfl⟩
     have hgood:=g1 A[i] (List.getElem_mem _)
     have hdr:A.drop i = s :: A.drop (i + 1):=by rw [hs];exact List.drop_eq_getElem_cons hiA
     have hti:((A.take i).map fun s => eS0 (rootS s)).length = i:=by rw [List.length_map,List.length_take];omega
     have hgs:((A.take i).map (fun s => eS0 (rootS s)) ++ (A.drop i).map eS0)[i]? = some [.sl 1 (s.1.map eL),.sl 1 (s.2.map eL),.int 0]:=by
      rw [List.getElem?_append_right (by omega),hti,Nat.sub_self,hdr];rfl
     rw [← hs] at hgood
     have hlv:∀ b ∈ s.2,LevP b:=fun b hb => (hgood.1 b (by simp [hb])).1
     have hsum:=hgood.2
     have hro:=AFn.valT (a_rootOn s.2 (fun b hb => (hlv b hb).small (by have:=sumLen_mem hb;omega)) (by omega))
     have hcr:=AFn.valT (a_canonical13 (rootOn s.2) (rootOn_lev hlv) (by rw [rootOn_len];omega))
     simp only [eL,eLL] at hro hcr
     repeat' (first|with_reducible (first|refine Q1 ?_|refine Q2 ?_|refine Q3 ?_|refine Q4 ?_|refine Q5 ?_|refine Q6 ?_|refine Q7 ?_|refine Q8 ?_|refine Q9 ?_|refine Qa ?_|refine Qb ?_|refine Qc ?_|refine Qd ?_|refine Qe ?_|refine Qf ?_)|((with_reducible refine Qo ?_ ?_);focus rfl)|((with_reducible first|refine QT 59 (l:=?_) ?_ ?_|refine QF 59 (l:=?_) ?_ ?_);rotate_left 1;focus (simp only [Zu,Nat.reduceSub,Nat.reduceBEq];with_reducible rfl))|((with_reducible first|refine QS (cfg_ok 80) ((Tab.none.at' 127 hro).at' 79 hcr) (s':=?_) ?_ ?_|refine QC (b:=?_) ?_ ?_);rotate_left 1;focus ((with_reducible refine QW ?_);simp only [Zg,seval,Nat.reduceEqDiff,j1,j2,hgs,hwi,Int.toNat_natCast];with_reducible rfl))|((with_reducible refine QD (cfg_ok 80) ((Tab.none.at' 127 hro).at' 79 hcr) mixed_ok (tr:=?_) (s':=?_) ?_ ?_ ?_);rotate_left 2;(focus ((with_reducible refine QW ?_);simp only [Zg,Zd,seval,if_true,if_false,reduceCtorEq,Nat.reduceEqDiff,j1,j2,hgs,hrl,hwi,Int.toNat_natCast];with_reducible rfl));focus ((with_reducible refine QK ?_);simp only [Zk];kernel_rfl)))
     have hset:((A.take i).map (fun s => eS0 (rootS s)) ++ (A.drop i).map eS0).set i [.sl 1 (s.1.map eL),.sl 1 [[.sl 1 ((canon (rootOn s.2)).map eI)]],.int 0] = (A.take (i + 1)).map (fun s => eS0 (rootS s)) ++ (A.drop (i + 1)).map eS0:=by
      rw [List.set_append_right _ _ (by omega),hti,Nat.sub_self,hdr,List.map_cons,List.set_cons_zero,List.take_succ_eq_append_getElem hiA,List.map_append,List.append_assoc,← hs]
      rfl
     refine roundK.on (i + 1) ⟨hiA,by omega⟩ ?_
     rw [← hset]
     (repeat' (first|with_reducible refine Qn|((with_reducible refine Qr ?_ ?_);focus (first|with_reducible rfl|(simp only [Zz,Nat.reduceBEq];done)|rfl))|((with_reducible refine Qj (o':=?_) ?_ ?_ ?_);rotate_left 1;focus rfl)|((with_reducible refine Qw ?_ ?_);(focus (first|with_reducible rfl|(simp only [Zv];done)));focus (first|exact id|exact (fun h => nomatch h)|exact (fun _ => rfl)))))
    ·have j1:((i:Int) < (A.length:Int)) = False:=eq_false (by omega)
     obtain rfl:i = A.length:=by omega
     have hd0:A.drop A.length = []:=List.drop_length
     repeat' (first|with_reducible (first|refine Q1 ?_|refine Q2 ?_|refine Q3 ?_|refine Q4 ?_|refine Q5 ?_|refine Q6 ?_|refine Q7 ?_|refine Q8 ?_|refine Q9 ?_|refine Qa ?_|refine Qb ?_|refine Qc ?_|refine Qd ?_|refine Qe ?_|refine Qf ?_)|((with_reducible refine Qo ?_ ?_);focus rfl)|((with_reducible first|refine QT 59 (l:=?_) ?_ ?_|refine QF 59 (l:=?_) ?_ ?_);rotate_left 1;focus (simp only [Zu,Nat.reduceSub,Nat.reduceBEq];with_reducible rfl))|((with_reducible first|refine QS (cfg_ok 80) Tab.none (s':=?_) ?_ ?_|refine QC (b:=?_) ?_ ?_);rotate_left 1;focus ((with_reducible refine QW ?_);simp only [Zg,seval,j1];with_reducible rfl))|((with_reducible refine QD (cfg_ok 80) Tab.none mixed_ok (tr:=?_) (s':=?_) ?_ ?_ ?_);rotate_left 2;(focus ((with_reducible refine QW ?_);simp only [Zg,Zd,seval,if_true,if_false,reduceCtorEq,Nat.reduceEqDiff,j1];with_reducible rfl));focus ((with_reducible refine QK ?_);simp only [Zk];kernel_rfl)))
     refine roundK.out () trivial ?_
     rw [List.take_length,hd0,List.map_nil,List.append_nil]
     (repeat' (first|with_reducible refine Qn|((with_reducible refine Qr ?_ ?_);focus (first|with_reducible rfl|(simp only [Zz,Nat.reduceBEq];done)|rfl))|((with_reducible refine Qj (o':=?_) ?_ ?_ ?_);rotate_left 1;focus rfl)|((with_reducible refine Qw ?_ ?_);(focus (first|with_reducible rfl|(simp only [Zv];done)));focus (first|exact id|exact (fun h => nomatch h)|exact (fun _ => rfl)))))
   ·rintro _ _
    have q1:=big_le (n:=A.length + 1) (by omega)
    have q2:=big_mul (n:=A.length + 1) (c:=56) (by omega) (by omega)
    have hml:(A.map fun s => eS0 (rootS s)).length = A.length:=List.length_map _
    repeat' (first|with_reducible (first|refine Q1 ?_|refine Q2 ?_|refine Q3 ?_|refine Q4 ?_|refine Q5 ?_|refine Q6 ?_|refine Q7 ?_|refine Q8 ?_|refine Q9 ?_|refine Qa ?_|refine Qb ?_|refine Qc ?_|refine Qd ?_|refine Qe ?_|refine Qf ?_)|((with_reducible refine Qo ?_ ?_);focus rfl)|((with_reducible first|refine QT 59 (l:=?_) ?_ ?_|refine QF 59 (l:=?_) ?_ ?_);rotate_left 1;focus (simp only [Zu,Nat.reduceSub,Nat.reduceBEq];with_reducible rfl))|((with_reducible first|refine QS (cfg_ok 80) (Tab.none.at' 79 hca) (s':=?_) ?_ ?_|refine QC (b:=?_) ?_ ?_);rotate_left 1;focus ((with_reducible refine QW ?_);simp only [Zg,seval,Nat.reduceEqDiff,q1,q2,hml];with_reducible rfl))|((with_reducible refine QD (cfg_ok 80) (Tab.none.at' 79 hca) mixed_ok (tr:=?_) (s':=?_) ?_ ?_ ?_);rotate_left 2;(focus ((with_reducible refine QW ?_);simp only [Zg,Zd,seval,if_true,if_false,reduceCtorEq,Nat.reduceEqDiff,q1,q2,hml];with_reducible rfl));focus ((with_reducible refine QK ?_);simp only [Zk];kernel_rfl)))
    (refine Ends.mk (by simp) (rs:=?_) (ks:=?_) hres hrts ?_ ?_ ?_;rotate_left 2;(focus (simp only [Ze,Zg,seval,Nat.reduceEqDiff,eS0,eL,rootS];with_reducible rfl));(focus simp);focus (first|with_reducible rfl|(simp only [Zv,List.map_map,Function.comp_def,eS0,eL];done)))
end Go.Proofs.YtgngidchldajhaaGreat
namespace Go.Proofs.YtgngidchldajhaaGreat
open Go.RowKit
set_option maxRecDepth 20000 in
set_option maxHeartbeats 8000000 in
theorem a_splitForest (f:List (List Int)) (hlev:∀ b ∈ f,LevP b) (h8:sumLen f ≤ 8):AFn Tryz.prog 91 [eLL f] (· = [.own 3 ((prodS (f.map split)).map eS0) false]):=by
 have hbl:=len_sum hlev
 have hlen8:∀ b ∈ f,b.length ≤ 8:=fun b hb => by have:=sumLen_mem hb;omega
 have hAg:∀ k,(∀ s ∈ prodS ((f.take k).map split),GoodS (sumLen (f.take k)) s)∧(prodS ((f.take k).map split)).length ≤ 256∧sumLen (f.take k) ≤ 8:=fun k => by
  have h1:=sumLen_take' f k
  exact ⟨prod_good (mem_take hlev),prod_len (mem_take hlev) (by omega),by omega⟩
 refine AFn.of_runs (cfg_ok 54) Tryz.func91 rfl rfl rfl (by simp only [List.length_cons,List.length_nil];decide) ?_
 have hres:Tryz.f91.results.toList = [.tmp 2]:=rfl
 have hrts:Tryz.f91.resultTypes.toList = [50]:=rfl
 simp only [argRegs,argAV1,eL,eI,eLL,eB,Nat.zero_add,Nat.reduceAdd]
 intro M
 refine RunK.of ?_
 repeat' (first|with_reducible (first|refine Q1 ?_|refine Q2 ?_|refine Q3 ?_|refine Q4 ?_|refine Q5 ?_|refine Q6 ?_|refine Q7 ?_|refine Q8 ?_|refine Q9 ?_|refine Qa ?_|refine Qb ?_|refine Qc ?_|refine Qd ?_|refine Qe ?_|refine Qf ?_)|((with_reducible refine Qo ?_ ?_);focus rfl)|((with_reducible first|refine QT 30 (l:=?_) ?_ ?_|refine QF 30 (l:=?_) ?_ ?_);rotate_left 1;focus (simp only [Zu,Nat.reduceSub,Nat.reduceBEq];with_reducible rfl))|((with_reducible first|refine QS (cfg_ok 54) Tab.none (s':=?_) ?_ ?_|refine QC (b:=?_) ?_ ?_);rotate_left 1;focus ((with_reducible refine QW ?_);simp only [Zg,seval,if_true,if_false,reduceCtorEq,Nat.reduceEqDiff,List.length_map];with_reducible rfl))|((with_reducible refine QD (cfg_ok 54) Tab.none mixed_ok (tr:=?_) (s':=?_) ?_ ?_ ?_);rotate_left 2;(focus ((with_reducible refine QW ?_);simp only [Zg,Zd,seval,if_true,if_false,reduceCtorEq,Nat.reduceEqDiff,List.length_map];with_reducible rfl));focus ((with_reducible refine QK ?_);simp only [Zk];kernel_rfl)))
 refine RunK.loop (β:=Nat) (γ:=Unit) (fun k => ⟨[(3,.c (.own 3 (prodS ((f.take k).map split)).length)),(13,.c (.val (.sl 1 (f.map eL)))),(14,.c (.val (.int f.length))),(15,.c (.val (.int k)))],[(3,.row 3 ((prodS ((f.take k).map split)).map eS0) false)]⟩) (fun k => k ≤ f.length) (fun k => f.length - k)
  (fun _ => ⟨[(3,.c (.own 3 (prodS (f.map split)).length))],[(3,.row 3 ((prodS (f.map split)).map eS0) false)]⟩) (fun _ => True) 0 (Nat.zero_le _) ?_ ?_ ?_
 ·(repeat' (first|with_reducible refine Qn|((with_reducible refine Qr ?_ ?_);focus (first|with_reducible rfl|(simp only [Zz,Nat.reduceBEq,List.take_zero,List.map_nil,show prodS [] = [([],[])] from rfl,List.map_cons,eS0,List.length_singleton,Int.natCast_zero];done)|rfl))|((with_reducible refine Qj (o':=?_) ?_ ?_ ?_);rotate_left 1;focus rfl)|((with_reducible refine Qw ?_ ?_);(focus (first|with_reducible rfl|(simp only [Zv,List.take_zero,List.map_nil,show prodS [] = [([],[])] from rfl,List.map_cons,eS0,List.length_singleton,Int.natCast_zero];done)));focus (first|exact id|exact (fun h => nomatch h)|exact (fun _ => rfl)))))
 ·intro k hk
  have hk:k ≤ f.length:=hk
  have hwk:=w64_succ (n:=k) (by omega)
  obtain ⟨g1,g2,g3⟩:=hAg k
  by_cases hkb:k < f.length
  ·have i1:((k:Int) < (f.length:Int)) = True:=eq_true (by omega)
   have i2:((0:Int) ≤ (k:Int)) = True:=eq_true (by omega)
   obtain ⟨b,hb⟩:∃ b,b = f[k]:=⟨_,rfl⟩
   have hbm:b ∈ f:=by rw [hb];exact List.getElem_mem _
   have hg:(f.map eL)[k]? = some [.sl 1 (b.map eI)]:=by rw [map_get hkb,hb];rfl
   have hle:(f.map eL).length = f.length:=List.length_map _
   have hblen:=hlen8 b hbm
   have hih:=AFn.val1 (a_splitTree 8 (by omega) b (hlev b hbm) (by omega))
   have hgB:=split_good _ (Nat.le_refl _) (hlev b hbm)
   have hlB:(split b).length ≤ 256:=by
    have h1:=split_len _ (Nat.le_refl _) (hlev b hbm)
    have h2:2 ^ b.length ≤ 2 ^ 8:=Nat.pow_le_pow_right (by decide) (by omega)
    omega
   have htk:prodS ((f.take (k + 1)).map split) = (prodS ((f.take k).map split)).flatMap fun s => (split b).map (catS s):=by
    rw [hb,List.take_succ_eq_append_getElem hkb,List.map_append];exact foldS_snoc _ _ _
   have hn2:(prodS ((f.take (k + 1)).map split)).length ≤ 256:=(hAg (k + 1)).2.1
   obtain ⟨A,hA⟩:∃ A,A = prodS ((f.take k).map split):=⟨_,rfl⟩
   obtain ⟨B,hB⟩:∃ B,B = split b:=⟨_,rfl⟩
   rw [← hA] at g1 g2 htk ⊢
   rw [← hB] at hih hgB hlB htk
   rw [htk] at hn2
   simp only [eL] at hih
   have hsA:∀ s ∈ A,SmS s:=fun s hs => ((g1 s hs).ha (by omega)).sm
   have hsB:∀ s ∈ B,SmS s:=fun s hs => ((hgB s hs).ha (by omega)).sm
   have hAl:(A.map eS0).length = A.length:=List.length_map _
   repeat' (first|with_reducible (first|refine Q1 ?_|refine Q2 ?_|refine Q3 ?_|refine Q4 ?_|refine Q5 ?_|refine Q6 ?_|refine Q7 ?_|refine Q8 ?_|refine Q9 ?_|refine Qa ?_|refine Qb ?_|refine Qc ?_|refine Qd ?_|refine Qe ?_|refine Qf ?_)|((with_reducible refine Qo ?_ ?_);focus rfl)|((with_reducible first|refine QT 30 (l:=?_) ?_ ?_|refine QF 30 (l:=?_) ?_ ?_);rotate_left 1;focus (simp only [Zu,Nat.reduceSub,Nat.reduceBEq];with_reducible rfl))|((with_reducible first|refine QS (cfg_ok 54) Tab.none (s':=?_) ?_ ?_|refine QC (b:=?_) ?_ ?_);rotate_left 1;focus ((with_reducible refine QW ?_);simp only [Zg,seval,if_true,if_false,reduceCtorEq,Nat.reduceEqDiff,i1,i2,hg,hle,Int.toNat_natCast,List.length_map];with_reducible rfl))|((with_reducible refine QD (cfg_ok 54) Tab.none mixed_ok (tr:=?_) (s':=?_) ?_ ?_ ?_);rotate_left 2;(focus ((with_reducible refine QW ?_);simp only [Zg,Zd,seval,if_true,if_false,reduceCtorEq,Nat.reduceEqDiff,i1,i2,hg,hle,Int.toNat_natCast,List.length_map];with_reducible rfl));focus ((with_reducible refine QK ?_);simp only [Zk];kernel_rfl)))
   refine RunK.loop (β:=Nat) (γ:=Unit) (fun i => ⟨[(3,.c (.own 3 A.length)),(5,.c (.val (.sl 1 (b.map eI)))),(6,.c (.own 6 ((A.take i).flatMap fun s => B.map (catS s)).length)),(13,.c (.val (.sl 1 (f.map eL)))),(14,.c (.val (.int f.length))),(15,.c (.val (.int k))),(20,.c (.own 3 A.length)),(21,.c (.val (.int A.length))),(22,.c (.val (.int i)))],
     [(3,.row 3 (A.map eS0) false),(6,.row 3 (((A.take i).flatMap fun s => B.map (catS s)).map eS0) false)]⟩) (fun i => i ≤ A.length) (fun i => A.length - i)
    (fun _ => ⟨[(6,.c (.own 6 (A.flatMap fun s => B.map (catS s)).length)),(13,.c (.val (.sl 1 (f.map eL)))),(14,.c (.val (.int f.length))),(15,.c (.val (.int k)))],[(6,.row 3 ((A.flatMap fun s => B.map (catS s)).map eS0) false)]⟩) (fun _ => True) 0 (Nat.zero_le _) ?_ ?_ ?_
   ·(repeat' (first|with_reducible refine Qn|((with_reducible refine Qr ?_ ?_);focus (first|with_reducible rfl|(simp only [Zz,Nat.reduceBEq,List.take_zero,List.flatMap_nil,List.map_nil,List.length_nil,Int.natCast_zero];done)|rfl))|((with_reducible refine Qj (o':=?_) ?_ ?_ ?_);rotate_left 1;focus rfl)|((with_reducible refine Qw ?_ ?_);(focus (first|with_reducible rfl|(simp only [Zv,List.take_zero,List.flatMap_nil,List.map_nil,List.length_nil,Int.natCast_zero];done)));focus (first|exact id|exact (fun h => nomatch h)|exact (fun _ => rfl)))))
   ·intro i hi
    have hi:i ≤ A.length:=hi
    have hwi:=w64_succ (n:=i) (by omega)
    by_cases hiA:i < A.length
    ·have j1:((i:Int) < (A.length:Int)) = True:=eq_true (by omega)
     have j2:((0:Int) ≤ (i:Int)) = True:=eq_true (by omega)
     obtain ⟨s,hs⟩:∃ s,s = A[i]:=⟨_,rfl⟩
     have hsm:=hsA A[i] (List.getElem_mem _)
     have hgs:(A.map eS0)[i]? = some [.sl 1 (s.1.map eL),.sl 1 (s.2.map eL),.int 0]:=by rw [map_get hiA,hs];rfl
     have htkA:(A.take (i + 1)).flatMap (fun s => B.map (catS s)) = ((A.take i).flatMap fun s => B.map (catS s)) ++ B.map (catS s):=by
      rw [hs,List.take_succ_eq_append_getElem hiA,List.flatMap_append];simp
     have hXl:((A.take i).flatMap fun s => B.map (catS s)).length + B.length ≤ 256:=by
      rw [flatS_len] at hn2 ⊢
      rw [List.length_take,Nat.min_eq_left hi]
      have:(i + 1) * B.length ≤ A.length * B.length:=Nat.mul_le_mul_right _ hiA
      rw [Nat.succ_mul] at this;omega
     rw [← hs] at hsm
     obtain ⟨X,hX⟩:∃ X,X = (A.take i).flatMap fun s => B.map (catS s):=⟨_,rfl⟩
     rw [← hX] at htkA hXl ⊢
     have hBl:(B.map eS0).length = B.length:=List.length_map _
     repeat' (first|with_reducible (first|refine Q1 ?_|refine Q2 ?_|refine Q3 ?_|refine Q4 ?_|refine Q5 ?_|refine Q6 ?_|refine Q7 ?_|refine Q8 ?_|refine Q9 ?_|refine Qa ?_|refine Qb ?_|refine Qc ?_|refine Qd ?_|refine Qe ?_|refine Qf ?_)|((with_reducible refine Qo ?_ ?_);focus rfl)|((with_reducible first|refine QT 30 (l:=?_) ?_ ?_|refine QF 30 (l:=?_) ?_ ?_);rotate_left 1;focus (simp only [Zu,Nat.reduceSub,Nat.reduceBEq];with_reducible rfl))|((with_reducible first|refine QS (cfg_ok 54) (Tab.none.at' 81 hih) (s':=?_) ?_ ?_|refine QC (b:=?_) ?_ ?_);rotate_left 1;focus ((with_reducible refine QW ?_);simp only [Zg,seval,if_true,if_false,reduceCtorEq,Nat.reduceEqDiff,j1,j2,hgs,hAl,hBl,Int.toNat_natCast];with_reducible rfl))|((with_reducible refine QD (cfg_ok 54) (Tab.none.at' 81 hih) mixed_ok (tr:=?_) (s':=?_) ?_ ?_ ?_);rotate_left 2;(focus ((with_reducible refine QW ?_);simp only [Zg,Zd,seval,if_true,if_false,reduceCtorEq,Nat.reduceEqDiff,j1,j2,hgs,hAl,hBl,Int.toNat_natCast];with_reducible rfl));focus ((with_reducible refine QK ?_);simp only [Zk];kernel_rfl)))
     refine RunK.loop (β:=Nat) (γ:=Unit) (fun j => ⟨[(3,.c (.own 3 A.length)),(5,.c (.val (.sl 1 (b.map eI)))),(6,.c (.own 6 (X ++ (B.take j).map (catS s)).length)),(8,.optr 8 0 0),(13,.c (.val (.sl 1 (f.map eL)))),(14,.c (.val (.int f.length))),(15,.c (.val (.int k))),(20,.c (.own 3 A.length)),(21,.c (.val (.int A.length))),(22,.c (.val (.int i))),(27,.c (.val (.sl 3 (B.map eS0)))),(28,.c (.val (.int B.length))),(29,.c (.val (.int j)))],
       [(3,.row 3 (A.map eS0) false),(6,.row 3 ((X ++ (B.take j).map (catS s)).map eS0) false),(8,.row 3 [[.sl 1 (s.1.map eL),.sl 1 (s.2.map eL),.int 0]] false)]⟩) (fun j => j ≤ B.length) (fun j => B.length - j)
      (fun _ => ⟨[(3,.c (.own 3 A.length)),(5,.c (.val (.sl 1 (b.map eI)))),(6,.c (.own 6 (X ++ B.map (catS s)).length)),(13,.c (.val (.sl 1 (f.map eL)))),(14,.c (.val (.int f.length))),(15,.c (.val (.int k))),(20,.c (.own 3 A.length)),(21,.c (.val (.int A.length))),(22,.c (.val (.int i)))],
       [(3,.row 3 (A.map eS0) false),(6,.row 3 ((X ++ B.map (catS s)).map eS0) false)]⟩) (fun _ => True) 0 (Nat.zero_le _) ?_ ?_ ?_
     ·(repeat' (first|with_reducible refine Qn|((with_reducible refine Qr ?_ ?_);focus (first|with_reducible rfl|(simp only [Zz,Nat.reduceBEq,List.take_zero,List.map_nil,List.append_nil,Int.natCast_zero];done)|rfl))|((with_reducible refine Qj (o':=?_) ?_ ?_ ?_);rotate_left 1;focus rfl)|((with_reducible refine Qw ?_ ?_);(focus (first|with_reducible rfl|(simp only [Zv,List.take_zero,List.map_nil,List.append_nil,Int.natCast_zero];done)));focus (first|exact id|exact (fun h => nomatch h)|exact (fun _ => rfl)))))
     ·intro j hj
      have hj:j ≤ B.length:=hj
      have hwj:=w64_succ (n:=j) (by omega)
      by_cases hjB:j < B.length
      ·have l1:((j:Int) < (B.length:Int)) = True:=eq_true (by omega)
       have l2:((0:Int) ≤ (j:Int)) = True:=eq_true (by omega)
       obtain ⟨c,hc⟩:∃ c,c = B[j]:=⟨_,rfl⟩
       have hcm:=hsB B[j] (List.getElem_mem _)
       have hgc:(B.map eS0)[j]? = some [.sl 1 (c.1.map eL),.sl 1 (c.2.map eL),.int 0]:=by rw [map_get hjB,hc];rfl
       have htkB:X ++ (B.take (j + 1)).map (catS s) = (X ++ (B.take j).map (catS s)) ++ [catS s c]:=by
        rw [hc,List.take_succ_eq_append_getElem hjB,List.map_append,List.append_assoc];rfl
       rw [← hc] at hcm
       have hYl:(X ++ (B.take j).map (catS s)).length ≤ 256:=by rw [List.length_append,List.length_map,List.length_take];omega
       obtain ⟨Y,hY⟩:∃ Y,Y = X ++ (B.take j).map (catS s):=⟨_,rfl⟩
       rw [← hY] at htkB hYl ⊢
       have q1:=big_le (n:=Y.length + 1) (by omega)
       have q2:=big_mul (n:=Y.length + 1) (c:=56) (by omega) (by omega)
       have hYm:(Y.map eS0).length = Y.length:=List.length_map _
       have e1:=eq_true (And.intro hsm.1 hcm.1)
       have e2:=eq_true (And.intro hsm.2 hcm.2)
       repeat' (first|with_reducible (first|refine Q1 ?_|refine Q2 ?_|refine Q3 ?_|refine Q4 ?_|refine Q5 ?_|refine Q6 ?_|refine Q7 ?_|refine Q8 ?_|refine Q9 ?_|refine Qa ?_|refine Qb ?_|refine Qc ?_|refine Qd ?_|refine Qe ?_|refine Qf ?_)|((with_reducible refine Qo ?_ ?_);focus rfl)|((with_reducible first|refine QT 30 (l:=?_) ?_ ?_|refine QF 30 (l:=?_) ?_ ?_);rotate_left 1;focus (simp only [Zu,Nat.reduceSub,Nat.reduceBEq];with_reducible rfl))|((with_reducible first|refine QS (cfg_ok 54) Tab.none (s':=?_) ?_ ?_|refine QC (b:=?_) ?_ ?_);rotate_left 1;focus ((with_reducible refine QW ?_);simp only [Zg,seval,if_true,if_false,reduceCtorEq,Nat.reduceEqDiff,l1,l2,hgc,hBl,Int.toNat_natCast];with_reducible rfl))|((with_reducible refine QD (cfg_ok 54) Tab.none mixed_ok (tr:=?_) (s':=?_) ?_ ?_ ?_);rotate_left 2;(focus ((with_reducible refine QW ?_);simp only [Zg,Zd,seval,if_true,if_false,reduceCtorEq,Nat.reduceEqDiff,l1,l2,hgc,hBl,Int.toNat_natCast];with_reducible rfl));focus ((with_reducible refine QK ?_);simp only [Zk];kernel_rfl)))
       (((with_reducible refine RunK.wFz (cfg_ok 54) TCat mixed_ok [38,44] (tr:=?_) (s1:=?_) (rest:=?_) ?_ ?_ ?_);rotate_left 3;(focus ((with_reducible refine QW ?_);simp only [Zg,Zd,seval,if_true,if_false,reduceCtorEq,Nat.reduceEqDiff,drunF,devalF,devalB,valD,dregF_mk,List.contains_cons,List.contains_nil,TCat,TCat,codLLL_d,cat2_eq,e1,e2,q1,q2,hYm];with_reducible rfl));focus ((with_reducible refine QK ?_);simp only [Zk];kernel_rfl));(refine ROps.opsT (cfg_ok 54) (T:=TCat) (s':=?_) ?_ ?_;rotate_left 1;focus (simp only [Zg,seval,if_true,if_false,reduceCtorEq,Nat.reduceEqDiff,TCat,TCat,codLLL_d,cat2_eq,e1,e2,q1,q2,hYm];with_reducible rfl)))
       repeat' (first|with_reducible (first|refine Q1 ?_|refine Q2 ?_|refine Q3 ?_|refine Q4 ?_|refine Q5 ?_|refine Q6 ?_|refine Q7 ?_|refine Q8 ?_|refine Q9 ?_|refine Qa ?_|refine Qb ?_|refine Qc ?_|refine Qd ?_|refine Qe ?_|refine Qf ?_)|((with_reducible refine Qo ?_ ?_);focus rfl)|((with_reducible first|refine QT 30 (l:=?_) ?_ ?_|refine QF 30 (l:=?_) ?_ ?_);rotate_left 1;focus (simp only [Zu,Nat.reduceSub,Nat.reduceBEq];with_reducible rfl))|((with_reducible first|refine QS (cfg_ok 54) Tab.none (s':=?_) ?_ ?_|refine QC (b:=?_) ?_ ?_);rotate_left 1;focus ((with_reducible refine QW ?_);simp only [Zg,seval,if_true,if_false,reduceCtorEq,Nat.reduceEqDiff,hwj];with_reducible rfl))|((with_reducible refine QD (cfg_ok 54) Tab.none mixed_ok (tr:=?_) (s':=?_) ?_ ?_ ?_);rotate_left 2;(focus ((with_reducible refine QW ?_);simp only [Zg,Zd,seval,if_true,if_false,reduceCtorEq,Nat.reduceEqDiff,hwj];with_reducible rfl));focus ((with_reducible refine QK ?_);simp only [Zk];kernel_rfl)))
       refine roundK.on (j + 1) ⟨hjB,by omega⟩ ?_
       rw [htkB]
       (repeat' (first|with_reducible refine Qn|((with_reducible refine Qr ?_ ?_);focus (first|with_reducible rfl|(simp only [Zz,Nat.reduceBEq,eS0,catS];done)|rfl))|((with_reducible refine Qj (o':=?_) ?_ ?_ ?_);rotate_left 1;focus rfl)|((with_reducible refine Qw ?_ ?_);(focus (first|with_reducible rfl|(simp only [Zv,eS0,catS];done)));focus (first|exact id|exact (fun h => nomatch h)|exact (fun _ => rfl)))))
      ·have l1:((j:Int) < (B.length:Int)) = False:=eq_false (by omega)
       obtain rfl:j = B.length:=by omega
       rw [List.take_length]
       repeat' (first|with_reducible (first|refine Q1 ?_|refine Q2 ?_|refine Q3 ?_|refine Q4 ?_|refine Q5 ?_|refine Q6 ?_|refine Q7 ?_|refine Q8 ?_|refine Q9 ?_|refine Qa ?_|refine Qb ?_|refine Qc ?_|refine Qd ?_|refine Qe ?_|refine Qf ?_)|((with_reducible refine Qo ?_ ?_);focus rfl)|((with_reducible first|refine QT 30 (l:=?_) ?_ ?_|refine QF 30 (l:=?_) ?_ ?_);rotate_left 1;focus (simp only [Zu,Nat.reduceSub,Nat.reduceBEq];with_reducible rfl))|((with_reducible first|refine QS (cfg_ok 54) Tab.none (s':=?_) ?_ ?_|refine QC (b:=?_) ?_ ?_);rotate_left 1;focus ((with_reducible refine QW ?_);simp only [Zg,seval,if_true,if_false,reduceCtorEq,Nat.reduceEqDiff,l1];with_reducible rfl))|((with_reducible refine QD (cfg_ok 54) Tab.none mixed_ok (tr:=?_) (s':=?_) ?_ ?_ ?_);rotate_left 2;(focus ((with_reducible refine QW ?_);simp only [Zg,Zd,seval,if_true,if_false,reduceCtorEq,Nat.reduceEqDiff,l1];with_reducible rfl));focus ((with_reducible refine QK ?_);simp only [Zk];kernel_rfl)))
       refine roundK.out () trivial ?_
       (repeat' (first|with_reducible refine Qn|((with_reducible refine Qr ?_ ?_);focus (first|with_reducible rfl|(simp only [Zz,Nat.reduceBEq];done)|rfl))|((with_reducible refine Qj (o':=?_) ?_ ?_ ?_);rotate_left 1;focus rfl)|((with_reducible refine Qw ?_ ?_);(focus (first|with_reducible rfl|(simp only [Zv];done)));focus (first|exact id|exact (fun h => nomatch h)|exact (fun _ => rfl)))))
     ·rintro _ _
      repeat' (first|with_reducible (first|refine Q1 ?_|refine Q2 ?_|refine Q3 ?_|refine Q4 ?_|refine Q5 ?_|refine Q6 ?_|refine Q7 ?_|refine Q8 ?_|refine Q9 ?_|refine Qa ?_|refine Qb ?_|refine Qc ?_|refine Qd ?_|refine Qe ?_|refine Qf ?_)|((with_reducible refine Qo ?_ ?_);focus rfl)|((with_reducible first|refine QT 30 (l:=?_) ?_ ?_|refine QF 30 (l:=?_) ?_ ?_);rotate_left 1;focus (simp only [Zu,Nat.reduceSub,Nat.reduceBEq];with_reducible rfl))|((with_reducible first|refine QS (cfg_ok 54) Tab.none (s':=?_) ?_ ?_|refine QC (b:=?_) ?_ ?_);rotate_left 1;focus ((with_reducible refine QW ?_);simp only [Zg,seval,if_true,if_false,reduceCtorEq,Nat.reduceEqDiff,hwi];with_reducible rfl))|((with_reducible refine QD (cfg_ok 54) Tab.none mixed_ok (tr:=?_) (s':=?_) ?_ ?_ ?_);rotate_left 2;(focus ((with_reducible refine QW ?_);simp only [Zg,Zd,seval,if_true,if_false,reduceCtorEq,Nat.reduceEqDiff,hwi];with_reducible rfl));focus ((with_reducible refine QK ?_);simp only [Zk];kernel_rfl)))
      refine roundK.on (i + 1) ⟨hiA,by omega⟩ ?_
      rw [htkA]
      (repeat' (first|with_reducible refine Qn|((with_reducible refine Qr ?_ ?_);focus (first|with_reducible rfl|(simp only [Zz,Nat.reduceBEq];done)|rfl))|((with_reducible refine Qj (o':=?_) ?_ ?_ ?_);rotate_left 1;focus rfl)|((with_reducible refine Qw ?_ ?_);(focus (first|with_reducible rfl|(simp only [Zv];done)));focus (first|exact id|exact (fun h => nomatch h)|exact (fun _ => rfl)))))
    ·have j1:((i:Int) < (A.length:Int)) = False:=eq_false (by omega)
     obtain rfl:i = A.length:=by omega
     rw [List.take_length]
     repeat' (first|with_reducible (first|refine Q1 ?_|refine Q2 ?_|refine Q3 ?_|refine Q4 ?_|refine Q5 ?_|refine Q6 ?_|refine Q7 ?_|refine Q8 ?_|refine Q9 ?_|refine Qa ?_|refine Qb ?_|refine Qc ?_|refine Qd ?_|refine Qe ?_|refine Qf ?_)|((with_reducible refine Qo ?_ ?_);focus rfl)|((with_reducible first|refine QT 30 (l:=?_) ?_ ?_|refine QF 30 (l:=?_) ?_ ?_);rotate_left 1;focus (simp only [Zu,Nat.reduceSub,Nat.reduceBEq];with_reducible rfl))|((with_reducible first|refine QS (cfg_ok 54) Tab.none (s':=?_) ?_ ?_|refine QC (b:=?_) ?_ ?_);rotate_left 1;focus ((with_reducible refine QW ?_);simp only [Zg,seval,if_true,if_false,reduceCtorEq,Nat.reduceEqDiff,j1];with_reducible rfl))|((with_reducible refine QD (cfg_ok 54) Tab.none mixed_ok (tr:=?_) (s':=?_) ?_ ?_ ?_);rotate_left 2;(focus ((with_reducible refine QW ?_);simp only [Zg,Zd,seval,if_true,if_false,reduceCtorEq,Nat.reduceEqDiff,j1];with_reducible rfl));focus ((with_reducible refine QK ?_);simp only [Zk];kernel_rfl)))
     refine roundK.out () trivial ?_
     (repeat' (first|with_reducible refine Qn|((with_reducible refine Qr ?_ ?_);focus (first|with_reducible rfl|(simp only [Zz,Nat.reduceBEq];done)|rfl))|((with_reducible refine Qj (o':=?_) ?_ ?_ ?_);rotate_left 1;focus rfl)|((with_reducible refine Qw ?_ ?_);(focus (first|with_reducible rfl|(simp only [Zv];done)));focus (first|exact id|exact (fun h => nomatch h)|exact (fun _ => rfl)))))
   ·rintro _ _
    repeat' (first|with_reducible (first|refine Q1 ?_|refine Q2 ?_|refine Q3 ?_|refine Q4 ?_|refine Q5 ?_|refine Q6 ?_|refine Q7 ?_|refine Q8 ?_|refine Q9 ?_|refine Qa ?_|refine Qb ?_|refine Qc ?_|refine Qd ?_|refine Qe ?_|refine Qf ?_)|((with_reducible refine Qo ?_ ?_);focus rfl)|((with_reducible first|refine QT 30 (l:=?_) ?_ ?_|refine QF 30 (l:=?_) ?_ ?_);rotate_left 1;focus (simp only [Zu,Nat.reduceSub,Nat.reduceBEq];with_reducible rfl))|((with_reducible first|refine QS (cfg_ok 54) Tab.none (s':=?_) ?_ ?_|refine QC (b:=?_) ?_ ?_);rotate_left 1;focus ((with_reducible refine QW ?_);simp only [Zg,seval,if_true,if_false,reduceCtorEq,Nat.reduceEqDiff,hwk];with_reducible rfl))|((with_reducible refine QD (cfg_ok 54) Tab.none mixed_ok (tr:=?_) (s':=?_) ?_ ?_ ?_);rotate_left 2;(focus ((with_reducible refine QW ?_);simp only [Zg,Zd,seval,if_true,if_false,reduceCtorEq,Nat.reduceEqDiff,hwk];with_reducible rfl));focus ((with_reducible refine QK ?_);simp only [Zk];kernel_rfl)))
    refine roundK.on (k + 1) ⟨hkb,by omega⟩ ?_
    rw [htk]
    (repeat' (first|with_reducible refine Qn|((with_reducible refine Qr ?_ ?_);focus (first|with_reducible rfl|(simp only [Zz,Nat.reduceBEq];done)|rfl))|((with_reducible refine Qj (o':=?_) ?_ ?_ ?_);rotate_left 1;focus rfl)|((with_reducible refine Qw ?_ ?_);(focus (first|with_reducible rfl|(simp only [Zv];done)));focus (first|exact id|exact (fun h => nomatch h)|exact (fun _ => rfl)))))
  ·have i1:((k:Int) < (f.length:Int)) = False:=eq_false (by omega)
   obtain rfl:k = f.length:=by omega
   rw [List.take_length]
   repeat' (first|with_reducible (first|refine Q1 ?_|refine Q2 ?_|refine Q3 ?_|refine Q4 ?_|refine Q5 ?_|refine Q6 ?_|refine Q7 ?_|refine Q8 ?_|refine Q9 ?_|refine Qa ?_|refine Qb ?_|refine Qc ?_|refine Qd ?_|refine Qe ?_|refine Qf ?_)|((with_reducible refine Qo ?_ ?_);focus rfl)|((with_reducible first|refine QT 30 (l:=?_) ?_ ?_|refine QF 30 (l:=?_) ?_ ?_);rotate_left 1;focus (simp only [Zu,Nat.reduceSub,Nat.reduceBEq];with_reducible rfl))|((with_reducible first|refine QS (cfg_ok 54) Tab.none (s':=?_) ?_ ?_|refine QC (b:=?_) ?_ ?_);rotate_left 1;focus ((with_reducible refine QW ?_);simp only [Zg,seval,if_true,if_false,reduceCtorEq,Nat.reduceEqDiff,i1];with_reducible rfl))|((with_reducible refine QD (cfg_ok 54) Tab.none mixed_ok (tr:=?_) (s':=?_) ?_ ?_ ?_);rotate_left 2;(focus ((with_reducible refine QW ?_);simp only [Zg,Zd,seval,if_true,if_false,reduceCtorEq,Nat.reduceEqDiff,i1];with_reducible rfl));focus ((with_reducible refine QK ?_);simp only [Zk];kernel_rfl)))
   refine roundK.out () trivial ?_
   (repeat' (first|with_reducible refine Qn|((with_reducible refine Qr ?_ ?_);focus (first|with_reducible rfl|(simp only [Zz,Nat.reduceBEq];done)|rfl))|((with_reducible refine Qj (o':=?_) ?_ ?_ ?_);rotate_left 1;focus rfl)|((with_reducible refine Qw ?_ ?_);(focus (first|with_reducible rfl|(simp only [Zv];done)));focus (first|exact id|exact (fun h => nomatch h)|exact (fun _ => rfl)))))
 ·rintro _ _
  repeat' (first|with_reducible (first|refine Q1 ?_|refine Q2 ?_|refine Q3 ?_|refine Q4 ?_|refine Q5 ?_|refine Q6 ?_|refine Q7 ?_|refine Q8 ?_|refine Q9 ?_|refine Qa ?_|refine Qb ?_|refine Qc ?_|refine Qd ?_|refine Qe ?_|refine Qf ?_)|((with_reducible refine Qo ?_ ?_);focus rfl)|((with_reducible first|refine QT 30 (l:=?_) ?_ ?_|refine QF 30 (l:=?_) ?_ ?_);rotate_left 1;focus (simp only [Zu,Nat.reduceSub,Nat.reduceBEq];with_reducible rfl))|((with_reducible first|refine QS (cfg_ok 54) Tab.none (s':=?_) ?_ ?_|refine QC (b:=?_) ?_ ?_);rotate_left 1;focus ((with_reducible refine QW ?_);simp only [Zg,seval,if_true,if_false,reduceCtorEq,Nat.reduceEqDiff];with_reducible rfl))|((with_reducible refine QD (cfg_ok 54) Tab.none mixed_ok (tr:=?_) (s':=?_) ?_ ?_ ?_);rotate_left 2;(focus ((with_reducible refine QW ?_);simp only [Zg,Zd,seval,if_true,if_false,reduceCtorEq,Nat.reduceEqDiff];with_reducible rfl));focus ((with_reducible refine QK ?_);simp only [Zk];kernel_rfl)))
  (refine Ends.mk (by simp) (rs:=?_) (ks:=?_) hres hrts ?_ ?_ ?_;rotate_left 2;(focus (simp only [Ze,Zg,seval,if_true,if_false,reduceCtorEq,Nat.reduceEqDiff];with_reducible rfl));(focus simp);focus (first|with_reducible rfl|(simp only [Zv];done)))
end Go.Proofs.YtgngidchldajhaaGreat
namespace Go.Proofs.YtgngidchldajhaaGreat
open Go.RowKit
section
variable {α:Type} (f g:α→List (List D)) (n:α→Int)
def e3 (x:α):List D:=[.sl 1 (f x),.sl 1 (g x),.int (n x)]
def e3T (q:α × (List Nat × List Nat)):List D:=[.tag q.2.1 (.sl 1 (f q.1)),.tag q.2.2 (.sl 1 (g q.1)),.int (n q.1)]
def bl3 (q:α × (List Nat × List Nat)):List Nat:=q.2.1 ++ q.2.2
theorem tag_rows3:∀ {L:List α} {xs':List (List D)} {F:List Nat},TagL (L.map (e3 f g n)) xs' F→PlainL (L.map (e3 f g n)) xs'→∃ zs:List (α × (List Nat × List Nat)),L = zs.map (·.1)∧xs' = zs.map (e3T f g n)∧F = (zs.map bl3).flatten
 | [],xs',F,⟨h1,h2⟩,_ => ⟨[],rfl,h1,h2⟩
 | p :: L,xs',F,⟨y,ys,G,H,h1,h2,h3,h4⟩,⟨y',ys',p1,p2,p3⟩ => by
  obtain ⟨e1,e2⟩:y = y'∧ys = ys':=by rw [h1] at p1;simpa using p1
  subst e1;subst e2
  obtain ⟨zs,e1,e2,e3'⟩:=tag_rows3 h4 p3
  obtain ⟨y0,ys0,G0,H0,k1,k2,k3,y1,ys1,G1,H1,k4,k5,k6,y2,ys2,G2,H2,m4,m5,m6,m7,m8⟩:=h3
  obtain ⟨x0,xs0,a1,_,x1,xs1,a2,_,x2,xs2,a3,a4,_⟩:=p2
  obtain ⟨b1,b2⟩:y0 = x0∧ys0 = xs0:=by rw [k1] at a1;simpa using a1
  subst b1;subst b2
  obtain ⟨b1,b2⟩:y1 = x1∧ys1 = xs1:=by rw [k4] at a2;simpa using a2
  subst b1;subst b2
  obtain ⟨b1,b2⟩:y2 = x2∧ys2 = xs2:=by rw [m4] at a3;simpa using a3
  subst b1;subst b2
  have hy2:=a4 rfl
  subst m7;subst m8
  have hG2:G2 = []:=by
   rcases m6 with m6|⟨_,_,m6⟩
   ·rw [m6] at hy2;cases hy2
   ·exact m6
  subst hG2;subst hy2
  rcases k3 with rfl|⟨k3,_⟩
  ·rcases k6 with rfl|⟨k6,_⟩
   ·exact ⟨(p,(G0,G1)) :: zs,by rw [e1];rfl,by rw [h1,k1,k4,m4,e2];rfl,by rw [h2,k2,k5,m5,e3'];simp [bl3]⟩
   ·cases k6
  ·cases k3
end
section
variable {P:Program} {cfg:Cfg} {M:Nat→Prop} {ops:Array Oper} {s:St} {w0:W0} {w:World} {Ok:Nat→Prop} {N:Nat} {σ:Asg} {a:Act} {fs:List Fr} {Q:Exit→St→Prop}
end
end Go.Proofs.YtgngidchldajhaaGreat
namespace Go.Proofs.YtgngidchldajhaaGreat
open Go.RowKit
set_option maxHeartbeats 2000000 in
theorem a_IndexFuncTe {α:Type} (e:α→List D) (d d2:α→D) (c0:α→Int) (f f2:α→List (List Int)) (p:α→Bool) (g:FuncId) (he:∀ x,e x = [.int (c0 x),d x,d2 x]) (hun:∀ x,(d x).un = .sl 1 ((f x).map eL)) (hun2:∀ x,(d2 x).un = .sl 1 ((f2 x).map eL)) (hp:∀ x,AFn Tryz.prog g [[.int (c0 x),.sl 1 ((f x).map eL),.sl 1 ((f2 x).map eL)]] (· = [.val (.bool (p x))])) (xs:List α) (hl:xs.length ≤ 1000000000) :
  AFn Tryz.prog 176 [[.sl 3 (xs.map e)],[.raw (.func (.func g) #[] #[])]] (· = [.val (.int (idxI (fIdx p xs)))]):=by
 refine AFn.of_runs (cfg_ok 19) Tryz.func176 rfl rfl rfl (by simp only [List.length_cons,List.length_nil];decide) ?_
 have hres:Tryz.f176.results.toList = [.tmp 4]:=rfl
 have hrts:Tryz.f176.resultTypes.toList = [3]:=rfl
 simp only [argRegs,argAV1,eL,eI,eLL,eB,Nat.zero_add,Nat.reduceAdd]
 intro M
 refine RunK.of ?_
 have hle:(xs.map e).length = xs.length:=by simp
 repeat' (first|with_reducible (first|refine Q1 ?_|refine Q2 ?_|refine Q3 ?_|refine Q4 ?_|refine Q5 ?_|refine Q6 ?_|refine Q7 ?_|refine Q8 ?_|refine Q9 ?_|refine Qa ?_|refine Qb ?_|refine Qc ?_|refine Qd ?_|refine Qe ?_|refine Qf ?_)|((with_reducible refine Qo ?_ ?_);focus rfl)|((with_reducible first|refine QT 9 (l:=?_) ?_ ?_|refine QF 9 (l:=?_) ?_ ?_);rotate_left 1;focus (simp only [Zu,Nat.reduceSub,Nat.reduceBEq];with_reducible rfl))|((with_reducible first|refine QS (cfg_ok 19) Tab.none (s':=?_) ?_ ?_|refine QC (b:=?_) ?_ ?_);rotate_left 1;focus ((with_reducible refine QW ?_);simp only [Zg,seval,if_true,if_false,reduceCtorEq,Nat.reduceEqDiff,hle];with_reducible rfl)))
 refine RunK.loop (β:=Nat) (γ:=Unit) (fun i => ⟨[(0,.c (.val (.sl 3 (xs.map e)))),(1,.c (.val (.raw (.func (.func g) #[] #[])))),(7,.c (.val (.int xs.length))),(8,.c (.val (.int i)))],[]⟩) (fun i => i ≤ xs.length∧∀ x ∈ xs.take i,p x = false) (fun i => xs.length - i)
  (fun _ => ⟨[],[]⟩) (fun _ => ∀ x ∈ xs,p x = false) 0 ⟨Nat.zero_le _,by simp⟩ ?_ ?_ ?_
 ·(repeat' (first|with_reducible refine Qn|((with_reducible refine Qr ?_ ?_);focus (first|with_reducible rfl|(simp only [Zz,Nat.reduceBEq];done)|rfl))|((with_reducible refine Qj (o':=?_) ?_ ?_ ?_);rotate_left 1;focus rfl)|((with_reducible refine Qw ?_ ?_);(focus (first|with_reducible rfl|(simp only [Zv];done)));focus (first|exact id|exact (fun h => nomatch h)|exact (fun _ => rfl)))))
 ·rintro i ⟨hi,hlow⟩
  have hw:=w64_succ (n:=i) (by omega)
  by_cases h:i < xs.length
  ·have hx:=hp xs[i]
   have hj:(xs.map e)[i]? = some [.int (c0 xs[i]),d xs[i],d2 xs[i]]:=by rw [map_get h,he]
   have i1:((i:Int) < (xs.length:Int)) = True:=eq_true (by omega)
   have i2:((0:Int) ≤ (i:Int)) = True:=eq_true (by omega)
   by_cases hpx:p xs[i] = true
   ·repeat' (first|with_reducible (first|refine Q1 ?_|refine Q2 ?_|refine Q3 ?_|refine Q4 ?_|refine Q5 ?_|refine Q6 ?_|refine Q7 ?_|refine Q8 ?_|refine Q9 ?_|refine Qa ?_|refine Qb ?_|refine Qc ?_|refine Qd ?_|refine Qe ?_|refine Qf ?_)|((with_reducible refine Qo ?_ ?_);focus rfl)|((with_reducible first|refine QT 9 (l:=?_) ?_ ?_|refine QF 9 (l:=?_) ?_ ?_);rotate_left 1;focus (simp only [Zu,Nat.reduceSub,Nat.reduceBEq];with_reducible rfl))|((with_reducible first|refine QS (cfg_ok 19) (Tab.none.at' g hx) (s':=?_) ?_ ?_|refine QC (b:=?_) ?_ ?_);rotate_left 1;focus ((with_reducible refine QW ?_);simp only [Zg,seval,if_true,if_false,reduceCtorEq,Nat.reduceEqDiff,hle,i1,i2,hj,hun,hun2,argV_un (hun _),cellD_un (hun _),argV_un (hun2 _),cellD_un (hun2 _),hpx,hw,eL,Int.toNat_natCast];with_reducible rfl)))
    refine roundK.ret ?_
    repeat' (first|with_reducible (first|refine Q1 ?_|refine Q2 ?_|refine Q3 ?_|refine Q4 ?_|refine Q5 ?_|refine Q6 ?_|refine Q7 ?_|refine Q8 ?_|refine Q9 ?_|refine Qa ?_|refine Qb ?_|refine Qc ?_|refine Qd ?_|refine Qe ?_|refine Qf ?_)|((with_reducible refine Qo ?_ ?_);focus rfl)|((with_reducible first|refine QT 9 (l:=?_) ?_ ?_|refine QF 9 (l:=?_) ?_ ?_);rotate_left 1;focus (simp only [Zu,Nat.reduceSub,Nat.reduceBEq];with_reducible rfl))|((with_reducible first|refine QS (cfg_ok 19) Tab.none (s':=?_) ?_ ?_|refine QC (b:=?_) ?_ ?_);rotate_left 1;focus ((with_reducible refine QW ?_);simp only [Zg,seval,if_true,if_false,reduceCtorEq,Nat.reduceEqDiff];with_reducible rfl)))
    rw [fIdx_at h hpx hlow]
    (refine Ends.mk (by simp) (rs:=?_) (ks:=?_) hres hrts ?_ ?_ ?_;rotate_left 2;(focus (simp only [Ze,Zg,seval,if_true,if_false,reduceCtorEq,Nat.reduceEqDiff,idxI];with_reducible rfl));(focus simp);focus (first|with_reducible rfl|(simp only [Zv,idxI];done)))
   ·have hpx':p xs[i] = false:=by simpa using hpx
    repeat' (first|with_reducible (first|refine Q1 ?_|refine Q2 ?_|refine Q3 ?_|refine Q4 ?_|refine Q5 ?_|refine Q6 ?_|refine Q7 ?_|refine Q8 ?_|refine Q9 ?_|refine Qa ?_|refine Qb ?_|refine Qc ?_|refine Qd ?_|refine Qe ?_|refine Qf ?_)|((with_reducible refine Qo ?_ ?_);focus rfl)|((with_reducible first|refine QT 9 (l:=?_) ?_ ?_|refine QF 9 (l:=?_) ?_ ?_);rotate_left 1;focus (simp only [Zu,Nat.reduceSub,Nat.reduceBEq];with_reducible rfl))|((with_reducible first|refine QS (cfg_ok 19) (Tab.none.at' g hx) (s':=?_) ?_ ?_|refine QC (b:=?_) ?_ ?_);rotate_left 1;focus ((with_reducible refine QW ?_);simp only [Zg,seval,if_true,if_false,reduceCtorEq,Nat.reduceEqDiff,hle,i1,i2,hj,hun,hun2,argV_un (hun _),cellD_un (hun _),argV_un (hun2 _),cellD_un (hun2 _),hpx',hw,eL,Int.toNat_natCast];with_reducible rfl)))
    refine roundK.on (i + 1) ⟨⟨h,fun x hx => ?_⟩,by omega⟩ ?_
    ·rw [List.take_succ_eq_append_getElem h,List.mem_append,List.mem_singleton] at hx
     rcases hx with hx|rfl
     ·exact hlow x hx
     ·exact hpx'
    ·(repeat' (first|with_reducible refine Qn|((with_reducible refine Qr ?_ ?_);focus (first|with_reducible rfl|(simp only [Zz,Nat.reduceBEq];done)|rfl))|((with_reducible refine Qj (o':=?_) ?_ ?_ ?_);rotate_left 1;focus rfl)|((with_reducible refine Qw ?_ ?_);(focus (first|with_reducible rfl|(simp only [Zv];done)));focus (first|exact id|exact (fun h => nomatch h)|exact (fun _ => rfl)))))
  ·have i1:((i:Int) < (xs.length:Int)) = False:=eq_false (by omega)
   repeat' (first|with_reducible (first|refine Q1 ?_|refine Q2 ?_|refine Q3 ?_|refine Q4 ?_|refine Q5 ?_|refine Q6 ?_|refine Q7 ?_|refine Q8 ?_|refine Q9 ?_|refine Qa ?_|refine Qb ?_|refine Qc ?_|refine Qd ?_|refine Qe ?_|refine Qf ?_)|((with_reducible refine Qo ?_ ?_);focus rfl)|((with_reducible first|refine QT 9 (l:=?_) ?_ ?_|refine QF 9 (l:=?_) ?_ ?_);rotate_left 1;focus (simp only [Zu,Nat.reduceSub,Nat.reduceBEq];with_reducible rfl))|((with_reducible first|refine QS (cfg_ok 19) Tab.none (s':=?_) ?_ ?_|refine QC (b:=?_) ?_ ?_);rotate_left 1;focus ((with_reducible refine QW ?_);simp only [Zg,seval,if_true,if_false,reduceCtorEq,Nat.reduceEqDiff,hle,i1];with_reducible rfl)))
   refine roundK.out () (fun x hx => hlow x (by rw [List.take_of_length_le (by omega)];exact hx)) ?_
   (repeat' (first|with_reducible refine Qn|((with_reducible refine Qr ?_ ?_);focus (first|with_reducible rfl|(simp only [Zz,Nat.reduceBEq];done)|rfl))|((with_reducible refine Qj (o':=?_) ?_ ?_ ?_);rotate_left 1;focus rfl)|((with_reducible refine Qw ?_ ?_);(focus (first|with_reducible rfl|(simp only [Zv];done)));focus (first|exact id|exact (fun h => nomatch h)|exact (fun _ => rfl)))))
 ·rintro _ hno
  repeat' (first|with_reducible (first|refine Q1 ?_|refine Q2 ?_|refine Q3 ?_|refine Q4 ?_|refine Q5 ?_|refine Q6 ?_|refine Q7 ?_|refine Q8 ?_|refine Q9 ?_|refine Qa ?_|refine Qb ?_|refine Qc ?_|refine Qd ?_|refine Qe ?_|refine Qf ?_)|((with_reducible refine Qo ?_ ?_);focus rfl)|((with_reducible first|refine QT 9 (l:=?_) ?_ ?_|refine QF 9 (l:=?_) ?_ ?_);rotate_left 1;focus (simp only [Zu,Nat.reduceSub,Nat.reduceBEq];with_reducible rfl))|((with_reducible first|refine QS (cfg_ok 19) Tab.none (s':=?_) ?_ ?_|refine QC (b:=?_) ?_ ?_);rotate_left 1;focus ((with_reducible refine QW ?_);simp only [Zg,seval,if_true,if_false,reduceCtorEq,Nat.reduceEqDiff];with_reducible rfl)))
  rw [fIdx_none.2 hno]
  (refine Ends.mk (by simp) (rs:=?_) (ks:=?_) hres hrts ?_ ?_ ?_;rotate_left 2;(focus (simp only [Ze,Zg,seval,if_true,if_false,reduceCtorEq,Nat.reduceEqDiff,idxI];with_reducible rfl));(focus simp);focus (first|with_reducible rfl|(simp only [Zv,idxI];done)))
set_option maxHeartbeats 4000000 in
theorem a_DeleteFuncTe {α:Type} (e:α→List D) (d d2:α→D) (c0:α→Int) (f f2:α→List (List Int)) (p:α→Bool) (g:FuncId) (he:∀ x,e x = [.int (c0 x),d x,d2 x]) (hun:∀ x,(d x).un = .sl 1 ((f x).map eL)) (hun2:∀ x,(d2 x).un = .sl 1 ((f2 x).map eL)) (hp:∀ x,AFn Tryz.prog g [[.int (c0 x),.sl 1 ((f x).map eL),.sl 1 ((f2 x).map eL)]] (· = [.val (.bool (p x))])) (xs:List α) (hl:xs.length ≤ 1000000000) :
  AOw Tryz.prog 106 [] 3 (xs.map e) [[.raw (.func (.func g) #[] #[])]] (· = [.own 3 ((keepF p xs).map e) false]):=by
 have hidx:=a_IndexFuncTe e d d2 c0 f f2 p g he hun hun2 hp xs hl
 rcases hfi:fIdx p xs with _|i0
 ·rw [hfi] at hidx
  have hk:keepF p xs = xs:=List.filter_eq_self.2 (fun x hx => by rw [fIdx_none.1 hfi x hx];rfl)
  rw [hk]
  refine AOw.of_runs (cfg_ok 42) Tryz.func106 rfl rfl rfl (by simp only [List.length_cons,List.length_nil];decide) ?_
  have hres:Tryz.f106.results.toList = [.tmp 4]:=rfl
  have hrts:Tryz.f106.resultTypes.toList = [61]:=rfl
  simp only [List.length_cons,List.length_nil,List.nil_append,List.cons_append,argRegs,argAV1,eL,eI,eLL,eB,Nat.zero_add,Nat.reduceAdd]
  intro M
  refine RunK.of ?_
  repeat' (first|with_reducible (first|refine Q1 ?_|refine Q2 ?_|refine Q3 ?_|refine Q4 ?_|refine Q5 ?_|refine Q6 ?_|refine Q7 ?_|refine Q8 ?_|refine Q9 ?_|refine Qa ?_|refine Qb ?_|refine Qc ?_|refine Qd ?_|refine Qe ?_|refine Qf ?_)|((with_reducible refine Qo ?_ ?_);focus rfl)|((with_reducible first|refine QT 8 (l:=?_) ?_ ?_|refine QF 8 (l:=?_) ?_ ?_);rotate_left 1;focus (simp only [Zu,Nat.reduceSub,Nat.reduceBEq];with_reducible rfl))|((with_reducible first|refine QS (cfg_ok 42) (Tab.none.at' 176 hidx) (s':=?_) ?_ ?_|refine QC (b:=?_) ?_ ?_);rotate_left 1;focus ((with_reducible refine QW ?_);simp only [Zg,seval,if_true,if_false,reduceCtorEq,Nat.reduceEqDiff,idxI];with_reducible rfl)))
  (refine Ends.mk (by simp) (rs:=?_) (ks:=?_) hres hrts ?_ ?_ ?_;rotate_left 2;(focus (simp only [Ze,Zg,seval,if_true,if_false,reduceCtorEq,Nat.reduceEqDiff];with_reducible rfl));(focus simp);focus (first|with_reducible rfl|(simp only [Zv];done)))
 ·rw [hfi] at hidx
  obtain ⟨hi0,hpi,hlow⟩:=fIdx_some hfi
  refine AOw.of_runs (cfg_ok 42) Tryz.func106 rfl rfl rfl (by simp only [List.length_cons,List.length_nil];decide) ?_
  have hres:Tryz.f106.results.toList = [.tmp 4]:=rfl
  have hrts:Tryz.f106.resultTypes.toList = [61]:=rfl
  simp only [List.length_cons,List.length_nil,List.nil_append,List.cons_append,argRegs,argAV1,eL,eI,eLL,eB,Nat.zero_add,Nat.reduceAdd]
  intro M
  refine RunK.of ?_
  have hne:((i0:Int) == -1) = false:=beq_eq_false_iff_ne.2 (by omega)
  have hw0:=w64_succ (n:=i0) (by omega)
  repeat' (first|with_reducible (first|refine Q1 ?_|refine Q2 ?_|refine Q3 ?_|refine Q4 ?_|refine Q5 ?_|refine Q6 ?_|refine Q7 ?_|refine Q8 ?_|refine Q9 ?_|refine Qa ?_|refine Qb ?_|refine Qc ?_|refine Qd ?_|refine Qe ?_|refine Qf ?_)|((with_reducible refine Qo ?_ ?_);focus rfl)|((with_reducible first|refine QT 8 (l:=?_) ?_ ?_|refine QF 8 (l:=?_) ?_ ?_);rotate_left 1;focus (simp only [Zu,Nat.reduceSub,Nat.reduceBEq];with_reducible rfl))|((with_reducible first|refine QS (cfg_ok 42) (Tab.none.at' 176 hidx) (s':=?_) ?_ ?_|refine QC (b:=?_) ?_ ?_);rotate_left 1;focus ((with_reducible refine QW ?_);simp only [Zg,seval,if_true,if_false,reduceCtorEq,Nat.reduceEqDiff,idxI,hne,hw0];with_reducible rfl)))
  refine RunK.loop (β:=Nat × List (List D)) (γ:=List (List D)) (fun x => ⟨[(0,.c (.own 0 xs.length)),(1,.c (.val (.raw (.func (.func g) #[] #[])))),(5,.c (.val (.int (keepF p (xs.take x.1)).length))),(6,.c (.val (.int x.1)))],[(0,.row 3 x.2 false)]⟩)
   (fun x => x.1 ≤ xs.length∧x.2.length = xs.length∧(∀ r ∈ x.2,r.length = 3)∧x.2.take (keepF p (xs.take x.1)).length = (keepF p (xs.take x.1)).map e∧x.2.drop x.1 = (xs.drop x.1).map e) (fun x => xs.length - x.1)
   (fun L => ⟨[(0,.c (.own 0 xs.length)),(5,.c (.val (.int (keepF p xs).length)))],[(0,.row 3 L false)]⟩) (fun L => L.length = xs.length∧L.take (keepF p xs).length = (keepF p xs).map e) (i0 + 1,xs.map e) ⟨by omega,by simp,?_,?_,by rw [List.map_drop]⟩ ?_ ?_ ?_
  ·intro r hr
   obtain ⟨x,_,rfl⟩:=List.mem_map.1 hr
   rw [he];rfl
  ·have h1:keepF p (xs.take (i0 + 1)) = xs.take i0:=by
    rw [List.take_succ_eq_append_getElem hi0]
    unfold keepF
    rw [List.filter_append,List.filter_eq_self.2 (fun x hx => by rw [hlow x hx];rfl)]
    simp [hpi]
   show (xs.map e).take (keepF p (xs.take (i0 + 1))).length = (keepF p (xs.take (i0 + 1))).map e
   rw [h1,← List.map_take,List.length_take,Nat.min_eq_left (Nat.le_of_lt hi0)]
  ·have h1:(keepF p (xs.take (i0 + 1))).length = i0:=by
    rw [List.take_succ_eq_append_getElem hi0]
    unfold keepF
    rw [List.filter_append,List.filter_eq_self.2 (fun x hx => by rw [hlow x hx];rfl)]
    simp [hpi];omega
   (repeat' (first|with_reducible refine Qn|((with_reducible refine Qr ?_ ?_);focus (first|with_reducible rfl|(simp only [Zz,Nat.reduceBEq,h1];done)|rfl))|((with_reducible refine Qj (o':=?_) ?_ ?_ ?_);rotate_left 1;focus rfl)|((with_reducible refine Qw ?_ ?_);(focus (first|with_reducible rfl|(simp only [Zv,h1];done)));focus (first|exact id|exact (fun h => nomatch h)|exact (fun _ => rfl)))))
  ·rintro ⟨j,L⟩ ⟨hj,hL,hone,htk,hdr⟩
   have hj:j ≤ xs.length:=hj
   have hL:L.length = xs.length:=hL
   have htk:L.take (keepF p (xs.take j)).length = (keepF p (xs.take j)).map e:=htk
   have hdr:L.drop j = (xs.drop j).map e:=hdr
   have hw:=w64_succ (n:=j) (by omega)
   have hcl:(keepF p (xs.take j)).length ≤ j:=by
    have:=List.length_filter_le (fun x => !p x) (xs.take j)
    unfold keepF
    rw [List.length_take] at this
    omega
   have hwc:=w64_succ (n:=(keepF p (xs.take j)).length) (by omega)
   by_cases h:j < xs.length
   ·have hx:=hp xs[j]
    have hLj:L[j]? = some [.int (c0 xs[j]),d xs[j],d2 xs[j]]:=by
     have:(L.drop j)[0]? = ((xs.drop j).map e)[0]?:=by rw [hdr]
     rw [List.getElem?_drop,List.getElem?_map,List.getElem?_drop] at this
     simpa [h,he] using this
    have i1:((j:Int) < (xs.length:Int)) = True:=eq_true (by omega)
    have i2:((0:Int) ≤ (j:Int)) = True:=eq_true (by omega)
    have hsucc:keepF p (xs.take (j + 1)) = if p xs[j] = true then keepF p (xs.take j) else keepF p (xs.take j) ++ [xs[j]]:=by
     rw [List.take_succ_eq_append_getElem h]
     unfold keepF
     rw [List.filter_append]
     by_cases hpx:p xs[j] = true <;> simp [hpx]
    by_cases hpx:p xs[j] = true
    ·rw [if_pos hpx] at hsucc
     repeat' (first|with_reducible (first|refine Q1 ?_|refine Q2 ?_|refine Q3 ?_|refine Q4 ?_|refine Q5 ?_|refine Q6 ?_|refine Q7 ?_|refine Q8 ?_|refine Q9 ?_|refine Qa ?_|refine Qb ?_|refine Qc ?_|refine Qd ?_|refine Qe ?_|refine Qf ?_)|((with_reducible refine Qo ?_ ?_);focus rfl)|((with_reducible first|refine QT 8 (l:=?_) ?_ ?_|refine QF 8 (l:=?_) ?_ ?_);rotate_left 1;focus (simp only [Zu,Nat.reduceSub,Nat.reduceBEq];with_reducible rfl))|((with_reducible first|refine QS (cfg_ok 42) (Tab.none.at' g hx) (s':=?_) ?_ ?_|refine QC (b:=?_) ?_ ?_);rotate_left 1;focus ((with_reducible refine QW ?_);simp only [Zg,seval,if_true,if_false,reduceCtorEq,Nat.reduceEqDiff,hL,i1,i2,hLj,hun,hun2,argV_un (hun _),cellD_un (hun _),argV_un (hun2 _),cellD_un (hun2 _),hpx,hw,eL,Int.toNat_natCast];with_reducible rfl)))
     refine roundK.on (j + 1,L) ⟨⟨h,hL,hone,?_,?_⟩,by show xs.length - (j + 1) < xs.length - j;omega⟩ ?_
     ·rw [hsucc];exact htk
     ·show L.drop (j + 1) = (xs.drop (j + 1)).map e
      rw [← List.drop_drop,hdr,← List.map_drop,List.drop_drop]
     ·(repeat' (first|with_reducible refine Qn|((with_reducible refine Qr ?_ ?_);focus (first|with_reducible rfl|(simp only [Zz,Nat.reduceBEq,hsucc];done)|rfl))|((with_reducible refine Qj (o':=?_) ?_ ?_ ?_);rotate_left 1;focus rfl)|((with_reducible refine Qw ?_ ?_);(focus (first|with_reducible rfl|(simp only [Zv,hsucc];done)));focus (first|exact id|exact (fun h => nomatch h)|exact (fun _ => rfl)))))
    ·have hpx':p xs[j] = false:=by simpa using hpx
     rw [if_neg hpx] at hsucc
     obtain ⟨c,hc⟩:∃ c,c = (keepF p (xs.take j)).length:=⟨_,rfl⟩
     have hcs:(keepF p (xs.take (j + 1))).length = c + 1:=by rw [hsucc,hc];simp
     rw [← hc] at hwc hcl htk
     have hcL:c < L.length:=by omega
     obtain ⟨y,y2,y3,hy⟩:∃ y y2 y3,L[c] = [y,y2,y3]:=by
      have:=hone L[c] (List.getElem_mem _)
      match L[c],this with
      | [y,y2,y3],_ => exact ⟨y,y2,y3,rfl⟩
     have hLc:L[c]? = some [y,y2,y3]:=by rw [List.getElem?_eq_getElem hcL,hy]
     have i3:((c:Int) < (xs.length:Int)) = True:=eq_true (by omega)
     have i4:((0:Int) ≤ (c:Int)) = True:=eq_true (by omega)
     rw [← hc]
     repeat' (first|with_reducible (first|refine Q1 ?_|refine Q2 ?_|refine Q3 ?_|refine Q4 ?_|refine Q5 ?_|refine Q6 ?_|refine Q7 ?_|refine Q8 ?_|refine Q9 ?_|refine Qa ?_|refine Qb ?_|refine Qc ?_|refine Qd ?_|refine Qe ?_|refine Qf ?_)|((with_reducible refine Qo ?_ ?_);focus rfl)|((with_reducible first|refine QT 8 (l:=?_) ?_ ?_|refine QF 8 (l:=?_) ?_ ?_);rotate_left 1;focus (simp only [Zu,Nat.reduceSub,Nat.reduceBEq];with_reducible rfl))|((with_reducible first|refine QS (cfg_ok 42) (Tab.none.at' g hx) (s':=?_) ?_ ?_|refine QC (b:=?_) ?_ ?_);rotate_left 1;focus ((with_reducible refine QW ?_);simp only [Zg,seval,if_true,if_false,reduceCtorEq,Nat.reduceEqDiff,hL,i1,i2,i3,i4,hLj,hLc,hun,hun2,argV_un (hun _),cellD_un (hun _),argV_un (hun2 _),cellD_un (hun2 _),hpx',hw,hwc,eL,Int.toNat_natCast];with_reducible rfl)))
     refine roundK.on (j + 1,L.set c [.int (c0 xs[j]),d xs[j],d2 xs[j]]) ⟨⟨h,by simpa using hL,?_,?_,?_⟩,by show xs.length - (j + 1) < xs.length - j;omega⟩ ?_
     ·intro r hr
      rcases List.mem_or_eq_of_mem_set hr with hr|rfl
      ·exact hone r hr
      ·rfl
     ·show (L.set c [.int (c0 xs[j]),d xs[j],d2 xs[j]]).take (keepF p (xs.take (j + 1))).length = (keepF p (xs.take (j + 1))).map e
      rw [hcs,hsucc,List.map_append,List.take_succ_eq_append_getElem (by simpa using hcL),List.take_set_of_le (Nat.le_refl _),htk]
      simp [he]
     ·show (L.set c [.int (c0 xs[j]),d xs[j],d2 xs[j]]).drop (j + 1) = (xs.drop (j + 1)).map e
      rw [List.drop_set_of_lt (by omega),← List.drop_drop,hdr,← List.map_drop,List.drop_drop]
     ·(repeat' (first|with_reducible refine Qn|((with_reducible refine Qr ?_ ?_);focus (first|with_reducible rfl|(simp only [Zz,Nat.reduceBEq,hcs];done)|rfl))|((with_reducible refine Qj (o':=?_) ?_ ?_ ?_);rotate_left 1;focus rfl)|((with_reducible refine Qw ?_ ?_);(focus (first|with_reducible rfl|(simp only [Zv,hcs];done)));focus (first|exact id|exact (fun h => nomatch h)|exact (fun _ => rfl)))))
   ·have i1:((j:Int) < (xs.length:Int)) = False:=eq_false (by omega)
    have hall:xs.take j = xs:=List.take_of_length_le (by omega)
    rw [hall] at htk ⊢
    repeat' (first|with_reducible (first|refine Q1 ?_|refine Q2 ?_|refine Q3 ?_|refine Q4 ?_|refine Q5 ?_|refine Q6 ?_|refine Q7 ?_|refine Q8 ?_|refine Q9 ?_|refine Qa ?_|refine Qb ?_|refine Qc ?_|refine Qd ?_|refine Qe ?_|refine Qf ?_)|((with_reducible refine Qo ?_ ?_);focus rfl)|((with_reducible first|refine QT 8 (l:=?_) ?_ ?_|refine QF 8 (l:=?_) ?_ ?_);rotate_left 1;focus (simp only [Zu,Nat.reduceSub,Nat.reduceBEq];with_reducible rfl))|((with_reducible first|refine QS (cfg_ok 42) Tab.none (s':=?_) ?_ ?_|refine QC (b:=?_) ?_ ?_);rotate_left 1;focus ((with_reducible refine QW ?_);simp only [Zg,seval,if_true,if_false,reduceCtorEq,Nat.reduceEqDiff,hL,i1];with_reducible rfl)))
    refine roundK.out L ⟨hL,htk⟩ ?_
    (repeat' (first|with_reducible refine Qn|((with_reducible refine Qr ?_ ?_);focus (first|with_reducible rfl|(simp only [Zz,Nat.reduceBEq];done)|rfl))|((with_reducible refine Qj (o':=?_) ?_ ?_ ?_);rotate_left 1;focus rfl)|((with_reducible refine Qw ?_ ?_);(focus (first|with_reducible rfl|(simp only [Zv];done)));focus (first|exact id|exact (fun h => nomatch h)|exact (fun _ => rfl)))))
  ·rintro L ⟨hL,htk⟩
   have hcl:(keepF p xs).length ≤ xs.length:=List.length_filter_le _ _
   obtain ⟨c,hc⟩:∃ c,c = (keepF p xs).length:=⟨_,rfl⟩
   rw [← hc] at htk hcl ⊢
   have i1:((c:Int) ≤ (xs.length:Int)) = True:=eq_true (by omega)
   have i2:((0:Int) ≤ (c:Int)) = True:=eq_true (by omega)
   have i3:((xs.length:Int) ≤ (xs.length:Int)) = True:=eq_true (by omega)
   have htn:((xs.length:Int)).toNat = xs.length:=Int.toNat_natCast _
   repeat' (first|with_reducible (first|refine Q1 ?_|refine Q2 ?_|refine Q3 ?_|refine Q4 ?_|refine Q5 ?_|refine Q6 ?_|refine Q7 ?_|refine Q8 ?_|refine Q9 ?_|refine Qa ?_|refine Qb ?_|refine Qc ?_|refine Qd ?_|refine Qe ?_|refine Qf ?_)|((with_reducible refine Qo ?_ ?_);focus rfl)|((with_reducible first|refine QT 8 (l:=?_) ?_ ?_|refine QF 8 (l:=?_) ?_ ?_);rotate_left 1;focus (simp only [Zu,Nat.reduceSub,Nat.reduceBEq];with_reducible rfl))|((with_reducible first|refine QS (cfg_ok 42) Tab.none (s':=?_) ?_ ?_|refine QC (b:=?_) ?_ ?_);rotate_left 1;focus ((with_reducible refine QW ?_);simp only [Zg,seval,if_true,if_false,reduceCtorEq,Nat.reduceEqDiff];with_reducible rfl)))
   refine RunK.regCut (cfg_ok 42) Tab.none 3 (s1:=?_) ?_ ?_
   rotate_left 1
   focus (refine Work.mk ?_;simp only [Zg,seval,if_true,if_false,reduceCtorEq,Nat.reduceEqDiff,hL,i1,i2,i3,Int.toNat_natCast];with_reducible rfl)
   simp only [List.toList_toArray,List.drop_succ_cons,List.drop_zero]
   refine ROps.clear (cfg_ok 42) (x:=.tmp 38) (t:=61) (i:=⟨82,[.int 0,.sl 1 [],.sl 1 []],56⟩) (key:=0) (j:=c) (m:=xs.length - c) rfl rfl rfl rfl rfl rfl rfl (by rw [hL];omega) ?_
   refine ROps.nil ?_
   repeat' (first|with_reducible (first|refine Q1 ?_|refine Q2 ?_|refine Q3 ?_|refine Q4 ?_|refine Q5 ?_|refine Q6 ?_|refine Q7 ?_|refine Q8 ?_|refine Q9 ?_|refine Qa ?_|refine Qb ?_|refine Qc ?_|refine Qd ?_|refine Qe ?_|refine Qf ?_)|((with_reducible refine Qo ?_ ?_);focus rfl)|((with_reducible first|refine QT 8 (l:=?_) ?_ ?_|refine QF 8 (l:=?_) ?_ ?_);rotate_left 1;focus (simp only [Zu,Nat.reduceSub,Nat.reduceBEq];with_reducible rfl))|((with_reducible first|refine QS (cfg_ok 42) Tab.none (s':=?_) ?_ ?_|refine QC (b:=?_) ?_ ?_);rotate_left 1;focus ((with_reducible refine QW ?_);simp only [Zg,seval,if_true,if_false,reduceCtorEq,Nat.reduceEqDiff];with_reducible rfl)))
   refine RunK.regCut (cfg_ok 42) Tab.none 2 (s1:=?_) ?_ ?_
   rotate_left 1
   focus (refine Work.mk ?_;simp only [Zg,seval,if_true,if_false,reduceCtorEq,Nat.reduceEqDiff];with_reducible rfl)
   simp only [List.toList_toArray,List.drop_succ_cons,List.drop_zero]
   refine ROps.trunc (cfg_ok 42) (x:=.tmp 39) (hi:=.tmp 40) (t:=61) (i:=⟨82,[.int 0,.sl 1 [],.sl 1 []],56⟩) (d:=41) (key:=0) (m:=xs.length) (n:=c) rfl rfl rfl (by decide) rfl rfl rfl rfl (by simp [hL];omega) (fun q u hq hu => ?_) ?_
   ·simp only [look] at hu
    split at hu
    ·rename_i e;exact absurd e.symm hq
    ·cases hu
   ·have ht2:(L.take c ++ List.replicate (xs.length - c) [D.int 0,D.sl 1 [],D.sl 1 []]).take c = (keepF p xs).map e:=by
     rw [List.take_append_of_le_length (by rw [List.length_take];omega),List.take_take,Nat.min_self,htk]
    rw [ht2]
    refine ROps.opsT (cfg_ok 42) (T:=Tab.none) (s':=?_) ?_ ?_
    rotate_left 1
    focus (simp only [Zg,seval,if_true,if_false,reduceCtorEq,Nat.reduceEqDiff];with_reducible rfl)
    repeat' (first|with_reducible (first|refine Q1 ?_|refine Q2 ?_|refine Q3 ?_|refine Q4 ?_|refine Q5 ?_|refine Q6 ?_|refine Q7 ?_|refine Q8 ?_|refine Q9 ?_|refine Qa ?_|refine Qb ?_|refine Qc ?_|refine Qd ?_|refine Qe ?_|refine Qf ?_)|((with_reducible refine Qo ?_ ?_);focus rfl)|((with_reducible first|refine QT 8 (l:=?_) ?_ ?_|refine QF 8 (l:=?_) ?_ ?_);rotate_left 1;focus (simp only [Zu,Nat.reduceSub,Nat.reduceBEq];with_reducible rfl))|((with_reducible first|refine QS (cfg_ok 42) Tab.none (s':=?_) ?_ ?_|refine QC (b:=?_) ?_ ?_);rotate_left 1;focus ((with_reducible refine QW ?_);simp only [Zg,seval,if_true,if_false,reduceCtorEq,Nat.reduceEqDiff];with_reducible rfl)))
    (refine Ends.mk (by simp) (rs:=?_) (ks:=?_) hres hrts ?_ ?_ ?_;rotate_left 2;(focus (simp only [Ze,Zg,seval,if_true,if_false,reduceCtorEq,Nat.reduceEqDiff];with_reducible rfl));(focus simp);focus (first|with_reducible rfl|(simp only [Zv];done)))
end Go.Proofs.YtgngidchldajhaaGreat
