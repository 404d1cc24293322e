/- Lemmas (11). -/
import Derived.Test.YtedgfkpfhonlpaaGreatZA0
import Derived.Test.YtedgfkpfhonlpaaGreatZA2
import Derived.Test.YtedgfkpfhonlpaaGreatZA7
import Derived.Test.YtedgfkpfhonlpaaGreatZA8
import Derived.Test.YtedgfkpfhonlpaaGreatZA9
import Derived.Test.YtedgfkpfhonlpaaGreatZA10
set_option linter.unusedSimpArgs false
set_option linter.unusedVariables false
namespace Go.Proofs.YtedgfkpfhonlpaaGreat
open Go.RowKit
section
def codLLL:Cod (List (List (List Int))):=codS 1 codLL
theorem codLLL_d (f g:List (List Int)):codLLL.d [.sl 1 [[.sl 1 (f.map eL)],[.sl 1 (g.map eL)]]] = some [f,g]:=codLLL.de [f,g]
def cat2:List (List (List Int))→Option (List Res)
 | [f,g] => if SmF f∧SmF g then some [.val (.sl 1 ((f ++ g).map eL))] else none
 | _ => none
theorem cat2_eq (f g:List (List Int)):cat2 [f,g] = if SmF f∧SmF g then some [.val (.sl 1 ((f ++ g).map eL))] else none:=rfl
noncomputable def TCat:Tab Tryz.prog :=
 Tab.none.add 123 (tab1 codLLL cat2) (yB fun bs rs h => by
  unfold cat2 at h
  split at h
  ·rename_i f g
   split at h
   ·rename_i hs
    cases h
    have hc:=AFn.val1 (a_slicesConcatL [f,g] (by simp [cntL];have:=hs.1.1;have:=hs.2.1;omega) (by simp))
    simp only [List.flatten_cons,List.flatten_nil,List.append_nil] at hc
    exact hc
   ·cases h
  ·cases h)
theorem a_branchesOf (t:List Int) (h:qW t) (hl:t.length ≤ 1000):AFn Tryz.prog 103 [eL t] (· = [.own 1 ((brs t).map eL) true]) :=
 afn_L_oo (enters_of Tryz.func103 rfl rfl) (fun u w h' => yS0 u t w h' h (by omega))
theorem foldS_snoc (A:List Spl) (Ls:List (List Spl)) (L:List Spl):foldS A (Ls ++ [L]) = (foldS A Ls).flatMap fun s => L.map (catS s):=by unfold foldS;rw [List.foldl_append];rfl
theorem flatS_len (A L:List Spl):(A.flatMap fun s => L.map (catS s)).length = A.length * L.length:=by
 induction A with
 | nil => simp
 | cons a A ih => rw [List.flatMap_cons,List.length_append,ih,List.length_map,List.length_cons,Nat.succ_mul,Nat.add_comm]
set_option maxRecDepth 20000 in
set_option maxHeartbeats 8000000 in
theorem a_splitTree:∀ (n:Nat),n ≤ 8→∀ t:List Int,qW t→t.length ≤ n→AFn Tryz.prog 117 [eL t] (· = [.own 3 ((split t).map eS0) false])
 | 0,_,t,h,hn => by have:=h.pos;omega
 | n + 1,hn8,t,h,hn => by
  have hsb:=vW h
  have hlev:=yX h
  have hbr:=AFn.valT (a_branchesOf t h (by omega))
  have hbl:(brs t).length ≤ 8:=by have:=brs_few h;omega
  have hca:=AFn.valT (jH0 t h (by omega))
  simp only [eL,eLL] at hbr hca
  have hAg:∀ k,(∀ s ∈ prodS (((brs t).take k).map split),yS (qX ((brs t).take k)) s)∧(prodS (((brs t).take k).map split)).length ≤ 256∧qX ((brs t).take k) ≤ 7:=fun k => by
   have h1:=jN0 (brs t) k
   exact ⟨kB (vT hlev),vX (vT hlev) (by omega),by omega⟩
  rw [vL h]
  refine AFn.of_runs (qQ 80) Tryz.func117 rfl rfl rfl gz ?_
  have hres:Tryz.f117.results.toList = [.tmp 2]:=rfl
  have hrts:Tryz.f117.resultTypes.toList = [33]:=rfl
  simp only [qU,qK,eL,eI,eLL,eB,Nat.zero_add,Nat.reduceAdd]
  intro M
  refine qJ.of ?_
  refine gw90 ?_
  refine qJ.loop (β:=Nat) (γ:=Unit) (fun k => ⟨[(0,.c (.val (.sl 1 (t.map eI)))),(3,.c (.own 3 (prodS (((brs t).take k).map split)).length)),(16,.c (.val (.sl 1 ((brs t).map eL)))),(17,.c (.val (.int (brs t).length))),(18,.c (.val (.int k)))],[(3,.row 3 ((prodS (((brs t).take k).map split)).map eS0) false)]⟩) (fun k => k ≤ (brs t).length) (fun k => (brs t).length - k)
   (fun _ => ⟨[(0,.c (.val (.sl 1 (t.map eI)))),(3,.c (.own 3 (prodS ((brs t).map split)).length))],[(3,.row 3 ((prodS ((brs t).map split)).map eS0) false)]⟩) (fun _ => True) 0 (Nat.zero_le _) ?_ ?_ ?_
  ·exact gw91 (show prodS [] = [([],[])] from rfl)
  ·intro k hk
   have hk:k ≤ (brs t).length:=hk
   have hwk:=qD (n:=k) (by omega)
   obtain ⟨g1,g2,g3⟩:=hAg k
   by_cases hkb:k < (brs t).length
   ·have i1:((k:Int) < ((brs t).length:Int)) = True:=eq_true (by omega)
    have i2:((0:Int) ≤ (k:Int)) = True:=eq_true (by omega)
    obtain ⟨b,hb⟩:∃ b,b = (brs t)[k]:=⟨_,rfl⟩
    have hbm:b ∈ brs t:=by rw [hb];exact List.getElem_mem _
    have hg:((brs t).map eL)[k]? = some [.sl 1 (b.map eI)]:=by rw [qL hkb,hb];rfl
    have hle:((brs t).map eL).length = (brs t).length:=List.length_map _
    have hblen:=xH h b hbm
    have hih:=AFn.val1 (a_splitTree n (by omega) b (hlev b hbm) (by omega))
    have hgB:=wE _ (Nat.le_refl _) (hlev b hbm)
    have hlB:(split b).length ≤ 256:=by
     have h1:=qB0 _ (Nat.le_refl _) (hlev b hbm)
     have h2:2 ^ b.length ≤ 2 ^ 8:=Nat.pow_le_pow_right (by decide) (by omega)
     omega
    have htk:prodS (((brs t).take (k + 1)).map split) = (prodS (((brs t).take k).map split)).flatMap fun s => (split b).map (catS s):=by
     rw [hb,List.take_succ_eq_append_getElem hkb,List.map_append];exact foldS_snoc _ _ _
    have hn2:(prodS (((brs t).take (k + 1)).map split)).length ≤ 256:=(hAg (k + 1)).2.1
    obtain ⟨A,hA⟩:∃ A,A = prodS (((brs t).take k).map split):=⟨_,rfl⟩
    obtain ⟨B,hB⟩:∃ B,B = split b:=⟨_,rfl⟩
    rw [← hA] at g1 g2 htk ⊢
    rw [← hB] at hih hgB hlB htk
    rw [htk] at hn2
    simp only [eL] at hih
    have hsA:∀ s ∈ A,SmS s:=fun s hs => ((g1 s hs).ha (by omega)).sm
    have hsB:∀ s ∈ B,SmS s:=fun s hs => ((hgB s hs).ha (by omega)).sm
    have hAl:(A.map eS0).length = A.length:=List.length_map _
    refine gw92 (Yp i1 (Yp i2 (Yp hg hle))) ?_
    refine qJ.loop (β:=Nat) (γ:=Unit) (fun i => ⟨[(0,.c (.val (.sl 1 (t.map eI)))),(3,.c (.own 3 A.length)),(5,.c (.val (.sl 1 (b.map eI)))),(6,.c (.own 6 ((A.take i).flatMap fun s => B.map (catS s)).length)),(16,.c (.val (.sl 1 ((brs t).map eL)))),(17,.c (.val (.int (brs t).length))),(18,.c (.val (.int k))),(23,.c (.own 3 A.length)),(24,.c (.val (.int A.length))),(25,.c (.val (.int i)))],
      [(3,.row 3 (A.map eS0) false),(6,.row 3 (((A.take i).flatMap fun s => B.map (catS s)).map eS0) false)]⟩) (fun i => i ≤ A.length) (fun i => A.length - i)
     (fun _ => ⟨[(0,.c (.val (.sl 1 (t.map eI)))),(6,.c (.own 6 (A.flatMap fun s => B.map (catS s)).length)),(16,.c (.val (.sl 1 ((brs t).map eL)))),(17,.c (.val (.int (brs t).length))),(18,.c (.val (.int k)))],[(6,.row 3 ((A.flatMap fun s => B.map (catS s)).map eS0) false)]⟩) (fun _ => True) 0 (Nat.zero_le _) ?_ ?_ ?_
    ·exact gw93
    ·intro i hi
     have hi:i ≤ A.length:=hi
     have hwi:=qD (n:=i) (by omega)
     by_cases hiA:i < A.length
     ·have j1:((i:Int) < (A.length:Int)) = True:=eq_true (by omega)
      have j2:((0:Int) ≤ (i:Int)) = True:=eq_true (by omega)
      obtain ⟨s,hs⟩:∃ s,s = A[i]:=⟨_,rfl⟩
      have hsm:=hsA A[i] (List.getElem_mem _)
      have hgs:(A.map eS0)[i]? = some [.sl 1 (s.1.map eL),.sl 1 (s.2.map eL),.int 0]:=by rw [qL hiA,hs];rfl
      have htkA:(A.take (i + 1)).flatMap (fun s => B.map (catS s)) = ((A.take i).flatMap fun s => B.map (catS s)) ++ B.map (catS s):=by
       rw [hs,List.take_succ_eq_append_getElem hiA,List.flatMap_append];simp
      have hXl:((A.take i).flatMap fun s => B.map (catS s)).length + B.length ≤ 256:=by
       rw [flatS_len] at hn2 ⊢
       rw [List.length_take,Nat.min_eq_left hi]
       have:(i + 1) * B.length ≤ A.length * B.length:=Nat.mul_le_mul_right _ hiA
       rw [Nat.succ_mul] at this;omega
      rw [← hs] at hsm
      obtain ⟨X,hX⟩:∃ X,X = (A.take i).flatMap fun s => B.map (catS s):=⟨_,rfl⟩
      rw [← hX] at htkA hXl ⊢
      have hBl:(B.map eS0).length = B.length:=List.length_map _
      refine gw94 (Yp j1 (Yp j2 (Yp hgs (Yp hAl hBl)))) ?_
      refine qJ.loop (β:=Nat) (γ:=Unit) (fun j => ⟨[(0,.c (.val (.sl 1 (t.map eI)))),(3,.c (.own 3 A.length)),(5,.c (.val (.sl 1 (b.map eI)))),(6,.c (.own 6 (X ++ (B.take j).map (catS s)).length)),(8,.optr 8 0 0),(16,.c (.val (.sl 1 ((brs t).map eL)))),(17,.c (.val (.int (brs t).length))),(18,.c (.val (.int k))),(23,.c (.own 3 A.length)),(24,.c (.val (.int A.length))),(25,.c (.val (.int i))),(30,.c (.val (.sl 3 (B.map eS0)))),(31,.c (.val (.int B.length))),(32,.c (.val (.int j)))],
        [(3,.row 3 (A.map eS0) false),(6,.row 3 ((X ++ (B.take j).map (catS s)).map eS0) false),(8,.row 3 [[.sl 1 (s.1.map eL),.sl 1 (s.2.map eL),.int 0]] false)]⟩) (fun j => j ≤ B.length) (fun j => B.length - j)
       (fun _ => ⟨[(0,.c (.val (.sl 1 (t.map eI)))),(3,.c (.own 3 A.length)),(5,.c (.val (.sl 1 (b.map eI)))),(6,.c (.own 6 (X ++ B.map (catS s)).length)),(16,.c (.val (.sl 1 ((brs t).map eL)))),(17,.c (.val (.int (brs t).length))),(18,.c (.val (.int k))),(23,.c (.own 3 A.length)),(24,.c (.val (.int A.length))),(25,.c (.val (.int i)))],
        [(3,.row 3 (A.map eS0) false),(6,.row 3 ((X ++ B.map (catS s)).map eS0) false)]⟩) (fun _ => True) 0 (Nat.zero_le _) ?_ ?_ ?_
      ·exact gw46
      ·intro j hj
       have hj:j ≤ B.length:=hj
       have hwj:=qD (n:=j) (by omega)
       by_cases hjB:j < B.length
       ·have l1:((j:Int) < (B.length:Int)) = True:=eq_true (by omega)
        have l2:((0:Int) ≤ (j:Int)) = True:=eq_true (by omega)
        obtain ⟨c,hc⟩:∃ c,c = B[j]:=⟨_,rfl⟩
        have hcm:=hsB B[j] (List.getElem_mem _)
        have hgc:(B.map eS0)[j]? = some [.sl 1 (c.1.map eL),.sl 1 (c.2.map eL),.int 0]:=by rw [qL hjB,hc];rfl
        have htkB:X ++ (B.take (j + 1)).map (catS s) = (X ++ (B.take j).map (catS s)) ++ [catS s c]:=by
         rw [hc,List.take_succ_eq_append_getElem hjB,List.map_append,List.append_assoc];rfl
        rw [← hc] at hcm
        have hYl:(X ++ (B.take j).map (catS s)).length ≤ 256:=by rw [List.length_append,List.length_map,List.length_take];omega
        obtain ⟨Y,hY⟩:∃ Y,Y = X ++ (B.take j).map (catS s):=⟨_,rfl⟩
        rw [← hY] at htkB hYl ⊢
        have q1:=jF (n:=Y.length + 1) (by omega)
        have q2:=jE (n:=Y.length + 1) (c:=56) (by omega) (by omega)
        have hYm:(Y.map eS0).length = Y.length:=List.length_map _
        have e1:=eq_true (And.intro hsm.1 hcm.1)
        have e2:=eq_true (And.intro hsm.2 hcm.2)
        refine gw95 (Yp l1 (Yp l2 (Yp hgc hBl))) ?_
        (((with_reducible refine qJ.wFz (qQ 80) TCat qT [41,47] (tr:=?_) (s1:=?_) (rest:=?_) ?_ ?_ ?_);rotate_left 3;(focus ((with_reducible refine QW ?_);simp only [Zg,Zd,seval,if_true,if_false,reduceCtorEq,Nat.reduceEqDiff,drunF,devalF,devalB,valD,dregF_mk,List.contains_cons,List.contains_nil,TCat,TCat,codLLL_d,cat2_eq,e1,e2,q1,q2,hYm];with_reducible rfl));focus ((with_reducible refine QK ?_);simp only [Zk];kernel_rfl));(refine qV.opsT (qQ 80) (T:=TCat) (s':=?_) ?_ ?_;rotate_left 1;focus (simp only [Zg,seval,if_true,if_false,reduceCtorEq,Nat.reduceEqDiff,TCat,TCat,codLLL_d,cat2_eq,e1,e2,q1,q2,hYm];with_reducible rfl)))
        refine gw96 hwj ?_
        refine qY.on (j + 1) ⟨hjB,by omega⟩ ?_
        rw [htkB]
        exact gw97
       ·have l1:((j:Int) < (B.length:Int)) = False:=eq_false (by omega)
        obtain rfl:j = B.length:=by omega
        rw [List.take_length]
        refine gw96 l1 ?_
        refine qY.out () trivial ?_
        exact gw6 Y0
      ·rintro _ _
       refine gw96 hwi ?_
       refine qY.on (i + 1) ⟨hiA,by omega⟩ ?_
       rw [htkA]
       exact gw6 Y0
     ·have j1:((i:Int) < (A.length:Int)) = False:=eq_false (by omega)
      obtain rfl:i = A.length:=by omega
      rw [List.take_length]
      refine gw96 j1 ?_
      refine qY.out () trivial ?_
      exact gw6 Y0
    ·rintro _ _
     refine gw96 hwk ?_
     refine qY.on (k + 1) ⟨hkb,by omega⟩ ?_
     rw [htk]
     exact gw6 Y0
   ·have i1:((k:Int) < ((brs t).length:Int)) = False:=eq_false (by omega)
    obtain rfl:k = (brs t).length:=by omega
    rw [List.take_length]
    refine gw96 i1 ?_
    refine qY.out () trivial ?_
    exact gw6 Y0
  ·rintro _ _
   have g1:=kB hlev
   have g2:=vX hlev (by omega)
   obtain ⟨A,hA⟩:∃ A,A = prodS ((brs t).map split):=⟨_,rfl⟩
   rw [← hA] at g1 g2 ⊢
   refine gw96 Y0 ?_
   refine qJ.loop (β:=Nat) (γ:=Unit) (fun i => ⟨[(0,.c (.val (.sl 1 (t.map eI)))),(3,.c (.own 3 A.length)),(56,.c (.own 3 A.length)),(57,.c (.val (.int A.length))),(58,.c (.val (.int i)))],[(3,.row 3 ((A.take i).map (fun s => eS0 (rootS s)) ++ (A.drop i).map eS0) false)]⟩) (fun i => i ≤ A.length) (fun i => A.length - i)
    (fun _ => ⟨[(0,.c (.val (.sl 1 (t.map eI)))),(3,.c (.own 3 A.length))],[(3,.row 3 (A.map fun s => eS0 (rootS s)) false)]⟩) (fun _ => True) 0 (Nat.zero_le _) ?_ ?_ ?_
   ·exact gw98
   ·intro i hi
    have hi:i ≤ A.length:=hi
    have hwi:=qD (n:=i) (by omega)
    have hrl:((A.take i).map (fun s => eS0 (rootS s)) ++ (A.drop i).map eS0).length = A.length:=by rw [List.length_append,List.length_map,List.length_map,List.length_take,List.length_drop];omega
    by_cases hiA:i < A.length
    ·have j1:((i:Int) < (A.length:Int)) = True:=eq_true (by omega)
     have j2:((0:Int) ≤ (i:Int)) = True:=eq_true (by omega)
     obtain ⟨s,hs⟩:∃ s,s = A[i]:=⟨_,rfl⟩
     have hgood:=g1 A[i] (List.getElem_mem _)
     have hdr:A.drop i = s :: A.drop (i + 1):=by rw [hs];exact List.drop_eq_getElem_cons hiA
     have hti:((A.take i).map fun s => eS0 (rootS s)).length = i:=by rw [List.length_map,List.length_take];omega
     have hgs:((A.take i).map (fun s => eS0 (rootS s)) ++ (A.drop i).map eS0)[i]? = some [.sl 1 (s.1.map eL),.sl 1 (s.2.map eL),.int 0]:=by
      rw [List.getElem?_append_right (by omega),hti,Nat.sub_self,hdr];rfl
     rw [← hs] at hgood
     have hlv:∀ b ∈ s.2,qW b:=fun b hb => (hgood.1 b (by simp [hb])).1
     have hsum:=hgood.2
     have hro:=AFn.valT (a_rootOn s.2 (fun b hb => (hlv b hb).small (by have:=yU hb;omega)) (by omega))
     have hcr:=AFn.valT (jH0 (qA s.2) (yI hlv) (by rw [xJ];omega))
     simp only [eL,eLL] at hro hcr
     refine gw99 (Yp j1 (Yp j2 (Yp hgs (Yp hrl hwi)))) ?_
     have hset:((A.take i).map (fun s => eS0 (rootS s)) ++ (A.drop i).map eS0).set i [.sl 1 (s.1.map eL),.sl 1 [[.sl 1 ((canon (qA s.2)).map eI)]],.int 0] = (A.take (i + 1)).map (fun s => eS0 (rootS s)) ++ (A.drop (i + 1)).map eS0:=by
      rw [List.set_append_right _ _ (by omega),hti,Nat.sub_self,hdr,List.map_cons,List.set_cons_zero,List.take_succ_eq_append_getElem hiA,List.map_append,List.append_assoc,← hs]
      rfl
     refine qY.on (i + 1) ⟨hiA,by omega⟩ ?_
     rw [← hset]
     exact gw6 Y0
    ·have j1:((i:Int) < (A.length:Int)) = False:=eq_false (by omega)
     obtain rfl:i = A.length:=by omega
     have hd0:A.drop A.length = []:=List.drop_length
     refine gw96 j1 ?_
     refine qY.out () trivial ?_
     rw [List.take_length,hd0,List.map_nil,List.append_nil]
     exact gw6 Y0
   ·rintro _ _
    have q1:=jF (n:=A.length + 1) (by omega)
    have q2:=jE (n:=A.length + 1) (c:=56) (by omega) (by omega)
    have hml:(A.map fun s => eS0 (rootS s)).length = A.length:=List.length_map _
    refine gw100 (Yp q1 (Yp q2 hml)) ?_
    exact gw101
end
section
section
variable {α:Type} (f g:α→List (List D)) (n:α→Int)
def e3 (x:α):List D:=[.sl 1 (f x),.sl 1 (g x),.int (n x)]
def e3T (q:α × (List Nat × List Nat)):List D:=[.tag q.2.1 (.sl 1 (f q.1)),.tag q.2.2 (.sl 1 (g q.1)),.int (n q.1)]
def bl3 (q:α × (List Nat × List Nat)):List Nat:=q.2.1 ++ q.2.2
theorem tag_rows3:∀ {L:List α} {xs':List (List D)} {F:List Nat},TagL (L.map (e3 f g n)) xs' F→PlainL (L.map (e3 f g n)) xs'→∃ zs:List (α × (List Nat × List Nat)),L = zs.map (·.1)∧xs' = zs.map (e3T f g n)∧F = (zs.map bl3).flatten
 | [],xs',F,⟨h1,h2⟩,_ => ⟨[],rfl,h1,h2⟩
 | p :: L,xs',F,⟨y,ys,G,H,h1,h2,h3,h4⟩,⟨y',ys',p1,p2,p3⟩ => by
  obtain ⟨e1,e2⟩:y = y'∧ys = ys':=by rw [h1] at p1;simpa using p1
  subst e1;subst e2
  obtain ⟨zs,e1,e2,e3'⟩:=tag_rows3 h4 p3
  obtain ⟨y0,ys0,G0,H0,k1,k2,k3,y1,ys1,G1,H1,k4,k5,k6,y2,ys2,G2,H2,m4,m5,m6,m7,m8⟩:=h3
  obtain ⟨x0,xs0,a1,_,x1,xs1,a2,_,x2,xs2,a3,a4,_⟩:=p2
  obtain ⟨b1,b2⟩:y0 = x0∧ys0 = xs0:=by rw [k1] at a1;simpa using a1
  subst b1;subst b2
  obtain ⟨b1,b2⟩:y1 = x1∧ys1 = xs1:=by rw [k4] at a2;simpa using a2
  subst b1;subst b2
  obtain ⟨b1,b2⟩:y2 = x2∧ys2 = xs2:=by rw [m4] at a3;simpa using a3
  subst b1;subst b2
  have hy2:=a4 rfl
  subst m7;subst m8
  have hG2:G2 = []:=by
   rcases m6 with m6|⟨_,_,m6⟩
   ·rw [m6] at hy2;cases hy2
   ·exact m6
  subst hG2;subst hy2
  rcases k3 with rfl|⟨k3,_⟩
  ·rcases k6 with rfl|⟨k6,_⟩
   ·exact ⟨(p,(G0,G1)) :: zs,by rw [e1];rfl,by rw [h1,k1,k4,m4,e2];rfl,by rw [h2,k2,k5,m5,e3'];simp [bl3]⟩
   ·cases k6
  ·cases k3
end
section
variable {P:Program} {cfg:Cfg} {M:Nat→Prop} {ops:Array Oper} {s:St} {w0:W0} {w:World} {Ok:Nat→Prop} {N:Nat} {σ:Asg} {a:Act} {fs:List Fr} {Q:Exit→St→Prop}
end
end
section
def brOf (t:List Int):List (List Int) × Int:=if lev8 t = true then (forest (brs (canon t)),0) else ([],1)
set_option maxHeartbeats 4000000 in
theorem a_impl_BranchesOf (t:List Int):AFn Tryz.prog 46 [eL t] (· = [.own 1 ((brOf t).1.map eL) true,.val (.int (brOf t).2)]):=by
 have hl:=xW0 t
 simp only [eL] at hl
 unfold brOf
 by_cases h8:lev8 t = true
 ·rw [h8] at hl
  rw [if_pos h8]
  have hc8:=lev8_canon h8
  have hlc:=qW0 hc8
  have hsb:=vW (kA hc8)
  have hfw:=brs_few (kA hc8)
  have hca:=AFn.valT (a_canonical t (kA h8) (qW0 h8))
  have hbr:=AFn.valT (a_branchesOf (canon t) (kA hc8) (by omega))
  have hfo:=a_forestOf (brs (canon t)) (by omega) (by omega)
  simp only [eL,eLL] at hca hbr hfo
  refine AFn.of_runs (qQ 11) Tryz.func46 rfl rfl rfl gz ?_
  have hres:Tryz.f46.results.toList = [.tmp 2,.tmp 3]:=rfl
  have hrts:Tryz.f46.resultTypes.toList = [36,2]:=rfl
  simp only [qU,qK,eL,eI,eLL,eB,Nat.zero_add,Nat.reduceAdd]
  intro M
  refine qJ.of ?_
  refine gw102 ?_
  exact gw8
 ·have h8':lev8 t = false:=by simpa using h8
  rw [h8'] at hl
  rw [if_neg h8]
  refine AFn.of_runs (qQ 11) Tryz.func46 rfl rfl rfl gz ?_
  have hres:Tryz.f46.results.toList = [.tmp 2,.tmp 3]:=rfl
  have hrts:Tryz.f46.resultTypes.toList = [36,2]:=rfl
  simp only [qU,qK,eL,eI,eLL,eB,Nat.zero_add,Nat.reduceAdd]
  intro M
  refine qJ.of ?_
  refine gw103 ?_
  exact gw8
end
section
section
variable {κ:Type} {c:κ→κ→Int} (hc:Cmp c)
theorem putS_new {k:Int} (hk:k ≠ 0) {x:κ}:∀ {L:List (Int × κ)},(∀ q ∈ L,c x q.2 ≠ 0)→(putS c L k x).Perm (L ++ [(k,x)])
 | [],_ => by unfold putS;rw [if_neg hk];exact List.Perm.refl _
 | (a,y) :: L,h => by
  have h0:=h (a,y) (by simp)
  unfold putS
  rw [if_neg hk]
  split
  ·exact (List.perm_append_comm (l₁:=[(k,x)]) (l₂:=(a,y) :: L))
  ·first|rw [if_neg h0,List.cons_append]|rw [List.cons_append]
   exact (putS_new hk fun q hq => h q (by simp [hq])).cons _
include hc
theorem addS_new:∀ {M L:List (Int × κ)},(∀ q ∈ M,q.1 ≠ 0)→(L ++ M).Pairwise (fun p q => c p.2 q.2 ≠ 0)→(addS c L M).Perm (L ++ M)
 | [],L,_,_ => by rw [List.append_nil];exact List.Perm.refl _
 | q :: M,L,h0,hd => by
  have hd1:=List.pairwise_append.1 hd
  have hq:∀ p ∈ L,c q.2 p.2 ≠ 0:=fun p hp e => hd1.2.2 p hp q (by simp) (hc.eq_swap e)
  have hp:=putS_new (c:=c) (h0 q (by simp)) hq
  have hd2:(putS c L q.1 q.2 ++ M).Pairwise (fun p q => c p.2 q.2 ≠ 0):=by
   have hsym:∀ {a b:Int × κ},c a.2 b.2 ≠ 0→c b.2 a.2 ≠ 0:=fun h e => h (hc.eq_swap e)
   have e:L ++ q :: M = (L ++ [q]) ++ M:=by simp
   rw [e] at hd
   exact (List.Perm.pairwise_iff hsym ((List.perm_append_right_iff M).2 hp)).2 hd
  have ih:=addS_new (M:=M) (L:=putS c L q.1 q.2) (fun p hp => h0 p (by simp [hp])) hd2
  show (addS c (putS c L q.1 q.2) M).Perm _
  refine ih.trans ?_
  have e:L ++ q :: M = (L ++ [q]) ++ M:=by simp
  rw [e]
  exact (List.perm_append_right_iff M).2 hp
theorem sumS_new {M:List (Int × κ)} (h0:∀ q ∈ M,q.1 ≠ 0) (hd:M.Pairwise (fun p q => c p.2 q.2 ≠ 0)):(sumS c M).Perm M:=by
 have:=addS_new hc (M:=M) (L:=[]) h0 (by simpa using hd)
 show (addS c [] M).Perm M
 simpa using this
end
def wF (F:Spl→Int) (f:List (List Int)):Int:=((prodS (f.map split)).map fun s => F (nrmS s)).sum
theorem sum_perm {l m:List Int} (h:l.Perm m):l.sum = m.sum:=by
 induction h with
 | nil => rfl
 | cons q _ ih => rw [List.sum_cons,List.sum_cons,ih]
 | swap p q L => simp only [List.sum_cons];omega
 | trans _ _ h1 h2 => rw [h1,h2]
theorem exp_lin {κ:Type} (F:κ→Int):∀ (L:List (κ × Int)),(∀ z ∈ L,1 ≤ z.2)→((expN L).map F).sum = (L.map fun z => z.2 * F z.1).sum
 | [],_ => rfl
 | z :: L,h => by
  have hz:=h z (by simp)
  rw [yJ,List.map_append,List.map_replicate,List.map_cons,List.sum_cons,← exp_lin F L fun q hq => h q (by simp [hq])]
  have e:∀ (n:Nat) (x:Int) (l:List Int),(List.replicate n x ++ l).sum = n * x + l.sum:=by
   intro n x l
   induction n with
   | zero => simp
   | succ n ih => rw [List.replicate_succ,List.cons_append,List.sum_cons,ih,Int.natCast_succ,Int.add_mul];omega
  rw [e,Int.toNat_of_nonneg (by omega)]
theorem gath_lin (F:Spl→Int) (L:List Spl):((gathS L).map fun z => z.2 * F z.1).sum = (L.map fun s => F (nrmS s)).sum:=by
 rw [← exp_lin F _ (yF L).1.2,sum_perm ((yF L).2.map F),List.map_map]
 rfl
theorem lin_copP (F:Spl→Int) (p:Int × List (List Int)):Eqm (lin F (copP p)) (p.1 * wF F p.2):=by
 unfold wF copP
 rw [← gath_lin F]
 generalize gathS (prodS (p.2.map split)) = G
 induction G with
 | nil => simp [lin];exact Eqm.refl _
 | cons z G ih =>
  rw [List.map_cons,xB,List.map_cons,List.sum_cons,Int.mul_add]
  refine Eqm.add ?_ ih
  have h:=(eqm_mP (p.1 * z.2)).mulR (F z.1)
  rw [Int.mul_assoc] at h
  exact h
theorem lin_copM (F:Spl→Int):∀ (e:Elt),Eqm (lin F (copM e)) (lin (wF F) e)
 | [] => Eqm.refl _
 | p :: e => by
  have e1:copM (p :: e) = copP p ++ copM e:=by unfold copM;rw [List.flatMap_cons]
  rw [e1,lin_append,xB]
  exact (lin_copP F p).add (lin_copM F e)
theorem copM_range (e:Elt):∀ q ∈ copM e,0 ≤ q.1∧q.1 < 10007:=fun q hq => by
 unfold copM at hq
 obtain ⟨p,_,hq⟩:=List.mem_flatMap.1 hq
 unfold copP at hq
 obtain ⟨z,_,rfl⟩:=List.mem_map.1 hq
 exact xC _
def rtF (f:List (List Int)):List (List Int):=[canon (qA f)]
theorem wF_root (F:Spl→Int) {f:List (List Int)} (h:∀ b ∈ f,qW b):wF F (rtF f) = wF (fun s => F (rootS s)) f + F (rtF f,[]):=by
 have hl:=yI h
 have e1:prodS ((rtF f).map split) = split (canon (qA f)):=by
  show List.flatMap (fun s => (split (canon (qA f))).map (catS s)) [([],[])] = _
  rw [List.flatMap_cons,List.flatMap_nil,List.append_nil]
  have:catS (([],[]):Spl) = id:=by funext s;rfl
  rw [this,List.map_id]
 unfold wF
 rw [e1]
 have hp:=(split_canon _ (Nat.le_refl _) hl).map F
 rw [List.map_map,List.map_map] at hp
 have hp2:=sum_perm hp
 show ((split (canon (qA f))).map (F ∘ nrmS)).sum = _
 rw [hp2,vL hl,vZ h,List.map_append,List.sum_append,List.map_map]
 have e2:((prodS (f.map split)).map ((F ∘ nrmS) ∘ fun s => (s.1,[canon (qA s.2)]))) = (prodS (f.map split)).map fun s => F (rootS (nrmS s)):=by
  refine List.map_congr_left fun s hs => ?_
  show F (nrmS (rootS s)) = _
  rw [nrm_root (wU h s hs)]
 rw [e2]
 congr 1
 show F (nrmS ([canon (qA f)],[])) + 0 = _
 rw [Int.add_zero];rfl
def OkF (g:List (List Int)):Prop:=(∀ t ∈ g,qW t∧canon t = t)∧g.Pairwise fun a b => cmpT a b ≤ 0
theorem br_root {g:List (List Int)} (h:OkF g):forest (brs (canon (canon (qA g)))) = g:=by
 have hl:∀ t ∈ g,qW t:=fun t ht => (h.1 t ht).1
 have hm:g.map canon = g:=by
  conv => rhs;rw [← List.map_id g]
  exact List.map_congr_left fun t ht => (h.1 t ht).2
 have hs:∀ t ∈ sortC cmpD g,qW t:=fun t ht => hl t (yG.1 ht)
 rw [kS (yI hl),kJ (yI hl),vZ hl,hm,vZ hs]
 unfold forest
 rw [qY0 xG (yY g),xX0 xG h.2]
theorem root_inj {f g:List (List Int)} (hf:OkF f) (hg:OkF g) (e:canon (qA f) = canon (qA g)):f = g:=by
 rw [← br_root hf,e,br_root hg]
theorem okF_of {f:List (List Int)} (h:forB f = true):OkF f:=⟨fun t ht => ⟨yH h t ht,forB_can h t ht⟩,(xT h).2.2⟩
theorem copP_key {p:Int × List (List Int)} (h:forB p.2 = true) {q:Int × Spl} (hq:q ∈ copP p):OkF q.2.1∧OkF q.2.2∧qX q.2.1 + qX q.2.2 ≤ 8:=by
 unfold copP at hq
 obtain ⟨z,hz,rfl⟩:=List.mem_map.1 hq
 obtain ⟨_,_,k⟩:=qE0 (kB (yH h)) z hz
 obtain ⟨s,hs,e⟩:=List.mem_map.1 ((yF _).key z hz)
 have h8:=(xT h).1
 have e1:z.1.1 = sortC cmpT s.1:=by rw [← e];rfl
 have e2:z.1.2 = sortC cmpT s.2:=by rw [← e];rfl
 refine ⟨⟨fun t ht => k.1 t (by simp only [List.mem_append];exact .inl ht),?_⟩,⟨fun t ht => k.1 t (by simp only [List.mem_append];exact .inr ht),?_⟩,by have:=k.2;simp only;omega⟩
 ·simp only;rw [e1];exact vG xG _
 ·simp only;rw [e2];exact vG xG _
theorem cop_key {e:Elt} (h:elB e = true) {q:Int × Spl} (hq:q ∈ sumS cmpTe (copM e)):OkF q.2.1∧OkF q.2.2∧qX q.2.1 + qX q.2.2 ≤ 8:=by
 obtain ⟨p,hp,e1⟩:=sumS_mem hq
 unfold copM at hp
 obtain ⟨r,hr,hp⟩:=List.mem_flatMap.1 hp
 rw [← e1]
 exact copP_key ((yR h).2.2.2 r hr) hp
structure KoF (e:Elt) (list:List (Int × Spl)) (r:Elt) (whole:List (Int × Spl)):Prop where
 rl:r.length = e.length
 wl:whole.length = list.length + r.length
 all:∀ w ∈ whole,(w.2.2 = []∧∃ q ∈ r,q.1 = w.1∧q.2 = w.2.1) ∨ (∃ T,w.2.2 = [T]∧lev8 T = true∧∃ q ∈ list,q.1 = w.1∧q.2.1 = w.2.1∧q.2.2 = (brOf T).1)
theorem cmpTe_ne {p q:Spl} (h:p ≠ q):cmpTe p q ≠ 0:=fun e => h (kR.zero _ _ e)
theorem cop_case {e:Elt} (h:elB e = true):copOf e = (sumS cmpTe (copM e),0) ∨ copOf e = ([],3):=by
 unfold copOf
 rw [if_pos h]
 split
 ·exact .inl rfl
 ·exact .inr rfl
theorem rot_case {e:Elt} (h:elB e = true):rotOf e = ([],3) ∨ (rotOf e = (sumS cmpF (e.map fun p => (p.1,rtF p.2)),0)∧elB (sumS cmpF (e.map fun p => (p.1,rtF p.2))) = true∧∀ p ∈ e,qX p.2 ≤ 7):=by
 obtain ⟨h1,h2,h3,h4⟩:=yR h
 have hrg:∀ q ∈ e.map (fun p => (p.1,rtF p.2)),0 ≤ q.1∧q.1 < 10007:=fun q hq => by
  obtain ⟨p,hp,rfl⟩:=List.mem_map.1 hq
  exact nf_range h p hp
 unfold rotOf
 rw [if_pos h]
 have hd:(e.map fun p => (p.1,rtF p.2)).Pairwise (fun p q => cmpF p.2 q.2 ≠ 0):=by
  refine List.pairwise_map.2 (List.Pairwise.imp_of_mem ?_ h2.1)
  intro p q hp hq hlt e0
  have:=List.cons.inj (yQ.zero _ _ e0)
  have:=root_inj (okF_of (h4 p hp)) (okF_of (h4 q hq)) this.1
  rw [this,yQ.refl] at hlt
  omega
 have hperm:=sumS_new yQ (M:=e.map fun p => (p.1,rtF p.2)) (fun q hq => by
  obtain ⟨p,hp,rfl⟩:=List.mem_map.1 hq
  have:=h2.2 p hp
  simp only;omega) hd
 have hnf:=sumS_nf yQ hrg
 rcases limS_code (sumS cmpF (e.map fun p => (p.1,rtF p.2))) with hc|hc
 rotate_left
 ·exact .inl hc
 ·obtain ⟨_,k1,k2⟩:=limS_ok (by rw [hc])
  have hlen:∀ p ∈ e,qX p.2 ≤ 7:=fun p hp => by
   have:=k2 (p.1,rtF p.2) (hperm.mem_iff.2 (List.mem_map.2 ⟨p,hp,rfl⟩))
   have hl:=xP (yI (yH (h4 p hp)))
   have e1:qX (rtF p.2) = (canon (qA p.2)).length:=by simp [rtF,qX]
   rw [xJ] at hl
   simp only at this
   omega
  refine .inr ⟨hc,elB_of k1 hnf (fun q hq => ?_),hlen⟩
  obtain ⟨p,hp,rfl⟩:=List.mem_map.1 (hperm.mem_iff.1 hq)
  have hlv:=yI (yH (h4 p hp))
  have h7:=hlen p hp
  refine forB_of ?_ (fun t ht => ?_) (List.pairwise_singleton _ _)
  ·show (canon (qA p.2)).length + 0 ≤ 8
   rw [xP hlv,xJ];omega
  ·obtain rfl:=List.mem_singleton.1 ht
   unfold canT
   rw [Bool.and_eq_true]
   refine ⟨lev8_mk (xW hlv) (by rw [xP hlv,xJ];omega),decide_eq_true (kS hlv)⟩
theorem lin_mapK {α κ:Type} (F:κ→Int) (g:α→κ):∀ (L:List (Int × α)),lin F (L.map fun q => (q.1,g q.2)) = lin (fun a => F (g a)) L
 | [] => rfl
 | q :: L => by rw [List.map_cons,xB,xB,lin_mapK F g L]
theorem lin_rt (F:Spl→Int):∀ (e:Elt),(∀ p ∈ e,forB p.2 = true)→lin (wF F) (e.map fun p => (p.1,rtF p.2)) = lin (fun f => wF (fun s => F (rootS s)) f) e + lin (fun f => F (rtF f,[])) e
 | [],_ => rfl
 | p :: e,h => by
  rw [List.map_cons,xB,xB,xB,lin_rt F e fun q hq => h q (by simp [hq]),wF_root F (yH (h p (by simp))),Int.mul_add]
  dsimp only
  omega
theorem ko_all {e:Elt} {list:List (Int × Spl)} {r:Elt} {whole:List (Int × Spl)} (h:elB e = true) (h1:copOf e = (list,0)) (h2:rotOf e = (r,0)) (h3:copOf r = (whole,0)):KoF e list r whole:=by
 obtain ⟨e1,e2,e3,e4⟩:=yR h
 rcases cop_case h with k1|k1
 rotate_left
 ·rw [h1] at k1;cases k1
 rw [h1] at k1
 obtain rfl:list = sumS cmpTe (copM e):=(Prod.ext_iff.1 k1).1
 rcases rot_case h with k2|⟨k2,k3,k4⟩
 ·rw [h2] at k2;cases k2
 rw [h2] at k2
 obtain rfl:r = sumS cmpF (e.map fun p => (p.1,rtF p.2)):=(Prod.ext_iff.1 k2).1
 rcases cop_case k3 with k5|k5
 rotate_left
 ·rw [h3] at k5;cases k5
 rw [h3] at k5
 obtain rfl:whole = sumS cmpTe (copM (sumS cmpF (e.map fun p => (p.1,rtF p.2)))):=(Prod.ext_iff.1 k5).1
 have hrg:∀ q ∈ e.map (fun p => (p.1,rtF p.2)),0 ≤ q.1∧q.1 < 10007:=fun q hq => by
  obtain ⟨p,hp,rfl⟩:=List.mem_map.1 hq
  exact nf_range h p hp
 have hd:(e.map fun p => (p.1,rtF p.2)).Pairwise (fun p q => cmpF p.2 q.2 ≠ 0):=by
  refine List.pairwise_map.2 (List.Pairwise.imp_of_mem ?_ e2.1)
  intro p q hp hq hlt e0
  have:=List.cons.inj (yQ.zero _ _ e0)
  have:=root_inj (okF_of (e4 p hp)) (okF_of (e4 q hq)) this.1
  rw [this,yQ.refl] at hlt
  omega
 have hrp:=sumS_new yQ (M:=e.map fun p => (p.1,rtF p.2)) (fun q hq => by
  obtain ⟨p,hp,rfl⟩:=List.mem_map.1 hq
  have:=e2.2 p hp
  simp only;omega) hd
 obtain ⟨L,hL⟩:∃ L,L = sumS cmpTe (copM e):=⟨_,rfl⟩
 obtain ⟨R,hR⟩:∃ R,R = sumS cmpF (e.map fun p => (p.1,rtF p.2)):=⟨_,rfl⟩
 have hLnf:NfS cmpTe L:=by rw [hL];exact sumS_nf kR (copM_range e)
 have hRnf:NfS cmpF R:=by rw [hR];exact sumS_nf yQ hrg
 have hLk:∀ q ∈ L,OkF q.2.1∧OkF q.2.2∧qX q.2.1 + qX q.2.2 ≤ 8:=fun q hq => by rw [hL] at hq;exact cop_key h hq
 rw [← hR] at hrp k3
 rw [← hL,← hR]
 let M:List (Int × Spl):=L.map (fun q => (q.1,rootS q.2)) ++ R.map fun q => (q.1,(q.2,[]))
 have hM0:∀ q ∈ M,1 ≤ q.1∧q.1 < 10007:=fun q hq => by
  rcases List.mem_append.1 hq with hq|hq
  ·obtain ⟨p,hp,rfl⟩:=List.mem_map.1 hq;exact hLnf.2 p hp
  ·obtain ⟨p,hp,rfl⟩:=List.mem_map.1 hq;exact hRnf.2 p hp
 have hMd:M.Pairwise (fun p q => cmpTe p.2 q.2 ≠ 0):=by
  refine List.pairwise_append.2 ⟨List.pairwise_map.2 (List.Pairwise.imp_of_mem ?_ hLnf.1),List.pairwise_map.2 (List.Pairwise.imp_of_mem ?_ hRnf.1),?_⟩
  ·intro p q hp hq hlt
   refine cmpTe_ne fun e0 => ?_
   have a1:=congrArg Prod.fst e0
   have a2:=congrArg Prod.snd e0
   have a1:p.2.1 = q.2.1:=a1
   have a2:[canon (qA p.2.2)] = [canon (qA q.2.2)]:=a2
   have:=root_inj (hLk p hp).2.1 (hLk q hq).2.1 (List.cons.inj a2).1
   have:p.2 = q.2:=Prod.ext a1 this
   rw [this,kR.refl] at hlt
   omega
  ·intro p q hp hq hlt
   refine cmpTe_ne fun e0 => ?_
   have a1:p.2 = q.2:=congrArg Prod.fst e0
   rw [a1,yQ.refl] at hlt
   omega
  ·intro p hp q hq
   obtain ⟨p',_,rfl⟩:=List.mem_map.1 hp
   obtain ⟨q',_,rfl⟩:=List.mem_map.1 hq
   refine cmpTe_ne fun e0 => ?_
   have a2:[canon (qA p'.2.2)] = []:=congrArg Prod.snd e0
   cases a2
 have hMr:∀ q ∈ M,0 ≤ q.1∧q.1 < 10007:=fun q hq => by have:=hM0 q hq;omega
 have hlin:∀ F:Spl→Int,Eqm (lin F (copM R)) (lin F M):=fun F => by
  refine (lin_copM F R).trans ?_
  have hp:=lin_perm (wF F) hrp
  rw [hp]
  have a1:=lin_rt F e e4
  rw [a1]
  have a2:lin F M = lin (fun s => F (rootS s)) L + lin (fun f => F (f,[])) R:=by
   show lin F (L.map _ ++ R.map _) = _
   rw [lin_append]
   rw [lin_mapK F rootS,lin_mapK F (fun f:List (List Int) => ((f,[]):Spl))]
  rw [a2]
  refine Eqm.add ?_ (Eqm.of ?_)
  ·rw [hL]
   exact ((lin_sumS kR _ _).trans (lin_copM _ e)).symm
  ·rw [lin_perm _ hrp,lin_mapK]
 have hw:sumS cmpTe (copM R) = sumS cmpTe M:=sum_lin kR (copM_range R) hMr hlin
 have hwp:(sumS cmpTe (copM R)).Perm M:=by rw [hw];exact sumS_new kR (fun q hq => by have:=hM0 q hq;omega) hMd
 refine ⟨by rw [hrp.length_eq,List.length_map],by rw [hwp.length_eq];simp [M],fun w hw => ?_⟩
 rcases List.mem_append.1 (hwp.mem_iff.1 hw) with hq|hq
 ·obtain ⟨q,hq9,rfl⟩:=List.mem_map.1 hq
  obtain ⟨q1,q2,q3⟩:=hLk q hq9
  refine .inr ⟨canon (qA q.2.2),rfl,?_,q,hq9,rfl,rfl,?_⟩
  ·have hlv:=yI fun t ht => (q2.1 t ht).1
   refine lev8_mk (xW hlv) ?_
   have hww:=cop_key k3 hw
   have:=hww.2.2
   have e1:qX (rootS q.2).2 = (canon (qA q.2.2)).length:=by simp [rootS,qX]
   simp only at this
   omega
  ·have hlv:=yI fun t ht => (q2.1 t ht).1
   have hl8:lev8 (canon (qA q.2.2)) = true:=by
    refine lev8_mk (xW hlv) ?_
    have hww:=cop_key k3 hw
    have:=hww.2.2
    have e1:qX (rootS q.2).2 = (canon (qA q.2.2)).length:=by simp [rootS,qX]
    simp only at this
    omega
   unfold brOf
   rw [if_pos hl8,br_root q2]
 ·obtain ⟨q,hq9,rfl⟩:=List.mem_map.1 hq
  exact .inl ⟨rfl,q,hq9,rfl,rfl⟩
end
section
theorem addTs_app (d M N:List (Int × Spl)):addS cmpTe d (M ++ N) = addS cmpTe (addS cmpTe d M) N:=by unfold addS;rw [List.foldl_append]
theorem copM_take {e:Elt} {i:Nat} (h:i < e.length):copM (e.take (i + 1)) = copM (e.take i) ++ copP e[i]:=by
 unfold copM
 rw [List.take_succ_eq_append_getElem h,List.flatMap_append];simp
theorem copP_len {p:Int × List (List Int)} (h:forB p.2 = true):(copP p).length ≤ 256:=by
 unfold copP
 rw [List.length_map]
 have h0:=(yF (prodS (p.2.map split))).len
 rw [List.length_map] at h0
 have h1:=vX (yH h) (xT h).1
 omega
theorem copP_ok {p:Int × List (List Int)} (h:forB p.2 = true):∀ q ∈ copP p,(0 ≤ q.1∧q.1 < 10007)∧SmS q.2:=fun q hq => by
 obtain ⟨z,hz,rfl⟩:=List.mem_map.1 hq
 have h1:=(xT h).1
 exact ⟨xC _,(((qE0 (kB (yH h))) z hz).2.2.ha (by omega)).sm⟩
theorem copM_ok {e:Elt} (h:∀ p ∈ e,forB p.2 = true):∀ q ∈ copM e,(0 ≤ q.1∧q.1 < 10007)∧SmS q.2:=fun q hq => by
 obtain ⟨p,hp,hq⟩:=List.mem_flatMap.1 hq
 exact copP_ok (h p hp) q hq
theorem wW:∀ (e:Elt),(∀ p ∈ e,forB p.2 = true)→(copM e).length ≤ 256 * e.length
 | [],_ => by simp [copM]
 | p :: e,h => by
  have h1:=copP_len (h p (by simp))
  have h2:=wW e (fun q hq => h q (by simp [hq]))
  unfold copM at h2 ⊢
  rw [List.flatMap_cons,List.length_append,List.length_cons,Nat.mul_succ];omega
instance (L:List (Int × Spl)):Decidable (OkT L):=inferInstanceAs (Decidable (∀ q ∈ L,(1 ≤ q.1∧q.1 < 10007)∧SmS q.2))
noncomputable def TCopS:Tab Tryz.prog :=
 (((Tab.none.add 99 (tab1 codI fun n => some [.val (.int (mP n))]) (yB fun n rs h => by cases h;exact a_l01Mod n)).add
   98 (tab2 codI codI fun a b => if -9223372036854775808 ≤ a * b∧a * b ≤ 9223372036854775807 then some [.val (.int (mP (a * b)))] else none) (yW fun a b rs h => by split at h;cases h;rename_i hs;exact a_l01Mul a b hs;cases h)).add
   67 (tab1 codLL fun f => if SmF f then some [.val (.sl 1 (f.map eL))] else none) (yB fun f rs h => by split at h;cases h;rename_i hs;exact AFn.val1 (a_l01Own2 f (by have:=hs.1;omega) hs.b);cases h)).add
   97 (tab2 (codS 3 codTe) codTe fun L p => if L.length ≤ 1000000∧OkT L∧(0 ≤ p.1∧p.1 < 10007)∧SmS p.2 then some [.val (.sl 3 ((putS cmpTe L p.1 p.2).map eTe))] else none) (yW fun L p rs h => by
   split at h
   ·rename_i hs
    cases h
    exact a_l06Tensor L p.1 p.2 hs.1 hs.2.1 hs.2.2.1 hs.2.2.2
   ·cases h)
set_option maxRecDepth 20000 in
set_option maxHeartbeats 16000000 in
theorem xD0 (e:Elt) (hz:szP e):∃ r,(r = .own 3 ((copOf e).1.map eTe) true ∨ r = .own 3 ((copOf e).1.map eTe) false ∨ r = .val (.sl 3 ((copOf e).1.map eTe)))∧AFn Tryz.prog 43 [[.sl 2 (e.map ePt)]] (· = [r,.val (.int (copOf e).2)]):=by
 have h1:=a_l06Is e hz
 unfold copOf
 by_cases hE:elB e = true
 rotate_left
 ·have hE':elB e = false:=by simpa using hE
  rw [if_neg hE]
  rw [hE'] at h1
  refine ⟨.own 3 [] true,.inl rfl,?_⟩
  refine AFn.of_runs (qQ 61) Tryz.func43 rfl rfl rfl gz ?_
  have hres:Tryz.f43.results.toList = [.tmp 2,.tmp 3]:=rfl
  have hrts:Tryz.f43.resultTypes.toList = [65,2]:=rfl
  simp only [qU,qK,eL,eI,eLL,eB,Nat.zero_add,Nat.reduceAdd]
  intro M
  refine qJ.of ?_
  refine gw104 ?_
  exact gw8
 rw [hE] at h1
 rw [if_pos hE]
 obtain ⟨hl,_,_,hfo⟩:=yR hE
 have hbd:=(yR hE).2.1.2
 have hML:=wW e hfo
 have hpre:∀ i,(sumS cmpTe (copM (e.take i))).length ≤ 100000∧OkT (sumS cmpTe (copM (e.take i))):=fun i => by
  have h2:=wW (e.take i) (vT hfo)
  have h3:=addT_len (copM (e.take i)) []
  rw [List.length_take] at h2
  simp only [List.length_nil] at h3
  exact ⟨by show (addS cmpTe [] _).length ≤ _;omega,addT_ok OkT.nil (copM_ok (vT hfo))⟩
 have main:∀ fin:Bool,decide ((sumS cmpTe (copM e)).length ≤ 600) = fin→AFn Tryz.prog 43 [[.sl 2 (e.map ePt)]] (· = [bif fin then .val (.sl 3 ((sumS cmpTe (copM e)).map eTe)) else .own 3 [] true,.val (.int (bif fin then 0 else 3))]):=by
  intro fin hfin
  refine AFn.of_runs (qQ 61) Tryz.func43 rfl rfl rfl gz ?_
  have hres:Tryz.f43.results.toList = [.tmp 2,.tmp 3]:=rfl
  have hrts:Tryz.f43.resultTypes.toList = [65,2]:=rfl
  simp only [qU,qK,eL,eI,eLL,eB,Nat.zero_add,Nat.reduceAdd]
  intro M
  refine qJ.of ?_
  refine gw104 ?_
  refine qJ.frz 4 ?_
  refine qJ.fits (s0:=⟨[(0,.c (.val (.sl 2 (e.map ePt)))),(4,.c (.val (.sl 3 []))),(5,.c (.val (.int 0)))],[]⟩) ?_ ?_
  ·exact gw43
  refine qJ.loop (β:=Nat) (γ:=Unit) (fun i => ⟨[(0,.c (.val (.sl 2 (e.map ePt)))),(4,.c (.val (.sl 3 ((sumS cmpTe (copM (e.take i))).map eTe)))),(5,.c (.val (.int i)))],[]⟩) (fun i => i ≤ e.length) (fun i => e.length - i)
   (fun _ => ⟨[(4,.c (.val (.sl 3 ((sumS cmpTe (copM e)).map eTe))))],[]⟩) (fun _ => True) 0 (Nat.zero_le _) ?_ ?_ ?_
  ·exact gw44 (Yp (show copM [] = [] from rfl) (show sumS cmpTe [] = [] from rfl))
  ·intro i hi
   have hi:i ≤ e.length:=hi
   have hw:=qD (n:=i) (by omega)
   have hle:(e.map ePt).length = e.length:=List.length_map _
   by_cases h:i < e.length
   ·have i1:((i:Int) < (e.length:Int)) = True:=eq_true (by omega)
    have i2:((0:Int) ≤ (i:Int)) = True:=eq_true (by omega)
    obtain ⟨p,hp⟩:∃ p,p = e[i]:=⟨_,rfl⟩
    have hpf:=hfo e[i] (List.getElem_mem _)
    have hpb:=hbd e[i] (List.getElem_mem _)
    have hg:(e.map ePt)[i]? = some [.int p.1,.sl 1 (p.2.map eL)]:=by rw [qL h,hp];rfl
    have htk:sumS cmpTe (copM (e.take (i + 1))) = addS cmpTe (sumS cmpTe (copM (e.take i))) (copP p):=by
     rw [copM_take h,← hp];exact addTs_app _ _ _
    rw [← hp] at hpf hpb
    have hsm8:=(xT hpf).1
    have hfor:=yR0 8 (fun b a1 a2 a3 => a_l05Tree 8 (Nat.le_refl _) b a1 a2 a3) p.2 (fun b hb => ⟨yH hpf b hb,forB_can hpf b hb,by have:=yU hb;omega⟩) hsm8
    have hgood:=qE0 (kB (yH hpf))
    have hGl:=copP_len hpf
    have hcok:=copP_ok hpf
    have hcd:copP p = (gathS (prodS (p.2.map split))).map fun z => (mP (p.1 * z.2),z.1):=rfl
    have hpl:=vX (yH hpf) hsm8
    obtain ⟨G,hG⟩:∃ G,G = gathS (prodS (p.2.map split)):=⟨_,rfl⟩
    rw [← hG] at hfor hgood hcd
    obtain ⟨r1,r2⟩:=hpre i
    obtain ⟨R,hR⟩:∃ R,R = sumS cmpTe (copM (e.take i)):=⟨_,rfl⟩
    rw [← hR] at htk r1 r2 ⊢
    simp only [eLL] at hfor
    have hGm:(G.map eSp).length = G.length:=List.length_map _
    have hGn:G.length ≤ 256:=by rw [hcd,List.length_map] at hGl;exact hGl
    refine gw105 (Yp i1 (Yp i2 (Yp hg hle))) ?_
    refine qJ.loop (β:=Nat) (γ:=Unit) (fun j => ⟨[(0,.c (.val (.sl 2 (e.map ePt)))),(4,.c (.val (.sl 3 ((addS cmpTe R ((copP p).take j)).map eTe)))),(5,.c (.val (.int i))),(6,.c (.val (.sl 3 (G.map eSp)))),(7,.c (.val (.int j)))],[]⟩) (fun j => j ≤ G.length) (fun j => G.length - j)
     (fun _ => ⟨[(0,.c (.val (.sl 2 (e.map ePt)))),(4,.c (.val (.sl 3 ((addS cmpTe R (copP p)).map eTe)))),(5,.c (.val (.int i)))],[]⟩) (fun _ => True) 0 (Nat.zero_le _) ?_ ?_ ?_
    ·exact gw106 (show addS cmpTe R [] = R from rfl)
    ·intro j hj
     have hj:j ≤ G.length:=hj
     have hwj:=qD (n:=j) (by omega)
     by_cases g:j < G.length
     ·have j1:((j:Int) < (G.length:Int)) = True:=eq_true (by omega)
      have j2:((0:Int) ≤ (j:Int)) = True:=eq_true (by omega)
      obtain ⟨z,hz⟩:∃ z,z = G[j]:=⟨_,rfl⟩
      obtain ⟨z1,z2,z3⟩:=hgood G[j] (List.getElem_mem _)
      have hgz:(G.map eSp)[j]? = some [.sl 1 (z.1.1.map eL),.sl 1 (z.1.2.map eL),.int z.2]:=by rw [qL g,hz];rfl
      have hgc:j < (copP p).length:=by rw [hcd,List.length_map];exact g
      have hst:addS cmpTe R ((copP p).take (j + 1)) = putS cmpTe (addS cmpTe R ((copP p).take j)) (mP (p.1 * z.2)) z.1:=by
       rw [List.take_succ_eq_append_getElem hgc,addT_snoc]
       simp only [hcd,List.getElem_map,← hz]
      rw [← hz] at z1 z2 z3
      have hha:=(z3.ha (by omega)).sm
      have hK1:(addS cmpTe R ((copP p).take j)).length ≤ 1000000:=by
       have h4:=addT_len ((copP p).take j) R
       rw [List.length_take] at h4;omega
      have hK2:OkT (addS cmpTe R ((copP p).take j)):=addT_ok r2 (fun q hq => hcok q (List.mem_of_mem_take hq))
      obtain ⟨K,hK⟩:∃ K,K = addS cmpTe R ((copP p).take j):=⟨_,rfl⟩
      rw [← hK] at hst hK1 hK2 ⊢
      have hmz:=mP_small (n:=z.2) (by omega) (by omega)
      have hb0:0 ≤ p.1 * z.2∧p.1 * z.2 ≤ 100140049:=by
       refine ⟨Int.mul_nonneg (by omega) (by omega),?_⟩
       have h5:=Int.mul_le_mul (show p.1 ≤ 10007 by omega) (show z.2 ≤ 10007 by omega) (by omega) (by decide)
       omega
      have t1:=eq_true (show -9223372036854775808 ≤ p.1 * z.2∧p.1 * z.2 ≤ 9223372036854775807 by omega)
      have t2:=eq_true hha.1
      have t3:=eq_true hha.2
      have t4:=eq_true (And.intro hK1 (And.intro hK2 (And.intro (xC (p.1 * z.2)) (show SmS (z.1.1,z.1.2) from hha))))
      refine gw107 (Yp i1 (Yp i2 (Yp j1 (Yp j2 (Yp hg (Yp hgz (Yp hwj (Yp hle (Yp hGm (Yp hmz (Yp t1 (Yp t2 (Yp t3 t4))))))))))))) ?_
      refine qY.on (j + 1) ⟨g,by omega⟩ ?_
      rw [hst]
      exact gw6 Y0
     ·have j1:((j:Int) < (G.length:Int)) = False:=eq_false (by omega)
      obtain rfl:j = G.length:=by omega
      have hall:(copP p).take G.length = copP p:=List.take_of_length_le (by rw [hcd,List.length_map];exact Nat.le_refl _)
      rw [hall]
      refine gw108 (Yp j1 hGm) ?_
      refine qY.out () trivial ?_
      exact gw6 Y0
    ·rintro _ _
     refine gw108 hw ?_
     refine qY.on (i + 1) ⟨h,by omega⟩ ?_
     rw [htk]
     exact gw6 Y0
   ·have i1:((i:Int) < (e.length:Int)) = False:=eq_false (by omega)
    obtain rfl:i = e.length:=by omega
    rw [List.take_length]
    refine gw108 (Yp i1 hle) ?_
    refine qY.out () trivial ?_
    exact gw6 Y0
  ·rintro _ _
   cases fin with
   | true =>
    have hb:=of_decide_eq_true hfin
    have j1:(((sumS cmpTe (copM e)).length:Int) > 600) = False:=eq_false (by omega)
    refine gw109 j1 ?_
    (refine jY.mk (by simp) (rs:=?_) (ks:=?_) hres hrts ?_ ?_ ?_;rotate_left 2;(focus (simp only [Ze,Zg,seval,if_true,if_false,reduceCtorEq,Nat.reduceEqDiff,cond_true];with_reducible rfl));(focus simp);focus (first|with_reducible rfl|(simp only [Zv,cond_true];done)))
   | false =>
    have hb:=of_decide_eq_false hfin
    have j1:(((sumS cmpTe (copM e)).length:Int) > 600) = True:=eq_true (by omega)
    refine gw109 j1 ?_
    (refine jY.mk (by simp) (rs:=?_) (ks:=?_) hres hrts ?_ ?_ ?_;rotate_left 2;(focus (simp only [Ze,Zg,seval,if_true,if_false,reduceCtorEq,Nat.reduceEqDiff,cond_false,List.map_nil];with_reducible rfl));(focus simp);focus (first|with_reducible rfl|(simp only [Zv,cond_false,List.map_nil];done)))
 by_cases h6:(sumS cmpTe (copM e)).length ≤ 600
 ·rw [if_pos h6]
  exact ⟨_,.inr (.inr rfl),main true (decide_eq_true h6)⟩
 ·rw [if_neg h6]
  exact ⟨.own 3 [] true,.inl rfl,main false (decide_eq_false h6)⟩
end
section
def fIdx {α:Type} (p:α→Bool):List α→Option Nat
 | [] => none
 | x :: xs => if p x then some 0 else (fIdx p xs).map (· + 1)
def idxI (o:Option Nat):Int:=match o with|some i => i|none => -1
theorem wY {α:Type} {p:α→Bool}:∀ {xs:List α},fIdx p xs = none ↔ ∀ x ∈ xs,p x = false
 | [] => by simp [fIdx]
 | x :: xs => by
  unfold fIdx
  by_cases h:p x = true
  ·simp [h]
  ·have h':p x = false:=by simpa using h
   simp only [h,Bool.false_eq_true,if_false,Option.map_eq_none_iff,wY (xs:=xs)]
   simp [h']
theorem jV0 {α:Type} {p:α→Bool}:∀ {xs:List α} {i:Nat},fIdx p xs = some i→∃ h:i < xs.length,p xs[i] = true∧∀ x ∈ xs.take i,p x = false
 | x :: xs,i,h => by
  unfold fIdx at h
  by_cases hx:p x = true
  ·rw [if_pos hx] at h;cases h
   exact ⟨by simp,hx,by simp⟩
  ·rw [if_neg hx] at h
   obtain ⟨j,hj,rfl⟩:=map_some h
   obtain ⟨h1,h2,h3⟩:=jV0 hj
   refine ⟨by simpa using h1,h2,fun y hy => ?_⟩
   rw [List.take_succ_cons,List.mem_cons] at hy
   rcases hy with rfl|hy
   ·simpa using hx
   ·exact h3 y hy
theorem fIdx_at {α:Type} {p:α→Bool}:∀ {xs:List α} {i:Nat} (h:i < xs.length),p xs[i] = true→(∀ x ∈ xs.take i,p x = false)→fIdx p xs = some i
 | x :: xs,0,_,h1,_ => by
  have h1:p x = true:=h1
  unfold fIdx;rw [if_pos h1]
 | x :: xs,i + 1,h,h1,h2 => by
  unfold fIdx
  have hx:p x = false:=h2 x (by simp)
  rw [if_neg (by simp [hx]),fIdx_at (xs:=xs) (i:=i) (by simpa using h) h1 (fun y hy => h2 y (by simp [hy]))]
  rfl
def keepF {α:Type} (p:α→Bool) (xs:List α):List α:=xs.filter fun x => !p x
end
section
set_option maxHeartbeats 2000000 in
theorem yI0 {α:Type} (e:α→List D) (d:α→D) (c0:α→Int) (f:α→List (List Int)) (p:α→Bool) (g:FuncId) (he:∀ x,e x = [.int (c0 x),d x]) (hun:∀ x,(d x).un = .sl 1 ((f x).map eL)) (hp:∀ x,AFn Tryz.prog g [[.int (c0 x),.sl 1 ((f x).map eL)]] (· = [.val (.bool (p x))])) (xs:List α) (hl:xs.length ≤ 1000000000) :
  AFn Tryz.prog 197 [[.sl 2 (xs.map e)],[.raw (.func (.func g) #[] #[])]] (· = [.val (.int (idxI (fIdx p xs)))]):=by
 refine AFn.of_runs (qQ 19) Tryz.func197 rfl rfl rfl gz ?_
 have hres:Tryz.f197.results.toList = [.tmp 4]:=rfl
 have hrts:Tryz.f197.resultTypes.toList = [3]:=rfl
 simp only [qU,qK,eL,eI,eLL,eB,Nat.zero_add,Nat.reduceAdd]
 intro M
 refine qJ.of ?_
 have hle:(xs.map e).length = xs.length:=by simp
 repeat' (first|with_reducible (first|refine Q1 ?_|refine Q2 ?_|refine Q3 ?_|refine Q4 ?_|refine Q5 ?_|refine Q6 ?_|refine Q7 ?_|refine Q8 ?_|refine Q9 ?_|refine Qa ?_|refine Qb ?_|refine Qc ?_|refine Qd ?_|refine Qe ?_|refine Qf ?_|refine QO ?_|refine QV 9 ?_|refine QY 9 ?_)|with_reducible ((first|apply QS (qQ 19) Tab.none|apply QC);refine QW ?_;simp only [Zg,seval,if_true,if_false,reduceCtorEq,Nat.reduceEqDiff,hle];rfl))
 refine qJ.loop (β:=Nat) (γ:=Unit) (fun i => ⟨[(0,.c (.val (.sl 2 (xs.map e)))),(1,.c (.val (.raw (.func (.func g) #[] #[])))),(7,.c (.val (.int xs.length))),(8,.c (.val (.int i)))],[]⟩) (fun i => i ≤ xs.length∧∀ x ∈ xs.take i,p x = false) (fun i => xs.length - i)
  (fun _ => ⟨[],[]⟩) (fun _ => ∀ x ∈ xs,p x = false) 0 ⟨Nat.zero_le _,by simp⟩ ?_ ?_ ?_
 ·(repeat' (first|exact Qn|((with_reducible refine Qr ?_ ?_);focus first|with_reducible rfl|(simp only [Zz,Nat.reduceBEq];done)|rfl)|((with_reducible apply Qj);rfl)|((with_reducible refine Qw ?_ ?_);(focus first|with_reducible rfl|(simp only [Zv];done));first|exact id|exact nofun|exact fun _=>rfl)))
 ·rintro i ⟨hi,hlow⟩
  have hw:=qD (n:=i) (by omega)
  by_cases h:i < xs.length
  ·have hx:=hp xs[i]
   have hj:(xs.map e)[i]? = some [.int (c0 xs[i]),d xs[i]]:=by rw [qL h,he]
   have i1:((i:Int) < (xs.length:Int)) = True:=eq_true (by omega)
   have i2:((0:Int) ≤ (i:Int)) = True:=eq_true (by omega)
   by_cases hpx:p xs[i] = true
   ·repeat' (first|with_reducible (first|refine Q1 ?_|refine Q2 ?_|refine Q3 ?_|refine Q4 ?_|refine Q5 ?_|refine Q6 ?_|refine Q7 ?_|refine Q8 ?_|refine Q9 ?_|refine Qa ?_|refine Qb ?_|refine Qc ?_|refine Qd ?_|refine Qe ?_|refine Qf ?_|refine QO ?_|refine QV 9 ?_|refine QY 9 ?_)|with_reducible ((first|apply QS (qQ 19) (Tab.none.at' g hx)|apply QC);refine QW ?_;simp only [Zg,seval,if_true,if_false,reduceCtorEq,Nat.reduceEqDiff,hle,i1,i2,hj,hun,xO (hun _),xN (hun _),hpx,hw,eL,Int.toNat_natCast];rfl))
    refine qY.ret ?_
    repeat' (first|with_reducible (first|refine Q1 ?_|refine Q2 ?_|refine Q3 ?_|refine Q4 ?_|refine Q5 ?_|refine Q6 ?_|refine Q7 ?_|refine Q8 ?_|refine Q9 ?_|refine Qa ?_|refine Qb ?_|refine Qc ?_|refine Qd ?_|refine Qe ?_|refine Qf ?_|refine QO ?_|refine QV 9 ?_|refine QY 9 ?_)|with_reducible ((first|apply QS (qQ 19) Tab.none|apply QC);refine QW ?_;simp only [Zg,seval,if_true,if_false,reduceCtorEq,Nat.reduceEqDiff];rfl))
    rw [fIdx_at h hpx hlow]
    (refine jY.mk (by simp) (rs:=?_) (ks:=?_) hres hrts ?_ ?_ ?_;rotate_left 2;(focus (simp only [Ze,Zg,seval,if_true,if_false,reduceCtorEq,Nat.reduceEqDiff,idxI];with_reducible rfl));(focus simp);focus (first|with_reducible rfl|(simp only [Zv,idxI];done)))
   ·have hpx':p xs[i] = false:=by simpa using hpx
    repeat' (first|with_reducible (first|refine Q1 ?_|refine Q2 ?_|refine Q3 ?_|refine Q4 ?_|refine Q5 ?_|refine Q6 ?_|refine Q7 ?_|refine Q8 ?_|refine Q9 ?_|refine Qa ?_|refine Qb ?_|refine Qc ?_|refine Qd ?_|refine Qe ?_|refine Qf ?_|refine QO ?_|refine QV 9 ?_|refine QY 9 ?_)|with_reducible ((first|apply QS (qQ 19) (Tab.none.at' g hx)|apply QC);refine QW ?_;simp only [Zg,seval,if_true,if_false,reduceCtorEq,Nat.reduceEqDiff,hle,i1,i2,hj,hun,xO (hun _),xN (hun _),hpx',hw,eL,Int.toNat_natCast];rfl))
    refine qY.on (i + 1) ⟨⟨h,fun x hx => ?_⟩,by omega⟩ ?_
    ·rw [List.take_succ_eq_append_getElem h,List.mem_append,List.mem_singleton] at hx
     rcases hx with hx|rfl
     ·exact hlow x hx
     ·exact hpx'
    ·(repeat' (first|exact Qn|((with_reducible refine Qr ?_ ?_);focus first|with_reducible rfl|(simp only [Zz,Nat.reduceBEq];done)|rfl)|((with_reducible apply Qj);rfl)|((with_reducible refine Qw ?_ ?_);(focus first|with_reducible rfl|(simp only [Zv];done));first|exact id|exact nofun|exact fun _=>rfl)))
  ·have i1:((i:Int) < (xs.length:Int)) = False:=eq_false (by omega)
   repeat' (first|with_reducible (first|refine Q1 ?_|refine Q2 ?_|refine Q3 ?_|refine Q4 ?_|refine Q5 ?_|refine Q6 ?_|refine Q7 ?_|refine Q8 ?_|refine Q9 ?_|refine Qa ?_|refine Qb ?_|refine Qc ?_|refine Qd ?_|refine Qe ?_|refine Qf ?_|refine QO ?_|refine QV 9 ?_|refine QY 9 ?_)|with_reducible ((first|apply QS (qQ 19) Tab.none|apply QC);refine QW ?_;simp only [Zg,seval,if_true,if_false,reduceCtorEq,Nat.reduceEqDiff,hle,i1];rfl))
   refine qY.out () (fun x hx => hlow x (by rw [List.take_of_length_le (by omega)];exact hx)) ?_
   (repeat' (first|exact Qn|((with_reducible refine Qr ?_ ?_);focus first|with_reducible rfl|(simp only [Zz,Nat.reduceBEq];done)|rfl)|((with_reducible apply Qj);rfl)|((with_reducible refine Qw ?_ ?_);(focus first|with_reducible rfl|(simp only [Zv];done));first|exact id|exact nofun|exact fun _=>rfl)))
 ·rintro _ hno
  repeat' (first|with_reducible (first|refine Q1 ?_|refine Q2 ?_|refine Q3 ?_|refine Q4 ?_|refine Q5 ?_|refine Q6 ?_|refine Q7 ?_|refine Q8 ?_|refine Q9 ?_|refine Qa ?_|refine Qb ?_|refine Qc ?_|refine Qd ?_|refine Qe ?_|refine Qf ?_|refine QO ?_|refine QV 9 ?_|refine QY 9 ?_)|with_reducible ((first|apply QS (qQ 19) Tab.none|apply QC);refine QW ?_;simp only [Zg,seval,if_true,if_false,reduceCtorEq,Nat.reduceEqDiff];rfl))
  rw [wY.2 hno]
  (refine jY.mk (by simp) (rs:=?_) (ks:=?_) hres hrts ?_ ?_ ?_;rotate_left 2;(focus (simp only [Ze,Zg,seval,if_true,if_false,reduceCtorEq,Nat.reduceEqDiff,idxI];with_reducible rfl));(focus simp);focus (first|with_reducible rfl|(simp only [Zv,idxI];done)))
set_option maxHeartbeats 4000000 in
theorem a_DeleteFuncPt {α:Type} (e:α→List D) (d:α→D) (c0:α→Int) (f:α→List (List Int)) (p:α→Bool) (g:FuncId) (he:∀ x,e x = [.int (c0 x),d x]) (hun:∀ x,(d x).un = .sl 1 ((f x).map eL)) (hp:∀ x,AFn Tryz.prog g [[.int (c0 x),.sl 1 ((f x).map eL)]] (· = [.val (.bool (p x))])) (xs:List α) (hl:xs.length ≤ 1000000000) :
  AOw Tryz.prog 153 [] 2 (xs.map e) [[.raw (.func (.func g) #[] #[])]] (· = [.own 2 ((keepF p xs).map e) false]):=by
 have hidx:=yI0 e d c0 f p g he hun hp xs hl
 rcases hfi:fIdx p xs with _|i0
 ·rw [hfi] at hidx
  have hk:keepF p xs = xs:=List.filter_eq_self.2 (fun x hx => by rw [wY.1 hfi x hx];rfl)
  rw [hk]
  refine AOw.of_runs (qQ 42) Tryz.func153 rfl rfl rfl gz ?_
  have hres:Tryz.f153.results.toList = [.tmp 4]:=rfl
  have hrts:Tryz.f153.resultTypes.toList = [50]:=rfl
  simp only [List.length_cons,List.length_nil,List.nil_append,List.cons_append,qU,qK,eL,eI,eLL,eB,Nat.zero_add,Nat.reduceAdd]
  intro M
  refine qJ.of ?_
  repeat' (first|with_reducible (first|refine Q1 ?_|refine Q2 ?_|refine Q3 ?_|refine Q4 ?_|refine Q5 ?_|refine Q6 ?_|refine Q7 ?_|refine Q8 ?_|refine Q9 ?_|refine Qa ?_|refine Qb ?_|refine Qc ?_|refine Qd ?_|refine Qe ?_|refine Qf ?_|refine QO ?_|refine QV 8 ?_|refine QY 8 ?_)|with_reducible ((first|apply QS (qQ 42) (Tab.none.at' 197 hidx)|apply QC);refine QW ?_;simp only [Zg,seval,if_true,if_false,reduceCtorEq,Nat.reduceEqDiff,idxI];rfl))
  (refine jY.mk (by simp) (rs:=?_) (ks:=?_) hres hrts ?_ ?_ ?_;rotate_left 2;(focus (simp only [Ze,Zg,seval,if_true,if_false,reduceCtorEq,Nat.reduceEqDiff];with_reducible rfl));(focus simp);focus (first|with_reducible rfl|(simp only [Zv];done)))
 ·rw [hfi] at hidx
  obtain ⟨hi0,hpi,hlow⟩:=jV0 hfi
  refine AOw.of_runs (qQ 42) Tryz.func153 rfl rfl rfl gz ?_
  have hres:Tryz.f153.results.toList = [.tmp 4]:=rfl
  have hrts:Tryz.f153.resultTypes.toList = [50]:=rfl
  simp only [List.length_cons,List.length_nil,List.nil_append,List.cons_append,qU,qK,eL,eI,eLL,eB,Nat.zero_add,Nat.reduceAdd]
  intro M
  refine qJ.of ?_
  have hne:((i0:Int) == -1) = false:=beq_eq_false_iff_ne.2 (by omega)
  have hw0:=qD (n:=i0) (by omega)
  repeat' (first|with_reducible (first|refine Q1 ?_|refine Q2 ?_|refine Q3 ?_|refine Q4 ?_|refine Q5 ?_|refine Q6 ?_|refine Q7 ?_|refine Q8 ?_|refine Q9 ?_|refine Qa ?_|refine Qb ?_|refine Qc ?_|refine Qd ?_|refine Qe ?_|refine Qf ?_|refine QO ?_|refine QV 8 ?_|refine QY 8 ?_)|with_reducible ((first|apply QS (qQ 42) (Tab.none.at' 197 hidx)|apply QC);refine QW ?_;simp only [Zg,seval,if_true,if_false,reduceCtorEq,Nat.reduceEqDiff,idxI,hne,hw0];rfl))
  refine qJ.loop (β:=Nat × List (List D)) (γ:=List (List D)) (fun x => ⟨[(0,.c (.own 0 xs.length)),(1,.c (.val (.raw (.func (.func g) #[] #[])))),(5,.c (.val (.int (keepF p (xs.take x.1)).length))),(6,.c (.val (.int x.1)))],[(0,.row 2 x.2 false)]⟩)
   (fun x => x.1 ≤ xs.length∧x.2.length = xs.length∧(∀ r ∈ x.2,r.length = 2)∧x.2.take (keepF p (xs.take x.1)).length = (keepF p (xs.take x.1)).map e∧x.2.drop x.1 = (xs.drop x.1).map e) (fun x => xs.length - x.1)
   (fun L => ⟨[(0,.c (.own 0 xs.length)),(5,.c (.val (.int (keepF p xs).length)))],[(0,.row 2 L false)]⟩) (fun L => L.length = xs.length∧L.take (keepF p xs).length = (keepF p xs).map e) (i0 + 1,xs.map e) ⟨by omega,by simp,?_,?_,by rw [List.map_drop]⟩ ?_ ?_ ?_
  ·intro r hr
   obtain ⟨x,_,rfl⟩:=List.mem_map.1 hr
   rw [he];rfl
  ·have h1:keepF p (xs.take (i0 + 1)) = xs.take i0:=by
    rw [List.take_succ_eq_append_getElem hi0]
    unfold keepF
    rw [List.filter_append,List.filter_eq_self.2 (fun x hx => by rw [hlow x hx];rfl)]
    simp [hpi]
   show (xs.map e).take (keepF p (xs.take (i0 + 1))).length = (keepF p (xs.take (i0 + 1))).map e
   rw [h1,← List.map_take,List.length_take,Nat.min_eq_left (Nat.le_of_lt hi0)]
  ·have h1:(keepF p (xs.take (i0 + 1))).length = i0:=by
    rw [List.take_succ_eq_append_getElem hi0]
    unfold keepF
    rw [List.filter_append,List.filter_eq_self.2 (fun x hx => by rw [hlow x hx];rfl)]
    simp [hpi];omega
   (repeat' (first|exact Qn|((with_reducible refine Qr ?_ ?_);focus first|with_reducible rfl|(simp only [Zz,Nat.reduceBEq,h1];done)|rfl)|((with_reducible apply Qj);rfl)|((with_reducible refine Qw ?_ ?_);(focus first|with_reducible rfl|(simp only [Zv,h1];done));first|exact id|exact nofun|exact fun _=>rfl)))
  ·rintro ⟨j,L⟩ ⟨hj,hL,hone,htk,hdr⟩
   have hj:j ≤ xs.length:=hj
   have hL:L.length = xs.length:=hL
   have htk:L.take (keepF p (xs.take j)).length = (keepF p (xs.take j)).map e:=htk
   have hdr:L.drop j = (xs.drop j).map e:=hdr
   have hw:=qD (n:=j) (by omega)
   have hcl:(keepF p (xs.take j)).length ≤ j:=by
    have:=List.length_filter_le (fun x => !p x) (xs.take j)
    unfold keepF
    rw [List.length_take] at this
    omega
   have hwc:=qD (n:=(keepF p (xs.take j)).length) (by omega)
   by_cases h:j < xs.length
   ·have hx:=hp xs[j]
    have hLj:L[j]? = some [.int (c0 xs[j]),d xs[j]]:=by
     have:(L.drop j)[0]? = ((xs.drop j).map e)[0]?:=by rw [hdr]
     rw [List.getElem?_drop,List.getElem?_map,List.getElem?_drop] at this
     simpa [h,he] using this
    have i1:((j:Int) < (xs.length:Int)) = True:=eq_true (by omega)
    have i2:((0:Int) ≤ (j:Int)) = True:=eq_true (by omega)
    have hsucc:keepF p (xs.take (j + 1)) = if p xs[j] = true then keepF p (xs.take j) else keepF p (xs.take j) ++ [xs[j]]:=by
     rw [List.take_succ_eq_append_getElem h]
     unfold keepF
     rw [List.filter_append]
     by_cases hpx:p xs[j] = true <;> simp [hpx]
    by_cases hpx:p xs[j] = true
    ·rw [if_pos hpx] at hsucc
     repeat' (first|with_reducible (first|refine Q1 ?_|refine Q2 ?_|refine Q3 ?_|refine Q4 ?_|refine Q5 ?_|refine Q6 ?_|refine Q7 ?_|refine Q8 ?_|refine Q9 ?_|refine Qa ?_|refine Qb ?_|refine Qc ?_|refine Qd ?_|refine Qe ?_|refine Qf ?_|refine QO ?_|refine QV 8 ?_|refine QY 8 ?_)|with_reducible ((first|apply QS (qQ 42) (Tab.none.at' g hx)|apply QC);refine QW ?_;simp only [Zg,seval,if_true,if_false,reduceCtorEq,Nat.reduceEqDiff,hL,i1,i2,hLj,hun,xO (hun _),xN (hun _),hpx,hw,eL,Int.toNat_natCast];rfl))
     refine qY.on (j + 1,L) ⟨⟨h,hL,hone,?_,?_⟩,by show xs.length - (j + 1) < xs.length - j;omega⟩ ?_
     ·rw [hsucc];exact htk
     ·show L.drop (j + 1) = (xs.drop (j + 1)).map e
      rw [← List.drop_drop,hdr,← List.map_drop,List.drop_drop]
     ·(repeat' (first|exact Qn|((with_reducible refine Qr ?_ ?_);focus first|with_reducible rfl|(simp only [Zz,Nat.reduceBEq,hsucc];done)|rfl)|((with_reducible apply Qj);rfl)|((with_reducible refine Qw ?_ ?_);(focus first|with_reducible rfl|(simp only [Zv,hsucc];done));first|exact id|exact nofun|exact fun _=>rfl)))
    ·have hpx':p xs[j] = false:=by simpa using hpx
     rw [if_neg hpx] at hsucc
     obtain ⟨c,hc⟩:∃ c,c = (keepF p (xs.take j)).length:=⟨_,rfl⟩
     have hcs:(keepF p (xs.take (j + 1))).length = c + 1:=by rw [hsucc,hc];simp
     rw [← hc] at hwc hcl htk
     have hcL:c < L.length:=by omega
     obtain ⟨y,y2,hy⟩:∃ y y2,L[c] = [y,y2]:=by
      have:=hone L[c] (List.getElem_mem _)
      match L[c],this with
      | [y,y2],_ => exact ⟨y,y2,rfl⟩
     have hLc:L[c]? = some [y,y2]:=by rw [List.getElem?_eq_getElem hcL,hy]
     have i3:((c:Int) < (xs.length:Int)) = True:=eq_true (by omega)
     have i4:((0:Int) ≤ (c:Int)) = True:=eq_true (by omega)
     rw [← hc]
     repeat' (first|with_reducible (first|refine Q1 ?_|refine Q2 ?_|refine Q3 ?_|refine Q4 ?_|refine Q5 ?_|refine Q6 ?_|refine Q7 ?_|refine Q8 ?_|refine Q9 ?_|refine Qa ?_|refine Qb ?_|refine Qc ?_|refine Qd ?_|refine Qe ?_|refine Qf ?_|refine QO ?_|refine QV 8 ?_|refine QY 8 ?_)|with_reducible ((first|apply QS (qQ 42) (Tab.none.at' g hx)|apply QC);refine QW ?_;simp only [Zg,seval,if_true,if_false,reduceCtorEq,Nat.reduceEqDiff,hL,i1,i2,i3,i4,hLj,hLc,hun,xO (hun _),xN (hun _),hpx',hw,hwc,eL,Int.toNat_natCast];rfl))
     refine qY.on (j + 1,L.set c [.int (c0 xs[j]),d xs[j]]) ⟨⟨h,by simpa using hL,?_,?_,?_⟩,by show xs.length - (j + 1) < xs.length - j;omega⟩ ?_
     ·intro r hr
      rcases List.mem_or_eq_of_mem_set hr with hr|rfl
      ·exact hone r hr
      ·rfl
     ·show (L.set c [.int (c0 xs[j]),d xs[j]]).take (keepF p (xs.take (j + 1))).length = (keepF p (xs.take (j + 1))).map e
      rw [hcs,hsucc,List.map_append,List.take_succ_eq_append_getElem (by simpa using hcL),List.take_set_of_le (Nat.le_refl _),htk]
      simp [he]
     ·show (L.set c [.int (c0 xs[j]),d xs[j]]).drop (j + 1) = (xs.drop (j + 1)).map e
      rw [List.drop_set_of_lt (by omega),← List.drop_drop,hdr,← List.map_drop,List.drop_drop]
     ·(repeat' (first|exact Qn|((with_reducible refine Qr ?_ ?_);focus first|with_reducible rfl|(simp only [Zz,Nat.reduceBEq,hcs];done)|rfl)|((with_reducible apply Qj);rfl)|((with_reducible refine Qw ?_ ?_);(focus first|with_reducible rfl|(simp only [Zv,hcs];done));first|exact id|exact nofun|exact fun _=>rfl)))
   ·have i1:((j:Int) < (xs.length:Int)) = False:=eq_false (by omega)
    have hall:xs.take j = xs:=List.take_of_length_le (by omega)
    rw [hall] at htk ⊢
    repeat' (first|with_reducible (first|refine Q1 ?_|refine Q2 ?_|refine Q3 ?_|refine Q4 ?_|refine Q5 ?_|refine Q6 ?_|refine Q7 ?_|refine Q8 ?_|refine Q9 ?_|refine Qa ?_|refine Qb ?_|refine Qc ?_|refine Qd ?_|refine Qe ?_|refine Qf ?_|refine QO ?_|refine QV 8 ?_|refine QY 8 ?_)|with_reducible ((first|apply QS (qQ 42) Tab.none|apply QC);refine QW ?_;simp only [Zg,seval,if_true,if_false,reduceCtorEq,Nat.reduceEqDiff,hL,i1];rfl))
    refine qY.out L ⟨hL,htk⟩ ?_
    (repeat' (first|exact Qn|((with_reducible refine Qr ?_ ?_);focus first|with_reducible rfl|(simp only [Zz,Nat.reduceBEq];done)|rfl)|((with_reducible apply Qj);rfl)|((with_reducible refine Qw ?_ ?_);(focus first|with_reducible rfl|(simp only [Zv];done));first|exact id|exact nofun|exact fun _=>rfl)))
  ·rintro L ⟨hL,htk⟩
   have hcl:(keepF p xs).length ≤ xs.length:=List.length_filter_le _ _
   obtain ⟨c,hc⟩:∃ c,c = (keepF p xs).length:=⟨_,rfl⟩
   rw [← hc] at htk hcl ⊢
   have i1:((c:Int) ≤ (xs.length:Int)) = True:=eq_true (by omega)
   have i2:((0:Int) ≤ (c:Int)) = True:=eq_true (by omega)
   have i3:((xs.length:Int) ≤ (xs.length:Int)) = True:=eq_true (by omega)
   have htn:((xs.length:Int)).toNat = xs.length:=Int.toNat_natCast _
   repeat' (first|with_reducible (first|refine Q1 ?_|refine Q2 ?_|refine Q3 ?_|refine Q4 ?_|refine Q5 ?_|refine Q6 ?_|refine Q7 ?_|refine Q8 ?_|refine Q9 ?_|refine Qa ?_|refine Qb ?_|refine Qc ?_|refine Qd ?_|refine Qe ?_|refine Qf ?_|refine QO ?_|refine QV 8 ?_|refine QY 8 ?_)|with_reducible ((first|apply QS (qQ 42) Tab.none|apply QC);refine QW ?_;simp only [Zg,seval,if_true,if_false,reduceCtorEq,Nat.reduceEqDiff];rfl))
   refine qJ.regCut (qQ 42) Tab.none 3 (s1:=?_) ?_ ?_
   rotate_left 1
   focus (refine Work.mk ?_;simp only [Zg,seval,if_true,if_false,reduceCtorEq,Nat.reduceEqDiff,hL,i1,i2,i3,Int.toNat_natCast];with_reducible rfl)
   simp only [List.toList_toArray,List.drop_succ_cons,List.drop_zero]
   refine qV.clear (qQ 42) (x:=.tmp 38) (t:=50) (i:=⟨71,[.int 0,.sl 1 []],32⟩) (key:=0) (j:=c) (m:=xs.length - c) rfl rfl rfl rfl rfl rfl rfl (by rw [hL];omega) ?_
   refine qV.nil ?_
   repeat' (first|with_reducible (first|refine Q1 ?_|refine Q2 ?_|refine Q3 ?_|refine Q4 ?_|refine Q5 ?_|refine Q6 ?_|refine Q7 ?_|refine Q8 ?_|refine Q9 ?_|refine Qa ?_|refine Qb ?_|refine Qc ?_|refine Qd ?_|refine Qe ?_|refine Qf ?_|refine QO ?_|refine QV 8 ?_|refine QY 8 ?_)|with_reducible ((first|apply QS (qQ 42) Tab.none|apply QC);refine QW ?_;simp only [Zg,seval,if_true,if_false,reduceCtorEq,Nat.reduceEqDiff];rfl))
   refine qJ.regCut (qQ 42) Tab.none 2 (s1:=?_) ?_ ?_
   rotate_left 1
   focus (refine Work.mk ?_;simp only [Zg,seval,if_true,if_false,reduceCtorEq,Nat.reduceEqDiff];with_reducible rfl)
   simp only [List.toList_toArray,List.drop_succ_cons,List.drop_zero]
   refine qV.trunc (qQ 42) (x:=.tmp 39) (hi:=.tmp 40) (t:=50) (i:=⟨71,[.int 0,.sl 1 []],32⟩) (d:=41) (key:=0) (m:=xs.length) (n:=c) rfl rfl rfl (by decide) rfl rfl rfl rfl (by simp [hL];omega) (fun q u hq hu => ?_) ?_
   ·simp only [look] at hu
    split at hu
    ·rename_i e;exact absurd e.symm hq
    ·cases hu
   ·have ht2:(L.take c ++ List.replicate (xs.length - c) [D.int 0,D.sl 1 []]).take c = (keepF p xs).map e:=by
     rw [List.take_append_of_le_length (by rw [List.length_take];omega),List.take_take,Nat.min_self,htk]
    rw [ht2]
    refine qV.opsT (qQ 42) (T:=Tab.none) (s':=?_) ?_ ?_
    rotate_left 1
    focus (simp only [Zg,seval,if_true,if_false,reduceCtorEq,Nat.reduceEqDiff];with_reducible rfl)
    repeat' (first|with_reducible (first|refine Q1 ?_|refine Q2 ?_|refine Q3 ?_|refine Q4 ?_|refine Q5 ?_|refine Q6 ?_|refine Q7 ?_|refine Q8 ?_|refine Q9 ?_|refine Qa ?_|refine Qb ?_|refine Qc ?_|refine Qd ?_|refine Qe ?_|refine Qf ?_|refine QO ?_|refine QV 8 ?_|refine QY 8 ?_)|with_reducible ((first|apply QS (qQ 42) Tab.none|apply QC);refine QW ?_;simp only [Zg,seval,if_true,if_false,reduceCtorEq,Nat.reduceEqDiff];rfl))
    (refine jY.mk (by simp) (rs:=?_) (ks:=?_) hres hrts ?_ ?_ ?_;rotate_left 2;(focus (simp only [Ze,Zg,seval,if_true,if_false,reduceCtorEq,Nat.reduceEqDiff];with_reducible rfl));(focus simp);focus (first|with_reducible rfl|(simp only [Zv];done)))
end
end Go.Proofs.YtedgfkpfhonlpaaGreat
