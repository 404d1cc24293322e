/- Lemmas (12). -/
import Derived.Test.YtedgfkpfhonlpaaGreatZD1
import Derived.Test.YtedgfkpfhonlpaaGreatZD8
import Derived.Test.YtedgfkpfhonlpaaGreatZD9
import Derived.Test.YtedgfkpfhonlpaaGreatZD10
import Derived.Test.YtedgfkpfhonlpaaGreatZD11
set_option maxHeartbeats 16000000
set_option maxRecDepth 100000
set_option linter.unusedSimpArgs false
set_option linter.unusedVariables false
namespace Go.Proofs.YtedgfkpfhonlpaaGreat
open Go.RowKit
section
def codLLL:Cod (List (List (List Int))):=codS 1 codLL
theorem codLLL_d (f g:List (List Int)):codLLL.d [.sl 1 [[.sl 1 (f.map eL)],[.sl 1 (g.map eL)]]] = some [f,g]:=codLLL.de [f,g]
def cat2:List (List (List Int))→Option (List Res)
 | [f,g] => if SmF f∧SmF g then some [.val (.sl 1 ((f ++ g).map eL))] else none
 | _ => none
theorem cat2_eq (f g:List (List Int)):cat2 [f,g] = if SmF f∧SmF g then some [.val (.sl 1 ((f ++ g).map eL))] else none:=rfl
noncomputable def TCat:Tab Tryz.prog :=
 Tab.none.add 123 (tab1 codLLL cat2) (xY fun bs rs h => by
  unfold cat2 at h
  split at h
  ·rename_i f g
   split at h
   ·rename_i hs
    cases h
    have hc:=AFn.val1 (yL0 [f,g] (by simp [cntL];have:=hs.1.1;have:=hs.2.1;omega) (by simp))
    simp only [List.flatten_cons,List.flatten_nil,List.append_nil] at hc
    exact hc
   ·cases h
  ·cases h)
theorem a_branchesOf (t:List Int) (h:qY t) (hl:t.length ≤ 1000):AFn Tryz.prog 103 [eL t] (· = [.own 1 ((brs t).map eL) true]) :=
 afn_L_oo (enters_of Tryz.func103 rfl rfl) (fun u w h' => jO0 u t w h' h (by omega))
theorem foldS_snoc (A:List Spl) (Ls:List (List Spl)) (L:List Spl):foldS A (Ls ++ [L]) = (foldS A Ls).flatMap fun s => L.map (catS s):=by unfold foldS;rw [List.foldl_append];rfl
theorem flatS_len (A L:List Spl):(A.flatMap fun s => L.map (catS s)).length = A.length * L.length:=by
 induction A with
 | nil => simp
 | cons a A ih => rw [List.flatMap_cons,List.length_append,ih,List.length_map,List.length_cons,Nat.succ_mul,Nat.add_comm]
theorem a_splitTree:∀ (n:Nat),n ≤ 8→∀ t:List Int,qY t→t.length ≤ n→AFn Tryz.prog 117 [eL t] (· = [.own 3 ((split t).map eS0) false])
 | 0,_,t,h,hn => by have:=h.pos;omega
 | n + 1,hn8,t,h,hn => by
  have hsb:=kX h
  have hlev:=jK h
  have hbr:=AFn.valT (a_branchesOf t h (by omega))
  have hbl:(brs t).length ≤ 8:=by have:=brs_few h;omega
  have hca:=AFn.valT (yA0 t h (by omega))
  simp only [eL,eLL] at hbr hca
  have hAg:∀ k,(∀ s ∈ prodS (((brs t).take k).map split),yP (qQ ((brs t).take k)) s)∧(prodS (((brs t).take k).map split)).length ≤ 256∧qQ ((brs t).take k) ≤ 7:=fun k => by
   have h1:=sumLen_take' (brs t) k
   exact ⟨wU (mem_take hlev),prod_len (mem_take hlev) (by omega),by omega⟩
  rw [kI h]
  refine AFn.of_runs (qX 80) Tryz.func117 rfl rfl rfl gz ?_
  have hres:Tryz.f117.results.toList = [.tmp 2]:=rfl
  have hrts:Tryz.f117.resultTypes.toList = [33]:=rfl
  simp only [qK,qD,eL,eI,eLL,eB,Nat.zero_add,Nat.reduceAdd]
  intro M
  refine qJ.of ?_
  refine gw103 ?_
  refine qJ.loop (β:=Nat) (γ:=Unit) (fun k => ⟨[(0,.c (.val (.sl 1 (t.map eI)))),(3,.c (.own 3 (prodS (((brs t).take k).map split)).length)),(16,.c (.val (.sl 1 ((brs t).map eL)))),(17,.c (.val (.int (brs t).length))),(18,.c (.val (.int k)))],[(3,.row 3 ((prodS (((brs t).take k).map split)).map eS0) false)]⟩) (fun k => k ≤ (brs t).length) (fun k => (brs t).length - k)
   (fun _ => ⟨[(0,.c (.val (.sl 1 (t.map eI)))),(3,.c (.own 3 (prodS ((brs t).map split)).length))],[(3,.row 3 ((prodS ((brs t).map split)).map eS0) false)]⟩) (fun _ => True) 0 (Nat.zero_le _) ?_ ?_ ?_
  ·exact gw104 (show prodS [] = [([],[])] from rfl)
  ·intro k hk
   have hk:k ≤ (brs t).length:=hk
   have hwk:=qL (n:=k) (by omega)
   obtain ⟨g1,g2,g3⟩:=hAg k
   by_cases hkb:k < (brs t).length
   ·have i1:((k:Int) < ((brs t).length:Int)) = True:=eq_true (by omega)
    have i2:((0:Int) ≤ (k:Int)) = True:=eq_true (by omega)
    obtain ⟨b,hb⟩:∃ b,b = (brs t)[k]:=⟨_,rfl⟩
    have hbm:b ∈ brs t:=by rw [hb];exact List.getElem_mem _
    have hg:((brs t).map eL)[k]? = some [.sl 1 (b.map eI)]:=by rw [qI hkb,hb];rfl
    have hle:((brs t).map eL).length = (brs t).length:=List.length_map _
    have hblen:=yC h b hbm
    have hih:=AFn.val1 (a_splitTree n (by omega) b (hlev b hbm) (by omega))
    have hgB:=xR _ (Nat.le_refl _) (hlev b hbm)
    have hlB:(split b).length ≤ 256:=by
     have h1:=xS _ (Nat.le_refl _) (hlev b hbm)
     have h2:2 ^ b.length ≤ 2 ^ 8:=Nat.pow_le_pow_right (by decide) (by omega)
     omega
    have htk:prodS (((brs t).take (k + 1)).map split) = (prodS (((brs t).take k).map split)).flatMap fun s => (split b).map (catS s):=by
     rw [hb,List.take_succ_eq_append_getElem hkb,List.map_append];exact foldS_snoc _ _ _
    have hn2:(prodS (((brs t).take (k + 1)).map split)).length ≤ 256:=(hAg (k + 1)).2.1
    obtain ⟨A,hA⟩:∃ A,A = prodS (((brs t).take k).map split):=⟨_,rfl⟩
    obtain ⟨B,hB⟩:∃ B,B = split b:=⟨_,rfl⟩
    rw [← hA] at g1 g2 htk ⊢
    rw [← hB] at hih hgB hlB htk
    rw [htk] at hn2
    simp only [eL] at hih
    have hsA:∀ s ∈ A,SmS s:=fun s hs => ((g1 s hs).ha (by omega)).sm
    have hsB:∀ s ∈ B,SmS s:=fun s hs => ((hgB s hs).ha (by omega)).sm
    have hAl:(A.map eS0).length = A.length:=List.length_map _
    refine gw105 (Y4 i1 i2 hg hle) ?_
    refine qJ.loop (β:=Nat) (γ:=Unit) (fun i => ⟨[(0,.c (.val (.sl 1 (t.map eI)))),(3,.c (.own 3 A.length)),(5,.c (.val (.sl 1 (b.map eI)))),(6,.c (.own 6 ((A.take i).flatMap fun s => B.map (catS s)).length)),(16,.c (.val (.sl 1 ((brs t).map eL)))),(17,.c (.val (.int (brs t).length))),(18,.c (.val (.int k))),(23,.c (.own 3 A.length)),(24,.c (.val (.int A.length))),(25,.c (.val (.int i)))],
      [(3,.row 3 (A.map eS0) false),(6,.row 3 (((A.take i).flatMap fun s => B.map (catS s)).map eS0) false)]⟩) (fun i => i ≤ A.length) (fun i => A.length - i)
     (fun _ => ⟨[(0,.c (.val (.sl 1 (t.map eI)))),(6,.c (.own 6 (A.flatMap fun s => B.map (catS s)).length)),(16,.c (.val (.sl 1 ((brs t).map eL)))),(17,.c (.val (.int (brs t).length))),(18,.c (.val (.int k)))],[(6,.row 3 ((A.flatMap fun s => B.map (catS s)).map eS0) false)]⟩) (fun _ => True) 0 (Nat.zero_le _) ?_ ?_ ?_
    ·exact gw106
    ·intro i hi
     have hi:i ≤ A.length:=hi
     have hwi:=qL (n:=i) (by omega)
     by_cases hiA:i < A.length
     ·have j1:((i:Int) < (A.length:Int)) = True:=eq_true (by omega)
      have j2:((0:Int) ≤ (i:Int)) = True:=eq_true (by omega)
      obtain ⟨s,hs⟩:∃ s,s = A[i]:=⟨_,rfl⟩
      have hsm:=hsA A[i] (List.getElem_mem _)
      have hgs:(A.map eS0)[i]? = some [.sl 1 (s.1.map eL),.sl 1 (s.2.map eL),.int 0]:=by rw [qI hiA,hs];rfl
      have htkA:(A.take (i + 1)).flatMap (fun s => B.map (catS s)) = ((A.take i).flatMap fun s => B.map (catS s)) ++ B.map (catS s):=by
       rw [hs,List.take_succ_eq_append_getElem hiA,List.flatMap_append];simp
      have hXl:((A.take i).flatMap fun s => B.map (catS s)).length + B.length ≤ 256:=by
       rw [flatS_len] at hn2 ⊢
       rw [List.length_take,Nat.min_eq_left hi]
       have:(i + 1) * B.length ≤ A.length * B.length:=Nat.mul_le_mul_right _ hiA
       rw [Nat.succ_mul] at this;omega
      rw [← hs] at hsm
      obtain ⟨X,hX⟩:∃ X,X = (A.take i).flatMap fun s => B.map (catS s):=⟨_,rfl⟩
      rw [← hX] at htkA hXl ⊢
      have hBl:(B.map eS0).length = B.length:=List.length_map _
      refine gw107 (Y5 j1 j2 hgs hAl hBl) ?_
      refine qJ.loop (β:=Nat) (γ:=Unit) (fun j => ⟨[(0,.c (.val (.sl 1 (t.map eI)))),(3,.c (.own 3 A.length)),(5,.c (.val (.sl 1 (b.map eI)))),(6,.c (.own 6 (X ++ (B.take j).map (catS s)).length)),(8,.optr 8 0 0),(16,.c (.val (.sl 1 ((brs t).map eL)))),(17,.c (.val (.int (brs t).length))),(18,.c (.val (.int k))),(23,.c (.own 3 A.length)),(24,.c (.val (.int A.length))),(25,.c (.val (.int i))),(30,.c (.val (.sl 3 (B.map eS0)))),(31,.c (.val (.int B.length))),(32,.c (.val (.int j)))],
        [(3,.row 3 (A.map eS0) false),(6,.row 3 ((X ++ (B.take j).map (catS s)).map eS0) false),(8,.row 3 [[.sl 1 (s.1.map eL),.sl 1 (s.2.map eL),.int 0]] false)]⟩) (fun j => j ≤ B.length) (fun j => B.length - j)
       (fun _ => ⟨[(0,.c (.val (.sl 1 (t.map eI)))),(3,.c (.own 3 A.length)),(5,.c (.val (.sl 1 (b.map eI)))),(6,.c (.own 6 (X ++ B.map (catS s)).length)),(16,.c (.val (.sl 1 ((brs t).map eL)))),(17,.c (.val (.int (brs t).length))),(18,.c (.val (.int k))),(23,.c (.own 3 A.length)),(24,.c (.val (.int A.length))),(25,.c (.val (.int i)))],
        [(3,.row 3 (A.map eS0) false),(6,.row 3 ((X ++ B.map (catS s)).map eS0) false)]⟩) (fun _ => True) 0 (Nat.zero_le _) ?_ ?_ ?_
      ·exact gw46
      ·intro j hj
       have hj:j ≤ B.length:=hj
       have hwj:=qL (n:=j) (by omega)
       by_cases hjB:j < B.length
       ·have l1:((j:Int) < (B.length:Int)) = True:=eq_true (by omega)
        have l2:((0:Int) ≤ (j:Int)) = True:=eq_true (by omega)
        obtain ⟨c,hc⟩:∃ c,c = B[j]:=⟨_,rfl⟩
        have hcm:=hsB B[j] (List.getElem_mem _)
        have hgc:(B.map eS0)[j]? = some [.sl 1 (c.1.map eL),.sl 1 (c.2.map eL),.int 0]:=by rw [qI hjB,hc];rfl
        have htkB:X ++ (B.take (j + 1)).map (catS s) = (X ++ (B.take j).map (catS s)) ++ [catS s c]:=by
         rw [hc,List.take_succ_eq_append_getElem hjB,List.map_append,List.append_assoc];rfl
        rw [← hc] at hcm
        have hYl:(X ++ (B.take j).map (catS s)).length ≤ 256:=by rw [List.length_append,List.length_map,List.length_take];omega
        obtain ⟨Y,hY⟩:∃ Y,Y = X ++ (B.take j).map (catS s):=⟨_,rfl⟩
        rw [← hY] at htkB hYl ⊢
        have q1:=yJ (n:=Y.length + 1) (by omega)
        have q2:=yY (n:=Y.length + 1) (c:=56) (by omega) (by omega)
        have hYm:(Y.map eS0).length = Y.length:=List.length_map _
        have e1:=eq_true (And.intro hsm.1 hcm.1)
        have e2:=eq_true (And.intro hsm.2 hcm.2)
        refine gw108 (Y4 l1 l2 hgc hBl) ?_
        (((with_reducible refine qJ.wFz (qX 80) TCat qU [41,47] (tr:=?_) (s1:=?_) (rest:=?_) ?_ ?_ ?_);rotate_left 3;(focus ((with_reducible refine QW ?_);simp only [Zg,Zd,Zi,seval,reduceCtorEq,Nat.reduceEqDiff,drunF,devalF,devalB,valD,wY,List.contains_cons,List.contains_nil,TCat,TCat,codLLL_d,cat2_eq,e1,e2,q1,q2,hYm];with_reducible rfl));focus ((with_reducible refine QK ?_);simp only [Zk];kernel_rfl));(refine qW.opsT (qX 80) (T:=TCat) (s':=?_) ?_ ?_;rotate_left 1;focus (simp only [Zg,Zi,seval,reduceCtorEq,Nat.reduceEqDiff,TCat,TCat,codLLL_d,cat2_eq,e1,e2,q1,q2,hYm];with_reducible rfl)))
        refine gw109 hwj ?_
        refine qV.on (j + 1) ⟨hjB,by omega⟩ ?_
        rw [htkB]
        exact gw110
       ·have l1:((j:Int) < (B.length:Int)) = False:=eq_false (by omega)
        obtain rfl:j = B.length:=by omega
        rw [List.take_length]
        refine gw109 l1 ?_
        refine qV.out () trivial ?_
        exact gw6 Y0
      ·rintro _ _
       refine gw109 hwi ?_
       refine qV.on (i + 1) ⟨hiA,by omega⟩ ?_
       rw [htkA]
       exact gw6 Y0
     ·have j1:((i:Int) < (A.length:Int)) = False:=eq_false (by omega)
      obtain rfl:i = A.length:=by omega
      rw [List.take_length]
      refine gw109 j1 ?_
      refine qV.out () trivial ?_
      exact gw6 Y0
    ·rintro _ _
     refine gw109 hwk ?_
     refine qV.on (k + 1) ⟨hkb,by omega⟩ ?_
     rw [htk]
     exact gw6 Y0
   ·have i1:((k:Int) < ((brs t).length:Int)) = False:=eq_false (by omega)
    obtain rfl:k = (brs t).length:=by omega
    rw [List.take_length]
    refine gw109 i1 ?_
    refine qV.out () trivial ?_
    exact gw6 Y0
  ·rintro _ _
   have g1:=wU hlev
   have g2:=prod_len hlev (by omega)
   obtain ⟨A,hA⟩:∃ A,A = prodS ((brs t).map split):=⟨_,rfl⟩
   rw [← hA] at g1 g2 ⊢
   refine gw109 Y0 ?_
   refine qJ.loop (β:=Nat) (γ:=Unit) (fun i => ⟨[(0,.c (.val (.sl 1 (t.map eI)))),(3,.c (.own 3 A.length)),(56,.c (.own 3 A.length)),(57,.c (.val (.int A.length))),(58,.c (.val (.int i)))],[(3,.row 3 ((A.take i).map (fun s => eS0 (rootS s)) ++ (A.drop i).map eS0) false)]⟩) (fun i => i ≤ A.length) (fun i => A.length - i)
    (fun _ => ⟨[(0,.c (.val (.sl 1 (t.map eI)))),(3,.c (.own 3 A.length))],[(3,.row 3 (A.map fun s => eS0 (rootS s)) false)]⟩) (fun _ => True) 0 (Nat.zero_le _) ?_ ?_ ?_
   ·exact gw111
   ·intro i hi
    have hi:i ≤ A.length:=hi
    have hwi:=qL (n:=i) (by omega)
    have hrl:((A.take i).map (fun s => eS0 (rootS s)) ++ (A.drop i).map eS0).length = A.length:=by rw [List.length_append,List.length_map,List.length_map,List.length_take,List.length_drop];omega
    by_cases hiA:i < A.length
    ·have j1:((i:Int) < (A.length:Int)) = True:=eq_true (by omega)
     have j2:((0:Int) ≤ (i:Int)) = True:=eq_true (by omega)
     obtain ⟨s,hs⟩:∃ s,s = A[i]:=⟨_,rfl⟩
     have hgood:=g1 A[i] (List.getElem_mem _)
     have hdr:A.drop i = s :: A.drop (i + 1):=by rw [hs];exact List.drop_eq_getElem_cons hiA
     have hti:((A.take i).map fun s => eS0 (rootS s)).length = i:=by rw [List.length_map,List.length_take];omega
     have hgs:((A.take i).map (fun s => eS0 (rootS s)) ++ (A.drop i).map eS0)[i]? = some [.sl 1 (s.1.map eL),.sl 1 (s.2.map eL),.int 0]:=by
      rw [List.getElem?_append_right (by omega),hti,Nat.sub_self,hdr];rfl
     rw [← hs] at hgood
     have hlv:∀ b ∈ s.2,qY b:=fun b hb => (hgood.1 b (by simp [hb])).1
     have hsum:=hgood.2
     have hro:=AFn.valT (a_rootOn s.2 (fun b hb => (hlv b hb).small (by have:=jF hb;omega)) (by omega))
     have hcr:=AFn.valT (yA0 (qA s.2) (kE hlv) (by rw [xI];omega))
     simp only [eL,eLL] at hro hcr
     refine gw112 (Y5 j1 j2 hgs hrl hwi) ?_
     have hset:((A.take i).map (fun s => eS0 (rootS s)) ++ (A.drop i).map eS0).set i [.sl 1 (s.1.map eL),.sl 1 [[.sl 1 ((canon (qA s.2)).map eI)]],.int 0] = (A.take (i + 1)).map (fun s => eS0 (rootS s)) ++ (A.drop (i + 1)).map eS0:=by
      rw [List.set_append_right _ _ (by omega),hti,Nat.sub_self,hdr,List.map_cons,List.set_cons_zero,List.take_succ_eq_append_getElem hiA,List.map_append,List.append_assoc,← hs]
      rfl
     refine qV.on (i + 1) ⟨hiA,by omega⟩ ?_
     rw [← hset]
     exact gw6 Y0
    ·have j1:((i:Int) < (A.length:Int)) = False:=eq_false (by omega)
     obtain rfl:i = A.length:=by omega
     have hd0:A.drop A.length = []:=List.drop_length
     refine gw109 j1 ?_
     refine qV.out () trivial ?_
     rw [List.take_length,hd0,List.map_nil,List.append_nil]
     exact gw6 Y0
   ·rintro _ _
    have q1:=yJ (n:=A.length + 1) (by omega)
    have q2:=yY (n:=A.length + 1) (c:=56) (by omega) (by omega)
    have hml:(A.map fun s => eS0 (rootS s)).length = A.length:=List.length_map _
    refine gw113 (Y3 q1 q2 hml) ?_
    exact gw114
end
section
section
variable {α:Type} (f g:α→List (List D)) (n:α→Int)
def e3 (x:α):List D:=[.sl 1 (f x),.sl 1 (g x),.int (n x)]
def e3T (q:α × (List Nat × List Nat)):List D:=[.tag q.2.1 (.sl 1 (f q.1)),.tag q.2.2 (.sl 1 (g q.1)),.int (n q.1)]
def bl3 (q:α × (List Nat × List Nat)):List Nat:=q.2.1 ++ q.2.2
theorem tag_mk3:∀ (zs:List (α × (List Nat × List Nat))),TagL ((zs.map (·.1)).map (e3 f g n)) (zs.map (e3T f g n)) ((zs.map bl3).flatten)
 | [] => ⟨rfl,rfl⟩
 | z :: zs => ⟨_,_,bl3 z,_,rfl,rfl,⟨_,_,z.2.1,z.2.2,rfl,rfl,.inl rfl,⟨_,_,z.2.2,[],rfl,(List.append_nil _).symm,.inl rfl,⟨_,[],[],[],rfl,rfl,.inr ⟨rfl,rfl,rfl⟩,rfl,rfl⟩⟩⟩,tag_mk3 zs⟩
theorem tag_rows3:∀ {L:List α} {xs':List (List D)} {F:List Nat},TagL (L.map (e3 f g n)) xs' F→kG (L.map (e3 f g n)) xs'→∃ zs:List (α × (List Nat × List Nat)),L = zs.map (·.1)∧xs' = zs.map (e3T f g n)∧F = (zs.map bl3).flatten
 | [],xs',F,⟨h1,h2⟩,_ => ⟨[],rfl,h1,h2⟩
 | p :: L,xs',F,⟨y,ys,G,H,h1,h2,h3,h4⟩,⟨y',ys',p1,p2,p3⟩ => by
  obtain ⟨e1,e2⟩:y = y'∧ys = ys':=by rw [h1] at p1;simpa using p1
  subst e1;subst e2
  obtain ⟨zs,e1,e2,e3'⟩:=tag_rows3 h4 p3
  obtain ⟨y0,ys0,G0,H0,k1,k2,k3,y1,ys1,G1,H1,k4,k5,k6,y2,ys2,G2,H2,m4,m5,m6,m7,m8⟩:=h3
  obtain ⟨x0,xs0,a1,_,x1,xs1,a2,_,x2,xs2,a3,a4,_⟩:=p2
  obtain ⟨b1,b2⟩:y0 = x0∧ys0 = xs0:=by rw [k1] at a1;simpa using a1
  subst b1;subst b2
  obtain ⟨b1,b2⟩:y1 = x1∧ys1 = xs1:=by rw [k4] at a2;simpa using a2
  subst b1;subst b2
  obtain ⟨b1,b2⟩:y2 = x2∧ys2 = xs2:=by rw [m4] at a3;simpa using a3
  subst b1;subst b2
  have hy2:=a4 rfl
  subst m7;subst m8
  have hG2:G2 = []:=by
   rcases m6 with m6|⟨_,_,m6⟩
   ·rw [m6] at hy2;cases hy2
   ·exact m6
  subst hG2;subst hy2
  rcases k3 with rfl|⟨k3,_⟩
  ·rcases k6 with rfl|⟨k6,_⟩
   ·exact ⟨(p,(G0,G1)) :: zs,by rw [e1];rfl,by rw [h1,k1,k4,m4,e2];rfl,by rw [h2,k2,k5,m5,e3'];simp [bl3]⟩
   ·cases k6
  ·cases k3
end
abbrev Cu:=(List (List Int) × List Int) × Int
def eCu:Cu→List D:=e3 (fun c:Cu => c.1.1.map eL) (fun c => c.1.2.map eI) (·.2)
def cutS (z:Spl × Int):Cu:=((z.1.1,z.1.2.headD []),z.2)
def cutsL (t:List Int):List Cu:=(gathS (split t)).map cutS
section
variable {P:Program} {cfg:Cfg} {M:Nat→Prop} {ops:Array Oper} {s:St} {w0:W0} {w:World} {Ok:Nat→Prop} {N:Nat} {σ:Asg} {a:Act} {fs:List Fr} {Q:Exit→St→Prop}
theorem qW.nilA {l:List Oper} {Q:St→Prop} {r k:Nat} {pre post:List AC} (hk:0 < k) (hr:look r s.regs = some (.agg (pre ++ .nil :: post)))
  (h:qW P cfg M ops l Q ⟨insR r (.agg (pre ++ .val (.tag [] (.sl k [])) :: post)) s.regs,s.heap⟩):qW P cfg M ops l Q s:=by
 intro w0 Ok σ a w Q' hM hS hQ
 refine h w0 Ok σ a w Q' hM ⟨hS.below,hS.ok1,hS.ok2,hS.defers,hS.size,fun q av hq => ?_,hS.rows,hS.disj,hS.inv,hS.hid⟩ hQ
 rw [jV] at hq
 by_cases e:r = q
 ·rw [if_pos e] at hq
  subst e
  cases hq
  obtain ⟨us,hv1,hv2⟩:=hS.regs r _ hr
  refine ⟨us,hv1,relCs_repl hv2 (fun v _ hn => ?_)⟩
  have hn:v = .slice none 0 0:=hn
  subst hn
  exact xM.2 ⟨by simp,kV.2 ⟨none,[],[],Row.nil _ k,ownR.nil hk,rfl⟩⟩
 ·rw [if_neg e] at hq
  exact hS.regs q av hq
theorem qW.openR {l:List Oper} {Q:St→Prop} {r k:Nat} {G:List Nat} {xs:List (List D)} (hr:look r s.regs = some (.c (.val (.tag G (.sl k xs)))))
  (h:∀ xs' F,TagL xs xs' F→kG xs xs'→F.Sublist G→qW P cfg M ops l Q ⟨insR r (.c (.val (.sl k xs'))) s.regs,s.heap⟩):qW P cfg M ops l Q s:=by
 intro w0 Ok σ a w Q' hM hS hQ
 obtain ⟨xs',F,h1,h2,h3,h4⟩:=hS.openR hr
 exact h xs' F h1 h2 h3 w0 Ok σ a w Q' hM h4 hQ
end
theorem tag_one {t:List Int} {xs':List (List D)} {F:List Nat} (h:TagL [[.sl 1 (t.map eI)]] xs' F):xs' = [[.tag F (.sl 1 (t.map eI))]]:=by
 obtain ⟨y,ys,G,H,h1,h2,⟨y0,ys0,G0,H0,k1,k2,k3,k4,k5⟩,h3,h4⟩:=h
 subst h3;subst h4;subst k4;subst k5
 rcases k3 with rfl|⟨k3,_⟩
 ·rw [h1,k1,h2,k2];simp
 ·cases k3
theorem split_trunk (t:List Int) (h:qY t):∀ s ∈ split t,s.2.length ≤ 1:=fun s hs => by
 rw [kI h] at hs
 rcases List.mem_append.1 hs with hs|hs
 ·obtain ⟨a,_,rfl⟩:=List.mem_map.1 hs
  exact Nat.le_refl _
 ·obtain rfl:=List.mem_singleton.1 hs
  exact Nat.zero_le _
theorem qH0 (t:List Int) (h:qY t):∀ z ∈ gathS (split t),z.1.2.length ≤ 1:=fun z hz => by
 obtain ⟨s,hs,e⟩:=List.mem_map.1 ((yV (split t)).key z hz)
 rw [← e]
 show (sortC cmpT s.2).length ≤ 1
 rw [kO];exact split_trunk t h s hs
theorem a_cutsOf (t:List Int) (h:qY t) (hl:t.length ≤ 8):AFn Tryz.prog 58 [eL t] (· = [.own 3 ((cutsL t).map eCu) true]):=by
 have hsp:=a_splitTree 8 (Nat.le_refl _) t h hl
 have hlen:(split t).length ≤ 256:=by
  have h1:=xS _ (Nat.le_refl _) h
  have h2:2 ^ t.length ≤ 2 ^ 8:=Nat.pow_le_pow_right (by decide) hl
  omega
 have hga:=a_gathered (split t) (by omega) (fun s hs => ((xR _ (Nat.le_refl _) h s hs).ha (by omega)).sm)
 have hgl:(gathS (split t)).length ≤ 256:=by have:=(yV (split t)).len;rw [List.length_map] at this;omega
 have htr:=qH0 t h
 obtain ⟨L,hL⟩:∃ L,L = gathS (split t):=⟨_,rfl⟩
 have hcl:cutsL t = L.map cutS:=by rw [hL];rfl
 rw [hcl]
 rw [← hL] at hga hgl htr
 simp only [eL] at hsp
 refine AFn.of_runs (qX 36) Tryz.func58 rfl rfl rfl gz ?_
 have hres:Tryz.f58.results.toList = [.tmp 2]:=rfl
 have hrts:Tryz.f58.resultTypes.toList = [29]:=rfl
 simp only [qK,qD,eL,eI,eLL,eB,Nat.zero_add,Nat.reduceAdd]
 intro M
 refine qJ.of ?_
 refine gw115 ?_
 refine qJ.tag' 10 (k:=3) (xs:=L.map eSp) rfl ?_
 intro xs' F ht hpl hnd hF
 obtain ⟨zs,e1,e2,e3'⟩:=tag_rows3 _ _ _ ht hpl
 subst e2;subst e3'
 have hzl:zs.length = L.length:=by rw [e1,List.length_map]
 refine qJ.loop (β:=Nat × List (Cu × (List Nat × List Nat))) (γ:=List (Cu × (List Nat × List Nat))) (fun x => ⟨[(3,.c (.own 3 x.2.length)),(10,.c (.own 10 L.length)),(11,.c (.val (.int L.length))),(12,.c (.val (.int x.1)))],[(3,.row 3 (x.2.map (e3T (fun c:Cu => c.1.1.map eL) (fun c => c.1.2.map eI) (·.2))) false),(10,.row 3 (zs.map (e3T (fun z:Spl × Int => z.1.1.map eL) (fun z => z.1.2.map eL) (·.2))) false)]⟩)
  (fun x => x.1 ≤ L.length∧x.2.map (fun q => q.1) = (L.take x.1).map cutS∧((x.2.map bl3).flatten).Sublist ((zs.take x.1).map bl3).flatten) (fun x => L.length - x.1)
  (fun qs => ⟨[(3,.c (.own 3 qs.length))],[(3,.row 3 (qs.map (e3T (fun c:Cu => c.1.1.map eL) (fun c => c.1.2.map eI) (·.2))) false)]⟩) (fun qs => qs.map (fun q => q.1) = L.map cutS∧((qs.map bl3).flatten).Sublist (zs.map bl3).flatten) (0,[]) ⟨Nat.zero_le _,rfl,List.Sublist.refl _⟩ ?_ ?_ ?_
 ·exact gw93
 ·rintro ⟨i,qs⟩ ⟨hi,hq,hsub⟩
  simp only at hi hq hsub ⊢
  have hw:=qL (n:=i) (by omega)
  have hqn:qs.length = i:=by
   have:=congrArg List.length hq
   rw [List.length_map,List.length_map,List.length_take] at this;omega
  have hzm:(zs.map (e3T (fun z:Spl × Int => z.1.1.map eL) (fun z => z.1.2.map eL) (·.2))).length = L.length:=by rw [List.length_map,hzl]
  by_cases hiL:i < L.length
  ·have hiz:i < zs.length:=by omega
   have i1:((i:Int) < (L.length:Int)) = True:=eq_true (by omega)
   have i2:((0:Int) ≤ (i:Int)) = True:=eq_true (by omega)
   obtain ⟨z,hz⟩:∃ z,z = zs[i]:=⟨_,rfl⟩
   have hLi:L[i] = z.1:=by simp only [e1,List.getElem_map,hz]
   have hg:(zs.map (e3T (fun z:Spl × Int => z.1.1.map eL) (fun z => z.1.2.map eL) (·.2)))[i]? = some (e3T (fun z:Spl × Int => z.1.1.map eL) (fun z => z.1.2.map eL) (·.2) z):=by rw [qI hiz,hz]
   have hone:=htr L[i] (List.getElem_mem _)
   have htkz:(zs.take (i + 1)).map bl3 = (zs.take i).map bl3 ++ [bl3 z]:=by rw [List.take_succ_eq_append_getElem hiz,List.map_append,← hz];rfl
   have htkL:(L.take (i + 1)).map cutS = (L.take i).map cutS ++ [cutS z.1]:=by rw [List.take_succ_eq_append_getElem hiL,List.map_append,hLi];rfl
   rw [hLi] at hone
   obtain ⟨⟨⟨f,g⟩,n⟩,⟨F,G⟩⟩:=z
   simp only [e3T] at hg
   simp only at hone
   have q1:=yJ (n:=qs.length + 1) (by omega)
   have q2:=yY (n:=qs.length + 1) (c:=56) (by omega) (by omega)
   match g,hone with
   | [],_ =>
    have j1:((([]:List (List Int)).length:Int) > 0) = False:=eq_false (by simp)
    ((refine gw116 i1 ?_);with_reducible (apply QS (qX 36) Tab.none;refine QW ?_;simp only [Zg,Zi,seval,reduceCtorEq,Nat.reduceEqDiff,i1];rfl);(refine gw116 i1 ?_))
    ((refine gw117 (Y4 i1 i2 hg hzm) ?_);with_reducible (apply QS (qX 36) Tab.none;refine QW ?_;simp only [Zg,Zi,seval,reduceCtorEq,Nat.reduceEqDiff,i1,i2,hg,hzm,Int.toNat_natCast];rfl);(refine gw117 (Y4 i1 i2 hg hzm) ?_))
    refine qJ.regCut (qX 36) Tab.none 5 (s1:=?_) ?_ ?_
    rotate_left 1
    focus (refine Work.mk ?_;simp only [Zg,Zi,seval,reduceCtorEq,Nat.reduceEqDiff];with_reducible rfl)
    simp only [List.toList_toArray,List.drop_succ_cons,List.drop_zero]
    refine qW.nilA (r:=20) (k:=1) (pre:=[.val (.tag F (.sl 1 (f.map eL)))]) (post:=[.val (.int n)]) (by decide) rfl ?_
    refine qW.opsT (qX 36) (T:=Tab.none) (s':=?_) ?_ ?_
    rotate_left 1
    focus (simp only [Zg,Zi,seval,reduceCtorEq,Nat.reduceEqDiff];with_reducible rfl)
    refine gw118 (Y4 j1 hw q1 q2) ?_
    refine qV.on (i + 1,qs ++ [(((f,[]),n),(F,[]))]) ⟨⟨hiL,?_,?_⟩,by show L.length - (i + 1) < L.length - i;omega⟩ ?_
    ·show List.map (fun q:Cu × (List Nat × List Nat) => q.1) (qs ++ [(((f,[]),n),(F,[]))]) = _
     rw [List.map_append,hq,htkL];rfl
    ·show (((qs ++ [(((f,[]),n),(F,[]))]).map bl3).flatten).Sublist _
     rw [htkz,List.map_append,List.flatten_append,List.flatten_append]
     refine List.Sublist.append hsub ?_
     simp [bl3]
    ·exact gw119
   | [tr],_ =>
    have j1:((([tr]:List (List Int)).length:Int) > 0) = True:=eq_true (by simp)
    ((refine gw116 i1 ?_);with_reducible (apply QS (qX 36) Tab.none;refine QW ?_;simp only [Zg,Zi,seval,reduceCtorEq,Nat.reduceEqDiff,i1];rfl);(refine gw116 i1 ?_))
    ((refine gw117 (Y4 i1 i2 hg hzm) ?_);with_reducible (apply QS (qX 36) Tab.none;refine QW ?_;simp only [Zg,Zi,seval,reduceCtorEq,Nat.reduceEqDiff,i1,i2,hg,hzm,Int.toNat_natCast];rfl);(refine gw117 (Y4 i1 i2 hg hzm) ?_))
    ((refine gw116 Y0 ?_);with_reducible (apply QS (qX 36) Tab.none;refine QW ?_;simp only [Zg,Zi,seval,reduceCtorEq,Nat.reduceEqDiff];rfl);(refine gw116 Y0 ?_))
    ((refine gw120 j1 ?_);with_reducible (apply QS (qX 36) Tab.none;refine QW ?_;simp only [Zg,Zi,seval,reduceCtorEq,Nat.reduceEqDiff,j1,List.length_map];rfl);(refine gw120 j1 ?_))
    refine qJ.regCut (qX 36) Tab.none 2 (s1:=?_) ?_ ?_
    rotate_left 1
    focus (refine Work.mk ?_;simp only [Zg,Zi,seval,reduceCtorEq,Nat.reduceEqDiff];with_reducible rfl)
    simp only [List.toList_toArray,List.drop_succ_cons,List.drop_zero]
    refine qW.openR (r:=26) (k:=1) (G:=G) (xs:=[tr].map eL) rfl ?_
    intro ys G' ht1 _ hG'
    have hys:=tag_one ht1
    subst hys
    refine qW.opsT (qX 36) (T:=Tab.none) (s':=?_) ?_ ?_
    rotate_left 1
    focus (simp only [Zg,Zi,seval,reduceCtorEq,Nat.reduceEqDiff,List.length_map];with_reducible rfl)
    refine gw121 (Y3 hw q1 q2) ?_
    refine qV.on (i + 1,qs ++ [(((f,tr),n),(F,G'))]) ⟨⟨hiL,?_,?_⟩,by show L.length - (i + 1) < L.length - i;omega⟩ ?_
    ·show List.map (fun q:Cu × (List Nat × List Nat) => q.1) (qs ++ [(((f,tr),n),(F,G'))]) = _
     rw [List.map_append,hq,htkL];rfl
    ·show (((qs ++ [(((f,tr),n),(F,G'))]).map bl3).flatten).Sublist _
     rw [htkz,List.map_append,List.flatten_append,List.flatten_append]
     refine List.Sublist.append hsub ?_
     simp only [bl3,List.map_cons,List.map_nil,List.flatten_cons,List.flatten_nil,List.append_nil]
     exact List.Sublist.append (List.Sublist.refl _) hG'
    ·exact gw119
  ·have i1:((i:Int) < (L.length:Int)) = False:=eq_false (by omega)
   obtain rfl:i = L.length:=by omega
   rw [List.take_length] at hq
   rw [← hzl,List.take_length] at hsub
   refine gw122 i1 ?_
   refine qV.out qs ⟨hq,hsub⟩ ?_
   exact gw6 Y0
 ·rintro qs ⟨hq,hsub⟩
  refine gw122 Y0 ?_
  refine Ends.un (by simp) hres hrts (r:=?_) (r':=.own 3 ((L.map cutS).map eCu) true) (l:=[]) (ks:=?_) ?_ ?_ (by simp) ?_ rfl
  rotate_left 2
  focus (simp only [jH,ares,Zg,Zi,seval,reduceCtorEq,Nat.reduceEqDiff];with_reducible rfl)
  focus simp
  rw [← hq]
  exact ⟨(qs.map bl3).flatten,hnd.sublist hsub,fun b hb => hF b (hsub.subset hb),.inl ⟨3,_,_,rfl,rfl,tag_mk3 _ _ _ qs⟩⟩
end
section
theorem a_l05Cuts (t:List Int) (h:qY t) (hc:canon t = t) (hl:t.length ≤ 8):AFn Tryz.prog 138 [eL t] (· = [.own 3 ((cutsL t).map eCu) false]):=by
 have htr:=a_l05Tree 8 (Nat.le_refl _) t h hc hl
 have hone:=qH0 t h
 have hgood:=vO (xR _ (Nat.le_refl _) h)
 have hgl:(gathS (split t)).length ≤ 256:=by
  have h0:=(yV (split t)).len
  rw [List.length_map] at h0
  have h1:=xS _ (Nat.le_refl _) h
  have h2:2 ^ t.length ≤ 2 ^ 8:=Nat.pow_le_pow_right (by decide) hl
  omega
 obtain ⟨L,hL⟩:∃ L,L = gathS (split t):=⟨_,rfl⟩
 have hcl:cutsL t = L.map cutS:=by rw [hL];rfl
 rw [hcl]
 rw [← hL] at htr hone hgood hgl
 simp only [eL] at htr
 have hLm:(L.map eSp).length = L.length:=List.length_map _
 refine AFn.of_runs (qX 49) Tryz.func138 rfl rfl rfl gz ?_
 have hres:Tryz.f138.results.toList = [.tmp 2]:=rfl
 have hrts:Tryz.f138.resultTypes.toList = [29]:=rfl
 simp only [qK,qD,eL,eI,eLL,eB,Nat.zero_add,Nat.reduceAdd]
 intro M
 refine qJ.of ?_
 refine gw123 ?_
 refine qJ.loop (β:=Nat) (γ:=Unit) (fun i => ⟨[(3,.c (.val (.sl 3 (L.map eSp)))),(4,.c (.own 4 i)),(5,.c (.val (.int i)))],[(4,.row 3 (((L.take i).map cutS).map eCu) false)]⟩) (fun i => i ≤ L.length) (fun i => L.length - i)
  (fun _ => ⟨[(4,.c (.own 4 L.length))],[(4,.row 3 ((L.map cutS).map eCu) false)]⟩) (fun _ => True) 0 (Nat.zero_le _) ?_ ?_ ?_
 ·exact gw44 Y0
 ·intro i hi
  have hi:i ≤ L.length:=hi
  have hw:=qL (n:=i) (by omega)
  have hrl:(((L.take i).map cutS).map eCu).length = i:=by rw [List.length_map,List.length_map,List.length_take];omega
  by_cases hiL:i < L.length
  ·have i1:((i:Int) < (L.length:Int)) = True:=eq_true (by omega)
   have i2:((0:Int) ≤ (i:Int)) = True:=eq_true (by omega)
   obtain ⟨z,hz⟩:∃ z,z = L[i]:=⟨_,rfl⟩
   have hg:(L.map eSp)[i]? = some [.sl 1 (z.1.1.map eL),.sl 1 (z.1.2.map eL),.int z.2]:=by rw [qI hiL,hz];rfl
   have htk:((L.take (i + 1)).map cutS).map eCu = ((L.take i).map cutS).map eCu ++ [eCu (cutS z)]:=by
    rw [hz,List.take_succ_eq_append_getElem hiL,List.map_append,List.map_append];rfl
   have hz1:=hone L[i] (List.getElem_mem _)
   have hz2:=(hgood L[i] (List.getElem_mem _)).2.2
   rw [← hz] at hz1 hz2
   have hha:=hz2.ha (by omega)
   have how:=AFn.val1 (qU0 z.1.1 (by have:=hha.1.1;omega) (fun b hb => by have:=jF hb;have:=hha.1.2;omega))
   have q1:=yJ (n:=i + 1) (by omega)
   have q2:=yY (n:=i + 1) (c:=56) (by omega) (by omega)
   obtain ⟨⟨f,g⟩,n⟩:=z
   simp only at hg hz1 how hha
   simp only [eLL] at how
   match g,hz1 with
   | [],_ =>
    have j1:((([]:List (List Int)).length:Int) > 0) = False:=eq_false (by simp)
    refine gw124 (Y9 i1 i2 j1 hg hLm hw hrl q1 q2) ?_
    refine qV.on (i + 1) ⟨hiL,by omega⟩ ?_
    rw [htk]
    exact gw125
   | [tr],_ =>
    have j1:((([tr]:List (List Int)).length:Int) > 0) = True:=eq_true (by simp)
    have hot:=AFn.valT (a_l01Own tr (by have h6:qQ [tr] ≤ 50:=hha.2.2;have h5:qQ [tr] = tr.length + 0:=rfl;omega))
    simp only [eL] at hot
    refine gw126 (Y9 i1 i2 j1 hg hLm hw hrl q1 q2) ?_
    refine qV.on (i + 1) ⟨hiL,by omega⟩ ?_
    rw [htk]
    exact gw127
  ·have i1:((i:Int) < (L.length:Int)) = False:=eq_false (by omega)
   obtain rfl:i = L.length:=by omega
   refine gw128 (Yp i1 hLm) ?_
   refine qV.out () trivial ?_
   rw [List.take_length]
   exact gw6 Y0
 ·rintro _ _
  refine gw128 Y0 ?_
  exact gw8
end
section
def brOf (t:List Int):List (List Int) × Int:=if lev8 t = true then (forest (brs (canon t)),0) else ([],1)
end
section
section
variable {κ:Type} {c:κ→κ→Int} (hc:Cmp c)
include hc
end
def wF (F:Spl→Int) (f:List (List Int)):Int:=((prodS (f.map split)).map fun s => F (nrmS s)).sum
theorem sum_perm {l m:List Int} (h:l.Perm m):l.sum = m.sum:=by
 induction h with
 | nil => rfl
 | cons q _ ih => rw [List.sum_cons,List.sum_cons,ih]
 | swap p q L => simp only [List.sum_cons];omega
 | trans _ _ h1 h2 => rw [h1,h2]
theorem exp_lin {κ:Type} (F:κ→Int):∀ (L:List (κ × Int)),(∀ z ∈ L,1 ≤ z.2)→((expN L).map F).sum = (L.map fun z => z.2 * F z.1).sum
 | [],_ => rfl
 | z :: L,h => by
  have hz:=h z (by simp)
  rw [jS,List.map_append,List.map_replicate,List.map_cons,List.sum_cons,← exp_lin F L fun q hq => h q (by simp [hq])]
  have e:∀ (n:Nat) (x:Int) (l:List Int),(List.replicate n x ++ l).sum = n * x + l.sum:=by
   intro n x l
   induction n with
   | zero => simp
   | succ n ih => rw [List.replicate_succ,List.cons_append,List.sum_cons,ih,Int.natCast_succ,Int.add_mul];omega
  rw [e,Int.toNat_of_nonneg (by omega)]
theorem gath_lin (F:Spl→Int) (L:List Spl):((gathS L).map fun z => z.2 * F z.1).sum = (L.map fun s => F (nrmS s)).sum:=by
 rw [← exp_lin F _ (yV L).1.2,sum_perm ((yV L).2.map F),List.map_map]
 rfl
def rtF (f:List (List Int)):List (List Int):=[canon (qA f)]
theorem wF_root (F:Spl→Int) {f:List (List Int)} (h:∀ b ∈ f,qY b):wF F (rtF f) = wF (fun s => F (rootS s)) f + F (rtF f,[]):=by
 have hl:=kE h
 have e1:prodS ((rtF f).map split) = split (canon (qA f)):=by
  show List.flatMap (fun s => (split (canon (qA f))).map (catS s)) [([],[])] = _
  rw [List.flatMap_cons,List.flatMap_nil,List.append_nil]
  have:catS (([],[]):Spl) = id:=by funext s;rfl
  rw [this,List.map_id]
 unfold wF
 rw [e1]
 have hp:=(split_canon _ (Nat.le_refl _) hl).map F
 rw [List.map_map,List.map_map] at hp
 have hp2:=sum_perm hp
 show ((split (canon (qA f))).map (F ∘ nrmS)).sum = _
 rw [hp2,kI hl,vK h,List.map_append,List.sum_append,List.map_map]
 have e2:((prodS (f.map split)).map ((F ∘ nrmS) ∘ fun s => (s.1,[canon (qA s.2)]))) = (prodS (f.map split)).map fun s => F (rootS (nrmS s)):=by
  refine List.map_congr_left fun s hs => ?_
  show F (nrmS (rootS s)) = _
  rw [nrm_root (vN h s hs)]
 rw [e2]
 congr 1
 show F (nrmS ([canon (qA f)],[])) + 0 = _
 rw [Int.add_zero];rfl
def OkF (g:List (List Int)):Prop:=(∀ t ∈ g,qY t∧canon t = t)∧g.Pairwise fun a b => cmpT a b ≤ 0
structure KoF (e:Elt) (list:List (Int × Spl)) (r:Elt) (whole:List (Int × Spl)):Prop where
 rl:r.length = e.length
 wl:whole.length = list.length + r.length
 all:∀ w ∈ whole,(w.2.2 = []∧∃ q ∈ r,q.1 = w.1∧q.2 = w.2.1) ∨ (∃ T,w.2.2 = [T]∧lev8 T = true∧∃ q ∈ list,q.1 = w.1∧q.2.1 = w.2.1∧q.2.2 = (brOf T).1)
end
section
theorem catS_assoc (a b d:Spl):catS (catS a b) d = catS a (catS b d):=by
 unfold catS
 simp only [List.append_assoc]
theorem foldS_from:∀ (Ls:List (List Spl)) (A:List Spl),foldS A Ls = A.flatMap fun s => (foldS [([],[])] Ls).map (catS s)
 | [],A => by
  show A = _
  have:∀ s:Spl,[(([],[]):Spl)].map (catS s) = [s]:=fun s => by
   show [catS s ([],[])] = _
   unfold catS;simp
  have e:(fun s:Spl => (foldS [([],[])] []).map (catS s)) = fun s => [s]:=by funext s;exact this s
  rw [e];simp
 | L :: Ls,A => by
  have h1:foldS A (L :: Ls) = foldS (A.flatMap fun s => L.map (catS s)) Ls:=rfl
  have h2:foldS [([],[])] (L :: Ls) = foldS ([(([],[]):Spl)].flatMap fun s => L.map (catS s)) Ls:=rfl
  have h3:([(([],[]):Spl)].flatMap fun s => L.map (catS s)) = L:=by
   rw [List.flatMap_cons,List.flatMap_nil,List.append_nil]
   have:catS (([],[]):Spl) = id:=by funext s;rfl
   rw [this,List.map_id]
  rw [h1,h2,h3,foldS_from Ls (A.flatMap fun s => L.map (catS s)),foldS_from Ls L,List.flatMap_assoc]
  congr 1
  funext s
  rw [List.flatMap_map,List.map_flatMap]
  congr 1
  funext c
  rw [List.map_map]
  exact List.map_congr_left fun d _ => catS_assoc s c d
theorem sum_flatM {α:Type} (g:α→List Int):∀ (L:List α),(L.flatMap g).sum = (L.map fun a => (g a).sum).sum
 | [] => rfl
 | a :: L => by rw [List.flatMap_cons,List.sum_append,sum_flatM g L,List.map_cons,List.sum_cons]
theorem wF_nil (F:Spl→Int):wF F [] = F ([],[]):=by
 show F (nrmS ([],[])) + 0 = _
 rw [Int.add_zero];rfl
theorem wF_perm (F:Spl→Int) {f g:List (List Int)} (h:f.Perm g):wF F f = wF F g:=by
 have hp:=(prodS_perm (h.map split) [([],[])]).map F
 rw [List.map_map,List.map_map] at hp
 exact sum_perm hp
theorem wF_app (F:Spl→Int) (f g:List (List Int)):wF F (f ++ g) = wF (fun s => wF (fun u => F (mulS s u)) g) f:=by
 have e1:prodS ((f ++ g).map split) = (prodS (f.map split)).flatMap fun s => (prodS (g.map split)).map (catS s):=by
  rw [List.map_append]
  show foldS [([],[])] (f.map split ++ g.map split) = _
  have:foldS [([],[])] (f.map split ++ g.map split) = foldS (foldS [([],[])] (f.map split)) (g.map split):=by unfold foldS;rw [List.foldl_append]
  rw [this,foldS_from];rfl
 unfold wF
 rw [e1,List.map_flatMap,sum_flatM]
 congr 1
 refine List.map_congr_left fun s _ => ?_
 rw [List.map_map]
 congr 1
 refine List.map_congr_left fun c _ => ?_
 show F (nrmS (catS s c)) = _
 rw [nrm_cat]
theorem wF_mulF (F:Spl→Int) (f g:List (List Int)):wF F (mulF f g) = wF (fun s => wF (fun u => F (mulS s u)) g) f:=by
 rw [← wF_app]
 exact wF_perm F (jP _)
structure CutOk (f:List (List Int)) (s:Spl):Prop where
 c:OkF s.1
 t:OkF s.2
 n:qQ s.1 + qQ s.2 = qQ f
theorem cut_ok {f:List (List Int)} (h:∀ b ∈ f,qY b):∀ s ∈ prodS (f.map split),CutOk f (nrmS s):=fun s hs => by
 have k:=(wU h s hs).nrm
 exact ⟨⟨fun t ht => k.1 t (by simp only [List.mem_append];exact .inl ht),kS xD _⟩,⟨fun t ht => k.1 t (by simp only [List.mem_append];exact .inr ht),kS xD _⟩,k.2⟩
theorem wF_congr {F G:Spl→Int} {f:List (List Int)} (h:∀ b ∈ f,qY b) (e:∀ s,CutOk f s→F s = G s):wF F f = wF G f:=by
 unfold wF
 congr 1
 exact List.map_congr_left fun s hs => e _ (cut_ok h s hs)
theorem OkF.lev {f:List (List Int)} (h:OkF f):∀ b ∈ f,qY b:=fun b hb => (h.1 b hb).1
theorem rtF_sum {f:List (List Int)} (h:OkF f):qQ (rtF f) = qQ f + 1:=by
 have e:qQ (rtF f) = (canon (qA f)).length:=by simp [rtF,qQ]
 rw [e,vR (kE h.lev),xI]
theorem canon_sub {t:List Int} (h:qY t) (hc:canon t = t):∀ b ∈ brs t,canon b = b:=fun b hb => by
 have hl:∀ b ∈ sortC cmpD ((brs t).map canon),qY b:=fun b hb' => by
  rw [yA,List.mem_map] at hb'
  obtain ⟨x,hx,rfl⟩:=hb'
  exact kZ (jK h x hx)
 have e:brs t = sortC cmpD ((brs t).map canon):=by
  conv => lhs;rw [← hc,xP h]
  exact vK hl
 rw [e,yA,List.mem_map] at hb
 obtain ⟨x,hx,rfl⟩:=hb
 exact wZ (jK h x hx)
theorem tree_root {t:List Int} (h:qY t) (hc:canon t = t):OkF (forest (brs t))∧rtF (forest (brs t)) = [t]∧qQ (forest (brs t)) + 1 = t.length:=by
 refine ⟨⟨fun b hb => ?_,kS xD _⟩,?_,?_⟩
 ·have hb:=yA.1 hb
  exact ⟨jK h b hb,canon_sub h hc b hb⟩
 ·unfold rtF forest
  rw [canon_root (bs:=sortC cmpT (brs t)) (cs:=brs t) (fun b hb => jK h b (yA.1 hb)) (jP _),jX0 h,hc]
 ·unfold forest
  rw [kL (jP _),kX h]
theorem hopf_ind {P:List (List Int)→Prop} (h0:P []) (hr:∀ g,OkF g→P g→P (rtF g)) (hm:∀ f g,OkF f→OkF g→P f→P g→P (mulF f g)):∀ f,OkF f→P f:=by
 have key:∀ (n:Nat) (f:List (List Int)),qQ f ≤ n→OkF f→P f:=by
  intro n
  induction n with
  | zero =>
   intro f hn hf
   cases f with
   | nil => exact h0
   | cons t f =>
    have:=(hf.1 t (by simp)).1.pos
    have hs:qQ (t :: f) = t.length + qQ f:=by simp [qQ]
    omega
  | succ n ih =>
   intro f hn hf
   cases f with
   | nil => exact h0
   | cons t f =>
    obtain ⟨ht,htc⟩:=hf.1 t (by simp)
    have hf':OkF f:=⟨fun x hx => hf.1 x (by simp [hx]),(List.pairwise_cons.1 hf.2).2⟩
    have hp:=ht.pos
    have hs:qQ (t :: f) = t.length + qQ f:=by simp [qQ]
    obtain ⟨a1,a2,a3⟩:=tree_root ht htc
    have h1:P [t]:=by
     rw [← a2]
     exact hr _ a1 (ih _ (by omega) a1)
    have h2:P f:=ih f (by omega) hf'
    have e:t :: f = mulF [t] f:=(xJ0 xD hf.2).symm
    rw [e]
    exact hm [t] f ⟨fun x hx => by obtain rfl:=List.mem_singleton.1 hx;exact ⟨ht,htc⟩,List.pairwise_singleton _ _⟩ hf' h1 h2
 exact fun f hf => key _ f (Nat.le_refl _) hf
theorem counit2:∀ f,OkF f→∀ H:List (List Int)→Int,wF (fun s => if s.2 = [] then H s.1 else 0) f = H f:=by
 refine hopf_ind (fun H => ?_) (fun g hg ih H => ?_) (fun x y hx hy ihx ihy H => ?_)
 ·rw [wF_nil];rfl
 ·refine (wF_root (fun s => if s.2 = [] then H s.1 else 0) hg.lev).trans ?_
  have e:wF (fun s => if (rootS s).2 = [] then H (rootS s).1 else 0) g = 0:=by
   have:wF (fun s => if (rootS s).2 = [] then H (rootS s).1 else 0) g = wF (fun _ => 0) g:=wF_congr hg.lev fun u _ => by rw [if_neg (by simp [rootS])]
   rw [this]
   unfold wF
   induction prodS (g.map split) with
   | nil => rfl
   | cons a L ih => rw [List.map_cons,List.sum_cons,ih];rfl
  show wF (fun s => if (rootS s).2 = [] then H (rootS s).1 else 0) g + (if ([]:List (List Int)) = [] then H (rtF g) else 0) = _
  rw [e,if_pos rfl]
  omega
 ·refine (wF_mulF (fun s => if s.2 = [] then H s.1 else 0) x y).trans ?_
  have e:∀ s:Spl,wF (fun u => if (mulS s u).2 = [] then H (mulS s u).1 else 0) y = if s.2 = [] then H (mulF s.1 y) else 0:=fun s => by
   have hl:∀ u:Spl,((mulS s u).2 = []) ↔ (s.2 = []∧u.2 = []):=fun u => by
    show mulF s.2 u.2 = [] ↔ _
    constructor
    ·intro h
     have:=congrArg List.length h
     rw [vG,List.length_nil] at this
     exact ⟨List.eq_nil_of_length_eq_zero (by omega),List.eq_nil_of_length_eq_zero (by omega)⟩
    ·rintro ⟨h1,h2⟩
     rw [h1,h2];rfl
   by_cases h1:s.2 = []
   ·rw [if_pos h1,← ihy fun z => H (mulF s.1 z)]
    refine wF_congr hy.lev fun u _ => ?_
    by_cases h2:u.2 = []
    ·rw [if_pos ((hl u).2 ⟨h1,h2⟩),if_pos h2];rfl
    ·rw [if_neg (fun h => h2 ((hl u).1 h).2),if_neg h2]
   ·rw [if_neg h1]
    have:wF (fun u => if (mulS s u).2 = [] then H (mulS s u).1 else 0) y = wF (fun _ => 0) y:=wF_congr hy.lev fun u _ => by rw [if_neg (fun h => h1 ((hl u).1 h).1)]
    rw [this]
    unfold wF
    induction prodS (y.map split) with
    | nil => rfl
    | cons a L ih => rw [List.map_cons,List.sum_cons,ih];rfl
  have e2:(fun s => wF (fun u => if (mulS s u).2 = [] then H (mulS s u).1 else 0) y) = fun s:Spl => if s.2 = [] then H (mulF s.1 y) else 0:=by funext s;exact e s
  rw [e2]
  exact ihx fun z => H (mulF z y)
end
section
def stepA (g:List Int→Elt) (out:Elt) (t:List Int):Elt:=sumS cmpF (prodL out (g t))
def antF (g:List Int→Elt) (f:List (List Int)):Elt:=f.foldl (stepA g) [(1,[])]
def cutE (g:List Int→Elt) (c:Cu):Elt:=if c.1.2 = [] then [] else sumS cmpF (prodL (antF g c.1.1) [(mP (-c.2),[c.1.2])])
def antT:Nat→List Int→Elt
 | 0,_ => []
 | n + 1,t => sumS cmpF ((cutsL t).flatMap (cutE (antT n)))
def ant1 (t:List Int):Elt:=antT t.length t
def ant (f:List (List Int)):Elt:=antF ant1 f
theorem antF_congr {g g':List Int→Elt} {f:List (List Int)} (h:∀ t ∈ f,g t = g' t):antF g f = antF g' f:=by
 unfold antF
 have key:∀ (f:List (List Int)) (out:Elt),(∀ t ∈ f,g t = g' t)→f.foldl (stepA g) out = f.foldl (stepA g') out:=by
  intro f
  induction f with
  | nil => intro out _;rfl
  | cons t f ih =>
   intro out h
   rw [List.foldl_cons,List.foldl_cons,ih _ fun x hx => h x (by simp [hx])]
   congr 1
   unfold stepA
   rw [h t (by simp)]
 exact key f _ h
theorem vL {t:List Int} (h:qY t) {c:Cu} (hc:c ∈ cutsL t):∃ z ∈ gathS (split t),c = cutS z∧yP t.length z.1∧1 ≤ z.2∧((z.1.2 = []∧c.1.2 = []) ∨ (c.1.2 ≠ []∧z.1.2 = [c.1.2])):=by
 unfold cutsL at hc
 obtain ⟨z,hz,rfl⟩:=List.mem_map.1 hc
 obtain ⟨k1,_,k⟩:=vO (xR _ (Nat.le_refl _) h) z hz
 have hl:=qH0 t h z hz
 refine ⟨z,hz,rfl,k,k1,?_⟩
 obtain ⟨⟨cr,tr⟩,n⟩:=z
 match tr,hl with
 | [],_ => exact .inl ⟨rfl,rfl⟩
 | [T],_ =>
  refine .inr ⟨fun e => ?_,rfl⟩
  have e:T = []:=e
  have:=(k.1 T (by simp)).1.pos
  rw [e] at this;simp at this
theorem antT_fuel:∀ (n m:Nat) {t:List Int},qY t→t.length ≤ n→t.length ≤ m→antT n t = antT m t:=by
 have key:∀ (k n m:Nat) (t:List Int),qY t→t.length ≤ k→t.length ≤ n→t.length ≤ m→antT n t = antT m t:=by
  intro k
  induction k with
  | zero => intro n m t h hk;have:=h.pos;omega
  | succ k ih =>
   intro n m t h hk hn hm
   have hp:=h.pos
   obtain ⟨n,rfl⟩:∃ n',n = n' + 1:=⟨n - 1,by omega⟩
   obtain ⟨m,rfl⟩:∃ m',m = m' + 1:=⟨m - 1,by omega⟩
   unfold antT
   congr 1
   have e:∀ c ∈ cutsL t,cutE (antT n) c = cutE (antT m) c:=fun c hc => by
    obtain ⟨z,hz,rfl,hg,_,h1⟩:=vL h hc
    unfold cutE
    rcases h1 with ⟨_,h1⟩|⟨h1,h2⟩
    ·rw [if_pos h1,if_pos h1]
    ·rw [if_neg h1,if_neg h1,antF_congr fun x hx => ?_]
     have hx':x ∈ z.1.1:=hx
     have a1:=jF hx'
     have a2:=hg.2
     have a3:qQ z.1.2 = (cutS z).1.2.length:=by rw [h2];simp [qQ]
     have a4:=hg.1 (cutS z).1.2 (by rw [h2];simp)
     have a5:=a4.1.pos
     exact ih n m x (hg.1 x (by simp [hx'])).1 (by omega) (by omega) (by omega)
   clear ih
   generalize cutsL t = C at e
   induction C with
   | nil => rfl
   | cons c C ihC => rw [List.flatMap_cons,List.flatMap_cons,e c (by simp),ihC fun x hx => e x (by simp [hx])]
 intro n m t h h1 h2
 exact key t.length n m t h (Nat.le_refl _) h1 h2
theorem wF_one (H:Spl→Int) (t:List Int):wF H [t] = ((split t).map fun s => H (nrmS s)).sum:=by
 have e1:prodS ([t].map split) = split t:=by
  show List.flatMap (fun s => (split t).map (catS s)) [([],[])] = _
  rw [List.flatMap_cons,List.flatMap_nil,List.append_nil]
  have:catS (([],[]):Spl) = id:=by funext s;rfl
  rw [this,List.map_id]
 unfold wF
 rw [e1]
end
section
def eF (f:List (List Int)):Nat:=(f.map fun t => t.length - 1).sum
theorem eF_app (f g:List (List Int)):eF (f ++ g) = eF f + eF g:=by simp [eF]
theorem eF_mul (f g:List (List Int)):eF (mulF f g) = eF f + eF g:=by
 rw [← eF_app]
 exact ((jP (c:=cmpT) (f ++ g)).map _).sum_nat
theorem eF_le (f:List (List Int)):eF f ≤ qQ f:=by
 induction f with
 | nil => exact Nat.le_refl _
 | cons t f ih =>
  have h1:eF (t :: f) = (t.length - 1) + eF f:=by simp [eF]
  have h2:qQ (t :: f) = t.length + qQ f:=by simp [qQ]
  omega
def pF (f:List (List Int)):Int:=((2 ^ eF f:Nat):Int)
theorem wF_scale (k:Int) (F:Spl→Int) (f:List (List Int)):wF (fun s => k * F s) f = k * wF F f:=by
 unfold wF
 induction prodS (f.map split) with
 | nil => simp
 | cons a L ih => rw [List.map_cons,List.sum_cons,ih,List.map_cons,List.sum_cons,Int.mul_add]
theorem wF_pow:∀ f,OkF f→wF (fun s => pF s.1) f = ((2 ^ qQ f:Nat):Int):=by
 refine hopf_ind ?_ (fun g hg ih => ?_) (fun x y hx hy ihx ihy => ?_)
 ·rw [wF_nil];rfl
 ·refine (wF_root (fun s => pF s.1) hg.lev).trans ?_
  show wF (fun s => pF s.1) g + pF (rtF g) = _
  have e1:=rtF_sum hg
  have e2:eF (rtF g) = qQ g:=by
   have e3:qQ (rtF g) = (canon (qA g)).length:=by simp [rtF,qQ]
   show (canon (qA g)).length - 1 + 0 = _
   omega
  rw [ih,e1]
  unfold pF
  rw [e2,Nat.pow_succ]
  omega
 ·refine (wF_mulF (fun s => pF s.1) x y).trans ?_
  have e:(fun s:Spl => wF (fun u => pF (mulS s u).1) y) = fun s:Spl => ((2 ^ qQ y:Nat):Int) * pF s.1:=by
   funext s
   have e1:(fun u:Spl => pF (mulS s u).1) = fun u:Spl => pF s.1 * pF u.1:=by
    funext u
    show pF (mulF s.1 u.1) = _
    unfold pF
    rw [eF_mul,Nat.pow_add,Int.natCast_mul]
   rw [e1,wF_scale,ihy,Int.mul_comm]
  rw [e,wF_scale,ihx,vY,Nat.pow_add,Int.natCast_mul,Int.mul_comm]
theorem wF_sub (F G:Spl→Int) (f:List (List Int)):wF (fun s => F s - G s) f = wF F f - wF G f:=by
 unfold wF
 induction prodS (f.map split) with
 | nil => rfl
 | cons a L ih => simp only [List.map_cons,List.sum_cons,ih];omega
theorem vM (M:Elt):(sumS cmpF M).length ≤ M.length:=by
 have h:=vQ M []
 rw [List.length_nil,Nat.zero_add] at h
 exact h
theorem prodLn (d e:Elt):(prodL d e).length = d.length * e.length:=by
 unfold prodL
 induction d with
 | nil => simp
 | cons p d ih => rw [List.flatMap_cons,List.length_append,List.length_map,ih,List.length_cons,Nat.succ_mul,Nat.add_comm]
theorem kT {g:List Int→Elt}:∀ (f:List (List Int)) (out:Elt),(∀ t ∈ f,(g t).length ≤ 2 ^ (t.length - 1))→(f.foldl (stepA g) out).length ≤ out.length * 2 ^ eF f
 | [],out,_ => by simp [eF]
 | t :: f,out,h => by
  rw [List.foldl_cons]
  refine Nat.le_trans (kT f _ fun x hx => h x (by simp [hx])) ?_
  have h1:(stepA g out t).length ≤ out.length * 2 ^ (t.length - 1):=by
   refine Nat.le_trans (vM _) ?_
   rw [prodLn]
   exact Nat.mul_le_mul_left _ (h t (by simp))
  have h2:eF (t :: f) = (t.length - 1) + eF f:=by simp [eF]
  rw [h2,Nat.pow_add,← Nat.mul_assoc]
  exact Nat.mul_le_mul_right _ h1
theorem kQ:∀ (n:Nat) (t:List Int),qY t→canon t = t→t.length ≤ n→(ant1 t).length ≤ 2 ^ (t.length - 1)
 | 0,t,h,_,hn => by have:=h.pos;omega
 | n + 1,t,h,hc,hn => by
  have hp:=h.pos
  obtain ⟨m,hm⟩:∃ m,t.length = m + 1:=⟨t.length - 1,by omega⟩
  have e0:ant1 t = sumS cmpF ((cutsL t).flatMap (cutE (antT m))):=by unfold ant1;rw [hm];rfl
  rw [e0]
  refine Nat.le_trans (vM _) ?_
  have ht:OkF [t]:=⟨fun x hx => by obtain rfl:=List.mem_singleton.1 hx;exact ⟨h,hc⟩,List.pairwise_singleton _ _⟩
  have h1:∀ z ∈ gathS (split t),(((cutE (antT m) (cutS z)).length:Nat):Int) ≤ z.2 * (if z.1.2 = [] then 0 else pF z.1.1):=fun z hz => by
   obtain ⟨_,_,_,hg,hz1,_⟩:=vL h (c:=cutS z) (List.mem_map.2 ⟨z,hz,rfl⟩)
   obtain ⟨k1,_,hgz⟩:=vO (xR _ (Nat.le_refl _) h) z hz
   have htr:=qH0 t h z hz
   obtain ⟨⟨cr,tr⟩,k⟩:=z
   simp only at hgz htr k1 ⊢
   match tr,htr,hgz with
   | [],_,_ =>
    unfold cutE
    rw [if_pos (show (cutS ((cr,[]),k)).1.2 = [] from rfl),if_pos rfl]
    simp
   | [T],_,hgz =>
    have hT:=hgz.1 T (by simp)
    have hTp:=hT.1.pos
    have hTn:T ≠ []:=fun e => by rw [e] at hTp;simp at hTp
    unfold cutE
    rw [if_neg (show ¬ (cutS ((cr,[T]),k)).1.2 = [] from hTn),if_neg (by simp)]
    have a3:qQ [T] = T.length:=by simp [qQ]
    have a2:qQ cr + qQ [T] = t.length:=hgz.2
    have hlen:(sumS cmpF (prodL (antF (antT m) cr) [(mP (-k),[T])])).length ≤ 2 ^ eF cr:=by
     refine Nat.le_trans (vM _) ?_
     rw [prodLn,List.length_singleton,Nat.mul_one]
     refine Nat.le_trans (kT cr [(1,[])] fun x hx => ?_) (by simp)
     have hx1:=hgz.1 x (by simp [hx])
     have hx2:=jF hx
     have e1:antT m x = ant1 x:=antT_fuel _ _ hx1.1 (by omega) (Nat.le_refl _)
     rw [e1]
     exact kQ n x hx1.1 hx1.2 (by omega)
    have h2:(((sumS cmpF (prodL (antF (antT m) cr) [(mP (-k),[T])])).length:Nat):Int) ≤ pF cr:=by
     unfold pF;exact Int.ofNat_le.2 hlen
    have h3:0 ≤ pF cr:=by unfold pF;exact Int.natCast_nonneg _
    have h4:1 * pF cr ≤ k * pF cr:=Int.mul_le_mul_of_nonneg_right k1 h3
    refine Int.le_trans h2 ?_
    omega
  have h2:((((cutsL t).flatMap (cutE (antT m))).length:Nat):Int) ≤ ((gathS (split t)).map fun z => z.2 * (if z.1.2 = [] then 0 else pF z.1.1)).sum:=by
   have e1:cutsL t = (gathS (split t)).map cutS:=rfl
   rw [e1]
   generalize gathS (split t) = Z at h1
   induction Z with
   | nil => simp
   | cons z Z ih =>
    rw [List.map_cons,List.flatMap_cons,List.length_append,List.map_cons,List.sum_cons,Int.natCast_add]
    have a1:=h1 z (by simp)
    have a2:=ih fun x hx => h1 x (by simp [hx])
    omega
  have h3:((gathS (split t)).map fun z => z.2 * (if z.1.2 = [] then 0 else pF z.1.1)).sum = wF (fun s => if s.2 = [] then 0 else pF s.1) [t] :=
   (gath_lin (fun s => if s.2 = [] then 0 else pF s.1) (split t)).trans (wF_one (fun s => if s.2 = [] then 0 else pF s.1) t).symm
  have h4:wF (fun s => if s.2 = [] then 0 else pF s.1) [t] = wF (fun s => pF s.1) [t] - wF (fun s => if s.2 = [] then pF s.1 else 0) [t]:=by
   rw [← wF_sub]
   congr 1
   funext s
   split <;> omega
  have h5:=wF_pow [t] ht
  have h6:=counit2 [t] ht pF
  have e5:qQ [t] = t.length:=by simp [qQ]
  have e6:pF [t] = ((2 ^ (t.length - 1):Nat):Int):=by unfold pF;simp [eF]
  rw [e5,hm,Nat.pow_succ] at h5
  rw [e6,hm,Nat.add_sub_cancel] at h6
  rw [h3,h4,h5,h6] at h2
  rw [hm,Nat.add_sub_cancel]
  omega
def GdA (m:Nat) (L:Elt):Prop:=∀ q ∈ L,(0 ≤ q.1∧q.1 < 10007)∧(∀ t ∈ q.2,1 ≤ t.length)∧qQ q.2 = m
theorem GdA.prod {d e:Elt} {m k:Nat} (hd:GdA m d) (he:GdA k e):GdA (m + k) (prodL d e):=fun q hq => by
 unfold prodL at hq
 obtain ⟨p,hp,hq⟩:=List.mem_flatMap.1 hq
 obtain ⟨r,hr,rfl⟩:=List.mem_map.1 hq
 obtain ⟨_,a2,a3⟩:=hd p hp
 obtain ⟨_,b2,b3⟩:=he r hr
 refine ⟨jM _,fun t ht => ?_,?_⟩
 ·rcases List.mem_append.1 (yA.1 ht) with h|h
  ·exact a2 t h
  ·exact b2 t h
 ·show qQ (mulF p.2 r.2) = _
  rw [vY,a3,b3]
theorem GdA.sum {L:Elt} {m:Nat} (h:GdA m L):GdA m (sumS cmpF L):=fun q hq => by
 have hn:=(vF yL (M:=L) fun q hq => (h q hq).1).2 q hq
 obtain ⟨p,hp,e⟩:=sumS_mem hq
 rw [← e]
 exact ⟨by omega,(h p hp).2⟩
theorem GdA.fold {g:List Int→Elt}:∀ {f:List (List Int)} {out:Elt} {m:Nat},(∀ t ∈ f,GdA t.length (g t))→GdA m out→GdA (m + qQ f) (f.foldl (stepA g) out)
 | [],out,m,_,h => by simpa [qQ] using h
 | t :: f,out,m,hg,h => by
  rw [List.foldl_cons,show m + qQ (t :: f) = (m + t.length) + qQ f by simp [qQ,Nat.add_assoc]]
  exact GdA.fold (fun x hx => hg x (by simp [hx])) (GdA.sum (h.prod (hg t (by simp))))
theorem kK:GdA 0 [(1,[])]:=fun q hq => by
 obtain rfl:=List.mem_singleton.1 hq
 exact ⟨by decide,(fun t ht => by cases ht),rfl⟩
theorem xN:∀ (n:Nat) {t:List Int},qY t→t.length ≤ n→GdA t.length (antT n t)
 | 0,t,h,hn => by have:=h.pos;omega
 | n + 1,t,h,hn => by
  unfold antT
  refine GdA.sum fun q hq => ?_
  obtain ⟨c,hc,hq⟩:=List.mem_flatMap.1 hq
  obtain ⟨z,hz,rfl,hg,_,h1⟩:=vL h hc
  unfold cutE at hq
  rcases h1 with ⟨_,h1⟩|⟨h1,h2⟩
  ·rw [if_pos h1] at hq;cases hq
  ·rw [if_neg h1] at hq
   have a2:=hg.2
   have a3:qQ z.1.2 = (cutS z).1.2.length:=by rw [h2];simp [qQ]
   have a4:=hg.1 (cutS z).1.2 (by rw [h2];simp)
   have a5:=a4.1.pos
   have hc1:GdA (qQ z.1.1) (antF (antT n) z.1.1):=by
    have:=GdA.fold (g:=antT n) (f:=z.1.1) (out:=[(1,[])]) (m:=0) (fun x hx => xN n (hg.1 x (by simp [hx])).1 (by have:=jF hx;omega)) kK
    rw [Nat.zero_add] at this
    exact this
   have hc2:GdA (cutS z).1.2.length [(mP (-(cutS z).2),[(cutS z).1.2])]:=fun q hq => by
    obtain rfl:=List.mem_singleton.1 hq
    exact ⟨jM _,fun t ht => by obtain rfl:=List.mem_singleton.1 ht;exact a5,by simp [qQ]⟩
   have:=GdA.sum (hc1.prod hc2)
   rw [← a3,a2] at this
   exact this q hq
theorem GdA.sz {L:Elt} {m:Nat} (h:GdA m L) (hm:m ≤ 8):∀ q ∈ L,(0 ≤ q.1∧q.1 < 10007)∧q.2.length ≤ 9∧qQ q.2 ≤ 50:=fun q hq => by
 obtain ⟨h1,h2,h3⟩:=h q hq
 refine ⟨h1,?_,by omega⟩
 have:q.2.length ≤ qQ q.2:=by
  generalize q.2 = f at h2
  clear h3
  induction f with
  | nil => exact Nat.le_refl _
  | cons t f ih =>
   have a1:=h2 t (by simp)
   have a2:=ih fun x hx => h2 x (by simp [hx])
   have a3:qQ (t :: f) = t.length + qQ f:=by simp [qQ]
   rw [List.length_cons]
   omega
 omega
end
section
def fIdx {α:Type} (p:α→Bool):List α→Option Nat
 | [] => none
 | x :: xs => if p x then some 0 else (fIdx p xs).map (· + 1)
def idxI (o:Option Nat):Int:=match o with|some i => i|none => -1
theorem qC0 {α:Type} {p:α→Bool}:∀ {xs:List α},fIdx p xs = none ↔ ∀ x ∈ xs,p x = false
 | [] => by simp [fIdx]
 | x :: xs => by
  unfold fIdx
  by_cases h:p x = true
  ·simp [h]
  ·have h':p x = false:=by simpa using h
   simp only [h,Bool.false_eq_true,if_false,Option.map_eq_none_iff,qC0 (xs:=xs)]
   simp [h']
theorem fIdx_some {α:Type} {p:α→Bool}:∀ {xs:List α} {i:Nat},fIdx p xs = some i→∃ h:i < xs.length,p xs[i] = true∧∀ x ∈ xs.take i,p x = false
 | x :: xs,i,h => by
  unfold fIdx at h
  by_cases hx:p x = true
  ·rw [if_pos hx] at h;cases h
   exact ⟨by simp,hx,by simp⟩
  ·rw [if_neg hx] at h
   obtain ⟨j,hj,rfl⟩:=map_some h
   obtain ⟨h1,h2,h3⟩:=fIdx_some hj
   refine ⟨by simpa using h1,h2,fun y hy => ?_⟩
   rw [List.take_succ_cons,List.mem_cons] at hy
   rcases hy with rfl|hy
   ·simpa using hx
   ·exact h3 y hy
theorem fIdx_at {α:Type} {p:α→Bool}:∀ {xs:List α} {i:Nat} (h:i < xs.length),p xs[i] = true→(∀ x ∈ xs.take i,p x = false)→fIdx p xs = some i
 | x :: xs,0,_,h1,_ => by
  have h1:p x = true:=h1
  unfold fIdx;rw [if_pos h1]
 | x :: xs,i + 1,h,h1,h2 => by
  unfold fIdx
  have hx:p x = false:=h2 x (by simp)
  rw [if_neg (by simp [hx]),fIdx_at (xs:=xs) (i:=i) (by simpa using h) h1 (fun y hy => h2 y (by simp [hy]))]
  rfl
def keepF {α:Type} (p:α→Bool) (xs:List α):List α:=xs.filter fun x => !p x
end
section
theorem yC0 {α:Type} (e:α→List D) (d:α→D) (c0:α→Int) (f:α→List (List Int)) (p:α→Bool) (g:FuncId) (he:∀ x,e x = [.int (c0 x),d x]) (hun:∀ x,(d x).un = .sl 1 ((f x).map eL)) (hp:∀ x,AFn Tryz.prog g [[.int (c0 x),.sl 1 ((f x).map eL)]] (· = [.val (.bool (p x))])) (xs:List α) (hl:xs.length ≤ 1000000000) :
  AFn Tryz.prog 197 [[.sl 2 (xs.map e)],[.raw (.func (.func g) #[] #[])]] (· = [.val (.int (idxI (fIdx p xs)))]):=by
 refine AFn.of_runs (qX 19) Tryz.func197 rfl rfl rfl gz ?_
 have hres:Tryz.f197.results.toList = [.tmp 4]:=rfl
 have hrts:Tryz.f197.resultTypes.toList = [3]:=rfl
 simp only [qK,qD,eL,eI,eLL,eB,Nat.zero_add,Nat.reduceAdd]
 intro M
 refine qJ.of ?_
 have hle:(xs.map e).length = xs.length:=by simp
 refine gw129 hle ?_
 refine qJ.loop (β:=Nat) (γ:=Unit) (fun i => ⟨[(0,.c (.val (.sl 2 (xs.map e)))),(1,.c (.val (.raw (.func (.func g) #[] #[])))),(7,.c (.val (.int xs.length))),(8,.c (.val (.int i)))],[]⟩) (fun i => i ≤ xs.length∧∀ x ∈ xs.take i,p x = false) (fun i => xs.length - i)
  (fun _ => ⟨[],[]⟩) (fun _ => ∀ x ∈ xs,p x = false) 0 ⟨Nat.zero_le _,by simp⟩ ?_ ?_ ?_
 ·exact gw6 Y0
 ·rintro i ⟨hi,hlow⟩
  have hw:=qL (n:=i) (by omega)
  by_cases h:i < xs.length
  ·have hx:=hp xs[i]
   have hj:(xs.map e)[i]? = some [.int (c0 xs[i]),d xs[i]]:=by rw [qI h,he]
   have i1:((i:Int) < (xs.length:Int)) = True:=eq_true (by omega)
   have i2:((0:Int) ≤ (i:Int)) = True:=eq_true (by omega)
   by_cases hpx:p xs[i] = true
   ·repeat' (first|with_reducible (first|refine Q1 ?_|refine Q2 ?_|refine Q3 ?_|refine Q4 ?_|refine Q5 ?_|refine Q6 ?_|refine Q7 ?_|refine Q8 ?_|refine Q9 ?_|refine Qa ?_|refine Qb ?_|refine Qc ?_|refine Qd ?_|refine Qe ?_|refine Qf ?_|refine QO ?_|refine QV 9 ?_|refine QY 9 ?_)|with_reducible ((first|apply QS (qX 19) (Tab.none.at' g hx)|apply QC);refine QW ?_;simp only [Zg,Zi,seval,reduceCtorEq,Nat.reduceEqDiff,hle,i1,i2,hj,hun,argV_un (hun _),cellD_un (hun _),hpx,hw,eL,Int.toNat_natCast];rfl))
    refine qV.ret ?_
    refine gw129 Y0 ?_
    rw [fIdx_at h hpx hlow]
    exact gw130
   ·have hpx':p xs[i] = false:=by simpa using hpx
    repeat' (first|with_reducible (first|refine Q1 ?_|refine Q2 ?_|refine Q3 ?_|refine Q4 ?_|refine Q5 ?_|refine Q6 ?_|refine Q7 ?_|refine Q8 ?_|refine Q9 ?_|refine Qa ?_|refine Qb ?_|refine Qc ?_|refine Qd ?_|refine Qe ?_|refine Qf ?_|refine QO ?_|refine QV 9 ?_|refine QY 9 ?_)|with_reducible ((first|apply QS (qX 19) (Tab.none.at' g hx)|apply QC);refine QW ?_;simp only [Zg,Zi,seval,reduceCtorEq,Nat.reduceEqDiff,hle,i1,i2,hj,hun,argV_un (hun _),cellD_un (hun _),hpx',hw,eL,Int.toNat_natCast];rfl))
    refine qV.on (i + 1) ⟨⟨h,fun x hx => ?_⟩,by omega⟩ ?_
    ·rw [List.take_succ_eq_append_getElem h,List.mem_append,List.mem_singleton] at hx
     rcases hx with hx|rfl
     ·exact hlow x hx
     ·exact hpx'
    ·exact gw6 Y0
  ·have i1:((i:Int) < (xs.length:Int)) = False:=eq_false (by omega)
   refine gw129 (Yp hle i1) ?_
   refine qV.out () (fun x hx => hlow x (by rw [List.take_of_length_le (by omega)];exact hx)) ?_
   exact gw6 Y0
 ·rintro _ hno
  refine gw129 Y0 ?_
  rw [qC0.2 hno]
  exact gw130
theorem a_DeleteFuncPt {α:Type} (e:α→List D) (d:α→D) (c0:α→Int) (f:α→List (List Int)) (p:α→Bool) (g:FuncId) (he:∀ x,e x = [.int (c0 x),d x]) (hun:∀ x,(d x).un = .sl 1 ((f x).map eL)) (hp:∀ x,AFn Tryz.prog g [[.int (c0 x),.sl 1 ((f x).map eL)]] (· = [.val (.bool (p x))])) (xs:List α) (hl:xs.length ≤ 1000000000) :
  AOw Tryz.prog 153 [] 2 (xs.map e) [[.raw (.func (.func g) #[] #[])]] (· = [.own 2 ((keepF p xs).map e) false]):=by
 have hidx:=yC0 e d c0 f p g he hun hp xs hl
 rcases hfi:fIdx p xs with _|i0
 ·rw [hfi] at hidx
  have hk:keepF p xs = xs:=List.filter_eq_self.2 (fun x hx => by rw [qC0.1 hfi x hx];rfl)
  rw [hk]
  refine AOw.of_runs (qX 42) Tryz.func153 rfl rfl rfl gz ?_
  have hres:Tryz.f153.results.toList = [.tmp 4]:=rfl
  have hrts:Tryz.f153.resultTypes.toList = [50]:=rfl
  simp only [List.length_cons,List.length_nil,List.nil_append,List.cons_append,qK,qD,eL,eI,eLL,eB,Nat.zero_add,Nat.reduceAdd]
  intro M
  refine qJ.of ?_
  refine gw131 Y0 ?_
  exact gw8
 ·rw [hfi] at hidx
  obtain ⟨hi0,hpi,hlow⟩:=fIdx_some hfi
  refine AOw.of_runs (qX 42) Tryz.func153 rfl rfl rfl gz ?_
  have hres:Tryz.f153.results.toList = [.tmp 4]:=rfl
  have hrts:Tryz.f153.resultTypes.toList = [50]:=rfl
  simp only [List.length_cons,List.length_nil,List.nil_append,List.cons_append,qK,qD,eL,eI,eLL,eB,Nat.zero_add,Nat.reduceAdd]
  intro M
  refine qJ.of ?_
  have hne:((i0:Int) == -1) = false:=beq_eq_false_iff_ne.2 (by omega)
  have hw0:=qL (n:=i0) (by omega)
  refine gw131 (Yp hne hw0) ?_
  refine qJ.loop (β:=Nat × List (List D)) (γ:=List (List D)) (fun x => ⟨[(0,.c (.own 0 xs.length)),(1,.c (.val (.raw (.func (.func g) #[] #[])))),(5,.c (.val (.int (keepF p (xs.take x.1)).length))),(6,.c (.val (.int x.1)))],[(0,.row 2 x.2 false)]⟩)
   (fun x => x.1 ≤ xs.length∧x.2.length = xs.length∧(∀ r ∈ x.2,r.length = 2)∧x.2.take (keepF p (xs.take x.1)).length = (keepF p (xs.take x.1)).map e∧x.2.drop x.1 = (xs.drop x.1).map e) (fun x => xs.length - x.1)
   (fun L => ⟨[(0,.c (.own 0 xs.length)),(5,.c (.val (.int (keepF p xs).length)))],[(0,.row 2 L false)]⟩) (fun L => L.length = xs.length∧L.take (keepF p xs).length = (keepF p xs).map e) (i0 + 1,xs.map e) ⟨by omega,by simp,?_,?_,by rw [List.map_drop]⟩ ?_ ?_ ?_
  ·intro r hr
   obtain ⟨x,_,rfl⟩:=List.mem_map.1 hr
   rw [he];rfl
  ·have h1:keepF p (xs.take (i0 + 1)) = xs.take i0:=by
    rw [List.take_succ_eq_append_getElem hi0]
    unfold keepF
    rw [List.filter_append,List.filter_eq_self.2 (fun x hx => by rw [hlow x hx];rfl)]
    simp [hpi]
   show (xs.map e).take (keepF p (xs.take (i0 + 1))).length = (keepF p (xs.take (i0 + 1))).map e
   rw [h1,← List.map_take,List.length_take,Nat.min_eq_left (Nat.le_of_lt hi0)]
  ·have h1:(keepF p (xs.take (i0 + 1))).length = i0:=by
    rw [List.take_succ_eq_append_getElem hi0]
    unfold keepF
    rw [List.filter_append,List.filter_eq_self.2 (fun x hx => by rw [hlow x hx];rfl)]
    simp [hpi];omega
   exact gw6 h1
  ·rintro ⟨j,L⟩ ⟨hj,hL,hone,htk,hdr⟩
   have hj:j ≤ xs.length:=hj
   have hL:L.length = xs.length:=hL
   have htk:L.take (keepF p (xs.take j)).length = (keepF p (xs.take j)).map e:=htk
   have hdr:L.drop j = (xs.drop j).map e:=hdr
   have hw:=qL (n:=j) (by omega)
   have hcl:(keepF p (xs.take j)).length ≤ j:=by
    have:=List.length_filter_le (fun x => !p x) (xs.take j)
    unfold keepF
    rw [List.length_take] at this
    omega
   have hwc:=qL (n:=(keepF p (xs.take j)).length) (by omega)
   by_cases h:j < xs.length
   ·have hx:=hp xs[j]
    have hLj:L[j]? = some [.int (c0 xs[j]),d xs[j]]:=by
     have:(L.drop j)[0]? = ((xs.drop j).map e)[0]?:=by rw [hdr]
     rw [List.getElem?_drop,List.getElem?_map,List.getElem?_drop] at this
     simpa [h,he] using this
    have i1:((j:Int) < (xs.length:Int)) = True:=eq_true (by omega)
    have i2:((0:Int) ≤ (j:Int)) = True:=eq_true (by omega)
    have hsucc:keepF p (xs.take (j + 1)) = if p xs[j] = true then keepF p (xs.take j) else keepF p (xs.take j) ++ [xs[j]]:=by
     rw [List.take_succ_eq_append_getElem h]
     unfold keepF
     rw [List.filter_append]
     by_cases hpx:p xs[j] = true <;> simp [hpx]
    by_cases hpx:p xs[j] = true
    ·rw [if_pos hpx] at hsucc
     repeat' (first|with_reducible (first|refine Q1 ?_|refine Q2 ?_|refine Q3 ?_|refine Q4 ?_|refine Q5 ?_|refine Q6 ?_|refine Q7 ?_|refine Q8 ?_|refine Q9 ?_|refine Qa ?_|refine Qb ?_|refine Qc ?_|refine Qd ?_|refine Qe ?_|refine Qf ?_|refine QO ?_|refine QV 8 ?_|refine QY 8 ?_)|with_reducible ((first|apply QS (qX 42) (Tab.none.at' g hx)|apply QC);refine QW ?_;simp only [Zg,Zi,seval,reduceCtorEq,Nat.reduceEqDiff,hL,i1,i2,hLj,hun,argV_un (hun _),cellD_un (hun _),hpx,hw,eL,Int.toNat_natCast];rfl))
     refine qV.on (j + 1,L) ⟨⟨h,hL,hone,?_,?_⟩,by show xs.length - (j + 1) < xs.length - j;omega⟩ ?_
     ·rw [hsucc];exact htk
     ·show L.drop (j + 1) = (xs.drop (j + 1)).map e
      rw [← List.drop_drop,hdr,← List.map_drop,List.drop_drop]
     ·exact gw6 hsucc
    ·have hpx':p xs[j] = false:=by simpa using hpx
     rw [if_neg hpx] at hsucc
     obtain ⟨c,hc⟩:∃ c,c = (keepF p (xs.take j)).length:=⟨_,rfl⟩
     have hcs:(keepF p (xs.take (j + 1))).length = c + 1:=by rw [hsucc,hc];simp
     rw [← hc] at hwc hcl htk
     have hcL:c < L.length:=by omega
     obtain ⟨y,y2,hy⟩:∃ y y2,L[c] = [y,y2]:=by
      have:=hone L[c] (List.getElem_mem _)
      match L[c],this with
      | [y,y2],_ => exact ⟨y,y2,rfl⟩
     have hLc:L[c]? = some [y,y2]:=by rw [List.getElem?_eq_getElem hcL,hy]
     have i3:((c:Int) < (xs.length:Int)) = True:=eq_true (by omega)
     have i4:((0:Int) ≤ (c:Int)) = True:=eq_true (by omega)
     rw [← hc]
     repeat' (first|with_reducible (first|refine Q1 ?_|refine Q2 ?_|refine Q3 ?_|refine Q4 ?_|refine Q5 ?_|refine Q6 ?_|refine Q7 ?_|refine Q8 ?_|refine Q9 ?_|refine Qa ?_|refine Qb ?_|refine Qc ?_|refine Qd ?_|refine Qe ?_|refine Qf ?_|refine QO ?_|refine QV 8 ?_|refine QY 8 ?_)|with_reducible ((first|apply QS (qX 42) (Tab.none.at' g hx)|apply QC);refine QW ?_;simp only [Zg,Zi,seval,reduceCtorEq,Nat.reduceEqDiff,hL,i1,i2,i3,i4,hLj,hLc,hun,argV_un (hun _),cellD_un (hun _),hpx',hw,hwc,eL,Int.toNat_natCast];rfl))
     refine qV.on (j + 1,L.set c [.int (c0 xs[j]),d xs[j]]) ⟨⟨h,by simpa using hL,?_,?_,?_⟩,by show xs.length - (j + 1) < xs.length - j;omega⟩ ?_
     ·intro r hr
      rcases List.mem_or_eq_of_mem_set hr with hr|rfl
      ·exact hone r hr
      ·rfl
     ·show (L.set c [.int (c0 xs[j]),d xs[j]]).take (keepF p (xs.take (j + 1))).length = (keepF p (xs.take (j + 1))).map e
      rw [hcs,hsucc,List.map_append,List.take_succ_eq_append_getElem (by simpa using hcL),List.take_set_of_le (Nat.le_refl _),htk]
      simp [he]
     ·show (L.set c [.int (c0 xs[j]),d xs[j]]).drop (j + 1) = (xs.drop (j + 1)).map e
      rw [List.drop_set_of_lt (by omega),← List.drop_drop,hdr,← List.map_drop,List.drop_drop]
     ·exact gw6 hcs
   ·have i1:((j:Int) < (xs.length:Int)) = False:=eq_false (by omega)
    have hall:xs.take j = xs:=List.take_of_length_le (by omega)
    rw [hall] at htk ⊢
    refine gw132 (Yp hL i1) ?_
    refine qV.out L ⟨hL,htk⟩ ?_
    exact gw6 Y0
  ·rintro L ⟨hL,htk⟩
   have hcl:(keepF p xs).length ≤ xs.length:=List.length_filter_le _ _
   obtain ⟨c,hc⟩:∃ c,c = (keepF p xs).length:=⟨_,rfl⟩
   rw [← hc] at htk hcl ⊢
   have i1:((c:Int) ≤ (xs.length:Int)) = True:=eq_true (by omega)
   have i2:((0:Int) ≤ (c:Int)) = True:=eq_true (by omega)
   have i3:((xs.length:Int) ≤ (xs.length:Int)) = True:=eq_true (by omega)
   have htn:((xs.length:Int)).toNat = xs.length:=Int.toNat_natCast _
   refine gw132 Y0 ?_
   refine qJ.regCut (qX 42) Tab.none 3 (s1:=?_) ?_ ?_
   rotate_left 1
   focus (refine Work.mk ?_;simp only [Zg,Zi,seval,reduceCtorEq,Nat.reduceEqDiff,hL,i1,i2,i3,Int.toNat_natCast];with_reducible rfl)
   simp only [List.toList_toArray,List.drop_succ_cons,List.drop_zero]
   refine qW.clear (qX 42) (x:=.tmp 38) (t:=50) (i:=⟨71,[.int 0,.sl 1 []],32⟩) (key:=0) (j:=c) (m:=xs.length - c) rfl rfl rfl rfl rfl rfl rfl (by rw [hL];omega) ?_
   refine qW.nil ?_
   refine gw132 Y0 ?_
   refine qJ.regCut (qX 42) Tab.none 2 (s1:=?_) ?_ ?_
   rotate_left 1
   focus (refine Work.mk ?_;simp only [Zg,Zi,seval,reduceCtorEq,Nat.reduceEqDiff];with_reducible rfl)
   simp only [List.toList_toArray,List.drop_succ_cons,List.drop_zero]
   refine qW.trunc (qX 42) (x:=.tmp 39) (hi:=.tmp 40) (t:=50) (i:=⟨71,[.int 0,.sl 1 []],32⟩) (d:=41) (key:=0) (m:=xs.length) (n:=c) rfl rfl rfl (by decide) rfl rfl rfl rfl (by simp [hL];omega) (fun q u hq hu => ?_) ?_
   ·simp only [look] at hu
    split at hu
    ·rename_i e;exact absurd e.symm hq
    ·cases hu
   ·have ht2:(L.take c ++ List.replicate (xs.length - c) [D.int 0,D.sl 1 []]).take c = (keepF p xs).map e:=by
     rw [List.take_append_of_le_length (by rw [List.length_take];omega),List.take_take,Nat.min_self,htk]
    rw [ht2]
    refine qW.opsT (qX 42) (T:=Tab.none) (s':=?_) ?_ ?_
    rotate_left 1
    focus (simp only [Zg,Zi,seval,reduceCtorEq,Nat.reduceEqDiff];with_reducible rfl)
    refine gw132 Y0 ?_
    exact gw8
end
end Go.Proofs.YtedgfkpfhonlpaaGreat
