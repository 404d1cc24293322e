/- Lemmas (12). -/
import Derived.Test.YtgngidchldajhaaZA7
import Derived.Test.YtgngidchldajhaaZA10
import Derived.Test.YtgngidchldajhaaZA11
set_option linter.unusedSimpArgs false
set_option linter.unusedVariables false
namespace Go.Proofs.Ytgngidchldajhaa
open Go.RowKit
def prt9 (k:Int) (l r:List Int × Int):List (List Int × Int):=(gsOf l.1 r.1).1.map fun p => (p.1,k * l.2 * r.2 * p.2)
def add9 (out:List (List Int × Int)) (ps:List (List Int × Int)):List (List Int × Int):=ps.foldl (fun o q => sum9F o q.1 q.2) out
theorem add9_app (out:List (List Int × Int)) (ps qs:List (List Int × Int)):add9 out (ps ++ qs) = add9 (add9 out ps) qs:=by unfold add9;rw [List.foldl_append]
def pairs9 (left right:List (List Int × Int)) (k:Int):List (List Int × Int):=left.flatMap fun l => right.flatMap fun r => prt9 k l r
structure Gr9 (left right:List (List Int × Int)) (k:Int):Prop where
 ll:left.length ≤ 10
 rl:right.length ≤ 10
 gs:∀ l ∈ left,∀ r ∈ right,(gsOf l.1 r.1).2 = 0∧(gsOf l.1 r.1).1.length ≤ 8∧(∀ p ∈ (gsOf l.1 r.1).1,p.1.length ≤ 8∧1 ≤ p.2∧p.2 ≤ 8)∧l.1.length ≤ 8∧r.1.length ≤ 8
 lc:∀ l ∈ left,0 ≤ l.2∧l.2 ≤ 8
 rc:∀ r ∈ right,0 ≤ r.2∧r.2 ≤ 8
 k:k = 1 ∨ k = -1
theorem mul8 {a b:Int} {A:Int} (ha:-A ≤ a∧a ≤ A) (hb:0 ≤ b∧b ≤ 8):-(8 * A) ≤ a * b∧a * b ≤ 8 * A:=by
 obtain ⟨n,rfl⟩:∃ n:Nat,b = n:=⟨b.toNat,by omega⟩
 have hn:n ≤ 8:=by omega
 match n,hn with
 | 0,_|1,_|2,_|3,_|4,_|5,_|6,_|7,_|8,_ => omega
theorem Gr9.coef {left right:List (List Int × Int)} {k:Int} (h:Gr9 left right k) {l r p:List Int × Int} (hl:l ∈ left) (hr:r ∈ right) (hp:0 ≤ p.2∧p.2 ≤ 8) :
  (-8 ≤ k * l.2∧k * l.2 ≤ 8)∧(-64 ≤ k * l.2 * r.2∧k * l.2 * r.2 ≤ 64)∧(-512 ≤ k * l.2 * r.2 * p.2∧k * l.2 * r.2 * p.2 ≤ 512):=by
 have h1:=mul8 (a:=k) (b:=l.2) (A:=1) (by rcases h.k with e|e <;> omega) (h.lc l hl)
 have h2:=mul8 (A:=8) (by omega) (h.rc r hr) (a:=k * l.2)
 have h3:=mul8 (A:=64) (by omega) hp (a:=k * l.2 * r.2)
 omega
theorem add9_sm {n:Nat} {B:Int}:∀ {ps out:List (List Int × Int)},Sm9 n B out→0 ≤ B→(∀ q ∈ ps,q.1.length ≤ 8∧-512 ≤ q.2∧q.2 ≤ 512)→Sm9 (n + ps.length) (B + 512 * ps.length) (add9 out ps)
 | [],out,h,_,_ => by simpa [add9] using h
 | q :: ps,out,h,hB,hp => by
  have h1:=hp q (by simp)
  have h2:=h.add hB h1.1 h1.2
  have h3:=add9_sm (n:=n + 1) (B:=B + 512) (ps:=ps) h2 (by omega) (fun x hx => hp x (by simp [hx]))
  have e1:n + (q :: ps).length = n + 1 + ps.length:=by simp;omega
  have e2:B + 512 * ((q :: ps).length:Int) = B + 512 + 512 * (ps.length:Int):=by simp;omega
  rw [e1,e2]
  exact h3
theorem prt9_b {left right:List (List Int × Int)} {k:Int} (h:Gr9 left right k) {l r:List Int × Int} (hl:l ∈ left) (hr:r ∈ right):(prt9 k l r).length ≤ 8∧∀ q ∈ prt9 k l r,q.1.length ≤ 8∧-512 ≤ q.2∧q.2 ≤ 512:=by
 obtain ⟨_,g2,g3,_⟩:=h.gs l hl r hr
 refine ⟨by unfold prt9;rw [List.length_map];exact g2,fun q hq => ?_⟩
 obtain ⟨p,hp,rfl⟩:=List.mem_map.1 hq
 have:=g3 p hp
 exact ⟨this.1,(h.coef hl hr (p:=p) (by omega)).2.2⟩
theorem flat_b {α:Type} (f:α→List (List Int × Int)) (m:Nat):∀ (L:List α),(∀ x ∈ L,(f x).length ≤ m∧∀ q ∈ f x,q.1.length ≤ 8∧-512 ≤ q.2∧q.2 ≤ 512)→(L.flatMap f).length ≤ m * L.length∧∀ q ∈ L.flatMap f,q.1.length ≤ 8∧-512 ≤ q.2∧q.2 ≤ 512
 | [],_ => ⟨by simp,by simp⟩
 | x :: L,h => by
  obtain ⟨h1,h2⟩:=h x (by simp)
  obtain ⟨h3,h4⟩:=flat_b f m L (fun y hy => h y (by simp [hy]))
  rw [List.flatMap_cons]
  refine ⟨by rw [List.length_append,List.length_cons,Nat.mul_succ];omega,fun q hq => ?_⟩
  rcases List.mem_append.1 hq with hq|hq
  ·exact h2 q hq
  ·exact h4 q hq
theorem flat_take {α:Type} (f:α→List (List Int × Int)) (L:List α) (i:Nat) (hi:i < L.length):(L.take (i + 1)).flatMap f = (L.take i).flatMap f ++ f L[i]:=by
 rw [List.take_succ_eq_append_getElem hi,List.flatMap_append];simp
set_option maxRecDepth 20000 in
set_option maxHeartbeats 16000000 in
theorem a_graft9 (out left right:List (List Int × Int)) (k:Int) (h:Gr9 left right k) {n:Nat} {B:Int} (ho:Sm9 n B out) (hn:n ≤ 10000) (hB0:0 ≤ B) (hB:B ≤ 100000000) :
  AFn Try.prog 12 [[.sl 2 (out.map eCt)],[.sl 2 (left.map eCt)],[.sl 2 (right.map eCt)],eI k] (· = [.val (.sl 2 ((add9 out (pairs9 left right k)).map eCt)),.val (.bool true)]):=by
 have hlm:(left.map eCt).length = left.length:=List.length_map _
 have hrm:(right.map eCt).length = right.length:=List.length_map _
 have hll:=h.ll
 have hrl:=h.rl
 have row:∀ l ∈ left,∀ j,((right.take j).flatMap fun r => prt9 k l r).length ≤ 80∧∀ q ∈ (right.take j).flatMap fun r => prt9 k l r,q.1.length ≤ 8∧-512 ≤ q.2∧q.2 ≤ 512:=fun l hl j => by
  obtain ⟨h1,h2⟩:=flat_b (fun r => prt9 k l r) 8 (right.take j) (fun r hr => prt9_b h hl (List.mem_of_mem_take hr))
  rw [List.length_take] at h1
  exact ⟨by omega,h2⟩
 have all:∀ i,((left.take i).flatMap fun l => right.flatMap fun r => prt9 k l r).length ≤ 800∧∀ q ∈ (left.take i).flatMap fun l => right.flatMap fun r => prt9 k l r,q.1.length ≤ 8∧-512 ≤ q.2∧q.2 ≤ 512:=fun i => by
  obtain ⟨h1,h2⟩:=flat_b (fun l => right.flatMap fun r => prt9 k l r) 80 (left.take i) (fun l hl => by
   have:=row l (List.mem_of_mem_take hl) right.length
   rwa [List.take_length] at this)
  rw [List.length_take] at h1
  exact ⟨by omega,h2⟩
 refine AFn.of_runs (cfg_ok 76) Try.func12 rfl rfl rfl (by simp only [List.length_cons,List.length_nil];decide) ?_
 have hres:Try.f12.results.toList = [.tmp 8,.tmp 9]:=rfl
 have hrts:Try.f12.resultTypes.toList = [31,4]:=rfl
 simp only [argRegs,argAV1,eL,eI,eLL,eB,Nat.zero_add,Nat.reduceAdd]
 intro M
 refine RunK.of ?_
 repeat' (first|with_reducible (first|refine Q1 ?_|refine Q2 ?_|refine Q3 ?_|refine Q4 ?_|refine Q5 ?_|refine Q6 ?_|refine Q7 ?_|refine Q8 ?_|refine Q9 ?_|refine Qa ?_|refine Qb ?_|refine Qc ?_|refine Qd ?_|refine Qe ?_|refine Qf ?_)|((with_reducible refine Qo ?_ ?_);focus rfl)|((with_reducible first|refine QT 15 (l:=?_) ?_ ?_|refine QF 15 (l:=?_) ?_ ?_);rotate_left 1;focus (simp only [Zu,Nat.reduceSub,Nat.reduceBEq];with_reducible rfl))|((with_reducible first|refine QS (cfg_ok 76) Tab.none (s':=?_) ?_ ?_|refine QC (b:=?_) ?_ ?_);rotate_left 1;focus ((with_reducible refine QW ?_);simp only [Zg,seval,if_true,if_false,reduceCtorEq,Nat.reduceEqDiff];with_reducible rfl))|((with_reducible refine QD (cfg_ok 76) Tab.none mixed_ok (tr:=?_) (s':=?_) ?_ ?_ ?_);rotate_left 2;(focus ((with_reducible refine QW ?_);simp only [Zg,Zd,seval,if_true,if_false,reduceCtorEq,Nat.reduceEqDiff];with_reducible rfl));focus ((with_reducible refine QK ?_);simp only [Zk];kernel_rfl)))
 refine RunK.loop (β:=Nat) (γ:=Unit) (fun i => ⟨[(0,.c (.val (.sl 2 ((add9 out ((left.take i).flatMap fun l => right.flatMap fun r => prt9 k l r)).map eCt)))),(1,.c (.val (.sl 2 (left.map eCt)))),(2,.c (.val (.sl 2 (right.map eCt)))),(3,.c (.val (.int k))),(10,.c (.val (.int i)))],[]⟩) (fun i => i ≤ left.length) (fun i => left.length - i)
  (fun _ => ⟨[(0,.c (.val (.sl 2 ((add9 out (pairs9 left right k)).map eCt))))],[]⟩) (fun _ => True) 0 (Nat.zero_le _) ?_ ?_ ?_
 ·(repeat' (first|with_reducible refine Qn|((with_reducible refine Qr ?_ ?_);focus (first|with_reducible rfl|(simp only [Zz,Nat.reduceBEq,List.take_zero,List.flatMap_nil,add9,List.foldl_nil,Int.natCast_zero];done)|rfl))|((with_reducible refine Qj (o':=?_) ?_ ?_ ?_);rotate_left 1;focus rfl)|((with_reducible refine Qw ?_ ?_);(focus (first|with_reducible rfl|(simp only [Zv,List.take_zero,List.flatMap_nil,add9,List.foldl_nil,Int.natCast_zero];done)));focus (first|exact id|exact (fun h => nomatch h)|exact (fun _ => rfl)))))
 ·intro i hi
  have hi:i ≤ left.length:=hi
  have hw:=w64_succ (n:=i) (by omega)
  by_cases hil:i < left.length
  ·have i1:((i:Int) < (left.length:Int)) = True:=eq_true (by omega)
   have i2:((0:Int) ≤ (i:Int)) = True:=eq_true (by omega)
   have hlm9:=List.getElem_mem hil
   have hft:=flat_take (fun l => right.flatMap fun r => prt9 k l r) left i hil
   obtain ⟨al1,al2⟩:=all i
   have hso:=add9_sm ho hB0 al2
   obtain ⟨l,hl⟩:∃ l,l = left[i]:=⟨_,rfl⟩
   have hg:(left.map eCt)[i]? = some (eCt l):=by rw [List.getElem?_map,List.getElem?_eq_getElem hil,hl];rfl
   rw [← hl] at hlm9 hft
   obtain ⟨Y,hY⟩:∃ Y,Y = add9 out ((left.take i).flatMap fun l => right.flatMap fun r => prt9 k l r):=⟨_,rfl⟩
   rw [← hY] at hso ⊢
   have hnext:add9 out ((left.take (i + 1)).flatMap fun l => right.flatMap fun r => prt9 k l r) = add9 Y (right.flatMap fun r => prt9 k l r):=by rw [hft,add9_app,← hY]
   repeat' (first|with_reducible (first|refine Q1 ?_|refine Q2 ?_|refine Q3 ?_|refine Q4 ?_|refine Q5 ?_|refine Q6 ?_|refine Q7 ?_|refine Q8 ?_|refine Q9 ?_|refine Qa ?_|refine Qb ?_|refine Qc ?_|refine Qd ?_|refine Qe ?_|refine Qf ?_)|((with_reducible refine Qo ?_ ?_);focus rfl)|((with_reducible first|refine QT 15 (l:=?_) ?_ ?_|refine QF 15 (l:=?_) ?_ ?_);rotate_left 1;focus (simp only [Zu,Nat.reduceSub,Nat.reduceBEq];with_reducible rfl))|((with_reducible first|refine QS (cfg_ok 76) Tab.none (s':=?_) ?_ ?_|refine QC (b:=?_) ?_ ?_);rotate_left 1;focus ((with_reducible refine QW ?_);simp only [Zg,seval,if_true,if_false,reduceCtorEq,Nat.reduceEqDiff,i1,hlm];with_reducible rfl))|((with_reducible refine QD (cfg_ok 76) Tab.none mixed_ok (tr:=?_) (s':=?_) ?_ ?_ ?_);rotate_left 2;(focus ((with_reducible refine QW ?_);simp only [Zg,Zd,seval,if_true,if_false,reduceCtorEq,Nat.reduceEqDiff,i1,hlm];with_reducible rfl));focus ((with_reducible refine QK ?_);simp only [Zk];kernel_rfl)))
   refine RunK.loop (β:=Nat) (γ:=Unit) (fun j => ⟨[(0,.c (.val (.sl 2 ((add9 Y ((right.take j).flatMap fun r => prt9 k l r)).map eCt)))),(1,.c (.val (.sl 2 (left.map eCt)))),(2,.c (.val (.sl 2 (right.map eCt)))),(3,.c (.val (.int k))),(10,.c (.val (.int i))),(11,.c (.val (.int j)))],[]⟩) (fun j => j ≤ right.length) (fun j => right.length - j)
    (fun _ => ⟨[(0,.c (.val (.sl 2 ((add9 Y (right.flatMap fun r => prt9 k l r)).map eCt)))),(1,.c (.val (.sl 2 (left.map eCt)))),(2,.c (.val (.sl 2 (right.map eCt)))),(3,.c (.val (.int k))),(10,.c (.val (.int i)))],[]⟩) (fun _ => True) 0 (Nat.zero_le _) ?_ ?_ ?_
   ·(repeat' (first|with_reducible refine Qn|((with_reducible refine Qr ?_ ?_);focus (first|with_reducible rfl|(simp only [Zz,Nat.reduceBEq,List.take_zero,List.flatMap_nil,add9,List.foldl_nil,Int.natCast_zero];done)|rfl))|((with_reducible refine Qj (o':=?_) ?_ ?_ ?_);rotate_left 1;focus rfl)|((with_reducible refine Qw ?_ ?_);(focus (first|with_reducible rfl|(simp only [Zv,List.take_zero,List.flatMap_nil,add9,List.foldl_nil,Int.natCast_zero];done)));focus (first|exact id|exact (fun h => nomatch h)|exact (fun _ => rfl)))))
   ·intro j hj
    have hj:j ≤ right.length:=hj
    have hwj:=w64_succ (n:=j) (by omega)
    by_cases hjr:j < right.length
    ·have j1:((j:Int) < (right.length:Int)) = True:=eq_true (by omega)
     have j2:((0:Int) ≤ (j:Int)) = True:=eq_true (by omega)
     have hrm9:=List.getElem_mem hjr
     have hft2:=flat_take (fun r => prt9 k l r) right j hjr
     obtain ⟨ro1,ro2⟩:=row l hlm9 j
     have hso2:=add9_sm hso (by omega) ro2
     obtain ⟨r,hr⟩:∃ r,r = right[j]:=⟨_,rfl⟩
     have hgr:(right.map eCt)[j]? = some (eCt r):=by rw [List.getElem?_map,List.getElem?_eq_getElem hjr,hr];rfl
     rw [← hr] at hrm9 hft2
     obtain ⟨X,hX⟩:∃ X,X = add9 Y ((right.take j).flatMap fun r => prt9 k l r):=⟨_,rfl⟩
     rw [← hX] at hso2 ⊢
     have hnext2:add9 Y ((right.take (j + 1)).flatMap fun r => prt9 k l r) = add9 X (prt9 k l r):=by rw [hft2,add9_app,← hX]
     obtain ⟨g1,g2,g3,g4,g5⟩:=h.gs l hlm9 r hrm9
     have hgs:=AFn.valT2 (a_impl_GraftSum l.1 r.1 (by omega) (by omega))
     obtain ⟨pb1,pb2⟩:=prt9_b h hlm9 hrm9
     have hco:=fun p hp => h.coef hlm9 hrm9 (p:=p) hp
     obtain ⟨G,hG⟩:∃ G,G = (gsOf l.1 r.1).1:=⟨_,rfl⟩
     have hpG:prt9 k l r = G.map fun p => (p.1,k * l.2 * r.2 * p.2):=by rw [hG];rfl
     rw [g1,← hG] at hgs
     rw [← hG] at g2 g3
     have hGm:(G.map eCt).length = G.length:=List.length_map _
     obtain ⟨lt,lc⟩:=l
     obtain ⟨rt,rc⟩:=r
     simp only at hgs hco hpG g4 g5
     simp only [eCt] at hg hgr
     simp only [eL] at hgs
     have b0:((0:Int) != 0) = false:=by decide
     repeat' (first|with_reducible (first|refine Q1 ?_|refine Q2 ?_|refine Q3 ?_|refine Q4 ?_|refine Q5 ?_|refine Q6 ?_|refine Q7 ?_|refine Q8 ?_|refine Q9 ?_|refine Qa ?_|refine Qb ?_|refine Qc ?_|refine Qd ?_|refine Qe ?_|refine Qf ?_)|((with_reducible refine Qo ?_ ?_);focus rfl)|((with_reducible first|refine QT 15 (l:=?_) ?_ ?_|refine QF 15 (l:=?_) ?_ ?_);rotate_left 1;focus (simp only [Zu,Nat.reduceSub,Nat.reduceBEq];with_reducible rfl))|((with_reducible first|refine QS (cfg_ok 76) Tab.none (s':=?_) ?_ ?_|refine QC (b:=?_) ?_ ?_);rotate_left 1;focus ((with_reducible refine QW ?_);simp only [Zg,seval,if_true,if_false,reduceCtorEq,Nat.reduceEqDiff,j1,hrm];with_reducible rfl)))
     (((with_reducible refine RunK.wFz (cfg_ok 76) (Tab.none.at' 9 hgs) mixed_ok [12] (tr:=?_) (s1:=?_) (rest:=?_) ?_ ?_ ?_);rotate_left 3;(focus ((with_reducible refine QW ?_);simp only [Zg,Zd,seval,if_true,if_false,reduceCtorEq,Nat.reduceEqDiff,drunF,devalF,devalB,valD,dregF_mk,List.contains_cons,List.contains_nil,i1,i2,j1,j2,hlm,hrm,hg,hgr,Int.toNat_natCast];with_reducible rfl));focus ((with_reducible refine QK ?_);simp only [Zk];kernel_rfl));(refine ROps.opsT (cfg_ok 76) (T:=(Tab.none.at' 9 hgs)) (s':=?_) ?_ ?_;rotate_left 1;focus (simp only [Zg,seval,if_true,if_false,reduceCtorEq,Nat.reduceEqDiff,i1,i2,j1,j2,hlm,hrm,hg,hgr,Int.toNat_natCast];with_reducible rfl)))
     repeat' (first|with_reducible (first|refine Q1 ?_|refine Q2 ?_|refine Q3 ?_|refine Q4 ?_|refine Q5 ?_|refine Q6 ?_|refine Q7 ?_|refine Q8 ?_|refine Q9 ?_|refine Qa ?_|refine Qb ?_|refine Qc ?_|refine Qd ?_|refine Qe ?_|refine Qf ?_)|((with_reducible refine Qo ?_ ?_);focus rfl)|((with_reducible first|refine QT 15 (l:=?_) ?_ ?_|refine QF 15 (l:=?_) ?_ ?_);rotate_left 1;focus (simp only [Zu,Nat.reduceSub,Nat.reduceBEq];with_reducible rfl))|((with_reducible first|refine QS (cfg_ok 76) Tab.none (s':=?_) ?_ ?_|refine QC (b:=?_) ?_ ?_);rotate_left 1;focus ((with_reducible refine QW ?_);simp only [Zg,seval,if_true,if_false,reduceCtorEq,Nat.reduceEqDiff,b0];with_reducible rfl)))
     refine RunK.loop (β:=Nat) (γ:=Unit) (fun m => ⟨[(0,.c (.val (.sl 2 ((add9 X ((prt9 k (lt,lc) (rt,rc)).take m)).map eCt)))),(1,.c (.val (.sl 2 (left.map eCt)))),(2,.c (.val (.sl 2 (right.map eCt)))),(3,.c (.val (.int k))),(10,.c (.val (.int i))),(11,.c (.val (.int j))),(12,.c (.val (.sl 2 (G.map eCt)))),(14,.c (.val (.int m)))],[]⟩) (fun m => m ≤ G.length) (fun m => G.length - m)
      (fun _ => ⟨[(0,.c (.val (.sl 2 ((add9 X (prt9 k (lt,lc) (rt,rc))).map eCt)))),(1,.c (.val (.sl 2 (left.map eCt)))),(2,.c (.val (.sl 2 (right.map eCt)))),(3,.c (.val (.int k))),(10,.c (.val (.int i))),(11,.c (.val (.int j)))],[]⟩) (fun _ => True) 0 (Nat.zero_le _) ?_ ?_ ?_
     ·(repeat' (first|with_reducible refine Qn|((with_reducible refine Qr ?_ ?_);focus (first|with_reducible rfl|(simp only [Zz,Nat.reduceBEq,List.take_zero,add9,List.foldl_nil,Int.natCast_zero];done)|rfl))|((with_reducible refine Qj (o':=?_) ?_ ?_ ?_);rotate_left 1;focus rfl)|((with_reducible refine Qw ?_ ?_);(focus (first|with_reducible rfl|(simp only [Zv,List.take_zero,add9,List.foldl_nil,Int.natCast_zero];done)));focus (first|exact id|exact (fun h => nomatch h)|exact (fun _ => rfl)))))
     ·intro m hm
      have hm:m ≤ G.length:=hm
      have hwm:=w64_succ (n:=m) (by omega)
      by_cases hmG:m < G.length
      ·have m1:((m:Int) < (G.length:Int)) = True:=eq_true (by omega)
       have m2:((0:Int) ≤ (m:Int)) = True:=eq_true (by omega)
       have hpb:=g3 G[m] (List.getElem_mem _)
       have hcp:=hco G[m] (by omega)
       have hpl:(prt9 k (lt,lc) (rt,rc)).length = G.length:=by rw [hpG,List.length_map]
       have htk:(prt9 k (lt,lc) (rt,rc)).take (m + 1) = (prt9 k (lt,lc) (rt,rc)).take m ++ [(G[m].1,k * lc * rc * G[m].2)]:=by
        rw [List.take_succ_eq_append_getElem (by omega)]
        congr 2
        simp only [hpG,List.getElem_map]
       have hso3:=add9_sm hso2 (by omega) (ps:=(prt9 k (lt,lc) (rt,rc)).take m) (fun q hq => pb2 q (List.mem_of_mem_take hq))
       have htl:((prt9 k (lt,lc) (rt,rc)).take m).length ≤ 8:=by rw [List.length_take];omega
       obtain ⟨⟨pt,pc⟩,hpd⟩:∃ p,p = G[m]:=⟨_,rfl⟩
       have hgp:(G.map eCt)[m]? = some (eCt (pt,pc)):=by rw [List.getElem?_map,List.getElem?_eq_getElem hmG,hpd];rfl
       rw [← hpd] at hpb hcp htk
       simp only at hpb hcp htk
       obtain ⟨W,hW⟩:∃ W,W = add9 X ((prt9 k (lt,lc) (rt,rc)).take m):=⟨_,rfl⟩
       rw [← hW] at hso3 ⊢
       have hn3:add9 X ((prt9 k (lt,lc) (rt,rc)).take (m + 1)) = sum9F W pt (k * lc * rc * pc):=by rw [htk,add9_app,← hW];rfl
       have hsm:=AFn.val1 (a_sum9 W pt (k * lc * rc * pc) hso3 (by omega) (by omega) (by omega) (by omega))
       have w1:w64 (k * lc) = k * lc:=w64_eq (by omega)
       have w2:w64 (k * lc * rc) = k * lc * rc:=w64_eq (by omega)
       have w3:w64 (k * lc * rc * pc) = k * lc * rc * pc:=w64_eq (by omega)
       simp only [eCt] at hgp
       simp only [eL,eI] at hsm
       repeat' (first|with_reducible (first|refine Q1 ?_|refine Q2 ?_|refine Q3 ?_|refine Q4 ?_|refine Q5 ?_|refine Q6 ?_|refine Q7 ?_|refine Q8 ?_|refine Q9 ?_|refine Qa ?_|refine Qb ?_|refine Qc ?_|refine Qd ?_|refine Qe ?_|refine Qf ?_)|((with_reducible refine Qo ?_ ?_);focus rfl)|((with_reducible first|refine QT 15 (l:=?_) ?_ ?_|refine QF 15 (l:=?_) ?_ ?_);rotate_left 1;focus (simp only [Zu,Nat.reduceSub,Nat.reduceBEq];with_reducible rfl))|((with_reducible first|refine QS (cfg_ok 76) (Tab.none.at' 13 hsm) (s':=?_) ?_ ?_|refine QC (b:=?_) ?_ ?_);rotate_left 1;focus ((with_reducible refine QW ?_);simp only [Zg,seval,if_true,if_false,reduceCtorEq,Nat.reduceEqDiff,i1,i2,j1,j2,m1,m2,hlm,hrm,hGm,hg,hgr,hgp,w1,w2,w3,hwm,Int.toNat_natCast];with_reducible rfl))|((with_reducible refine QD (cfg_ok 76) (Tab.none.at' 13 hsm) mixed_ok (tr:=?_) (s':=?_) ?_ ?_ ?_);rotate_left 2;(focus ((with_reducible refine QW ?_);simp only [Zg,Zd,seval,if_true,if_false,reduceCtorEq,Nat.reduceEqDiff,i1,i2,j1,j2,m1,m2,hlm,hrm,hGm,hg,hgr,hgp,w1,w2,w3,hwm,Int.toNat_natCast];with_reducible rfl));focus ((with_reducible refine QK ?_);simp only [Zk];kernel_rfl)))
       refine roundK.on (m + 1) ⟨hmG,by omega⟩ ?_
       rw [hn3]
       (repeat' (first|with_reducible refine Qn|((with_reducible refine Qr ?_ ?_);focus (first|with_reducible rfl|(simp only [Zz,Nat.reduceBEq];done)|rfl))|((with_reducible refine Qj (o':=?_) ?_ ?_ ?_);rotate_left 1;focus rfl)|((with_reducible refine Qw ?_ ?_);(focus (first|with_reducible rfl|(simp only [Zv];done)));focus (first|exact id|exact (fun h => nomatch h)|exact (fun _ => rfl)))))
      ·have m1:((m:Int) < (G.length:Int)) = False:=eq_false (by omega)
       obtain rfl:m = G.length:=by omega
       have hpl:(prt9 k (lt,lc) (rt,rc)).length = G.length:=by rw [hpG,List.length_map]
       rw [← hpl,List.take_length,hpl]
       repeat' (first|with_reducible (first|refine Q1 ?_|refine Q2 ?_|refine Q3 ?_|refine Q4 ?_|refine Q5 ?_|refine Q6 ?_|refine Q7 ?_|refine Q8 ?_|refine Q9 ?_|refine Qa ?_|refine Qb ?_|refine Qc ?_|refine Qd ?_|refine Qe ?_|refine Qf ?_)|((with_reducible refine Qo ?_ ?_);focus rfl)|((with_reducible first|refine QT 15 (l:=?_) ?_ ?_|refine QF 15 (l:=?_) ?_ ?_);rotate_left 1;focus (simp only [Zu,Nat.reduceSub,Nat.reduceBEq];with_reducible rfl))|((with_reducible first|refine QS (cfg_ok 76) Tab.none (s':=?_) ?_ ?_|refine QC (b:=?_) ?_ ?_);rotate_left 1;focus ((with_reducible refine QW ?_);simp only [Zg,seval,if_true,if_false,reduceCtorEq,Nat.reduceEqDiff,m1,hGm];with_reducible rfl))|((with_reducible refine QD (cfg_ok 76) Tab.none mixed_ok (tr:=?_) (s':=?_) ?_ ?_ ?_);rotate_left 2;(focus ((with_reducible refine QW ?_);simp only [Zg,Zd,seval,if_true,if_false,reduceCtorEq,Nat.reduceEqDiff,m1,hGm];with_reducible rfl));focus ((with_reducible refine QK ?_);simp only [Zk];kernel_rfl)))
       refine roundK.out () trivial ?_
       (repeat' (first|with_reducible refine Qn|((with_reducible refine Qr ?_ ?_);focus (first|with_reducible rfl|(simp only [Zz,Nat.reduceBEq];done)|rfl))|((with_reducible refine Qj (o':=?_) ?_ ?_ ?_);rotate_left 1;focus rfl)|((with_reducible refine Qw ?_ ?_);(focus (first|with_reducible rfl|(simp only [Zv];done)));focus (first|exact id|exact (fun h => nomatch h)|exact (fun _ => rfl)))))
     ·intro _ _
      repeat' (first|with_reducible (first|refine Q1 ?_|refine Q2 ?_|refine Q3 ?_|refine Q4 ?_|refine Q5 ?_|refine Q6 ?_|refine Q7 ?_|refine Q8 ?_|refine Q9 ?_|refine Qa ?_|refine Qb ?_|refine Qc ?_|refine Qd ?_|refine Qe ?_|refine Qf ?_)|((with_reducible refine Qo ?_ ?_);focus rfl)|((with_reducible first|refine QT 15 (l:=?_) ?_ ?_|refine QF 15 (l:=?_) ?_ ?_);rotate_left 1;focus (simp only [Zu,Nat.reduceSub,Nat.reduceBEq];with_reducible rfl))|((with_reducible first|refine QS (cfg_ok 76) Tab.none (s':=?_) ?_ ?_|refine QC (b:=?_) ?_ ?_);rotate_left 1;focus ((with_reducible refine QW ?_);simp only [Zg,seval,if_true,if_false,reduceCtorEq,Nat.reduceEqDiff,hwj];with_reducible rfl))|((with_reducible refine QD (cfg_ok 76) Tab.none mixed_ok (tr:=?_) (s':=?_) ?_ ?_ ?_);rotate_left 2;(focus ((with_reducible refine QW ?_);simp only [Zg,Zd,seval,if_true,if_false,reduceCtorEq,Nat.reduceEqDiff,hwj];with_reducible rfl));focus ((with_reducible refine QK ?_);simp only [Zk];kernel_rfl)))
      refine roundK.on (j + 1) ⟨hjr,by omega⟩ ?_
      rw [hnext2]
      (repeat' (first|with_reducible refine Qn|((with_reducible refine Qr ?_ ?_);focus (first|with_reducible rfl|(simp only [Zz,Nat.reduceBEq];done)|rfl))|((with_reducible refine Qj (o':=?_) ?_ ?_ ?_);rotate_left 1;focus rfl)|((with_reducible refine Qw ?_ ?_);(focus (first|with_reducible rfl|(simp only [Zv];done)));focus (first|exact id|exact (fun h => nomatch h)|exact (fun _ => rfl)))))
    ·have j1:((j:Int) < (right.length:Int)) = False:=eq_false (by omega)
     obtain rfl:j = right.length:=by omega
     rw [List.take_length]
     repeat' (first|with_reducible (first|refine Q1 ?_|refine Q2 ?_|refine Q3 ?_|refine Q4 ?_|refine Q5 ?_|refine Q6 ?_|refine Q7 ?_|refine Q8 ?_|refine Q9 ?_|refine Qa ?_|refine Qb ?_|refine Qc ?_|refine Qd ?_|refine Qe ?_|refine Qf ?_)|((with_reducible refine Qo ?_ ?_);focus rfl)|((with_reducible first|refine QT 15 (l:=?_) ?_ ?_|refine QF 15 (l:=?_) ?_ ?_);rotate_left 1;focus (simp only [Zu,Nat.reduceSub,Nat.reduceBEq];with_reducible rfl))|((with_reducible first|refine QS (cfg_ok 76) Tab.none (s':=?_) ?_ ?_|refine QC (b:=?_) ?_ ?_);rotate_left 1;focus ((with_reducible refine QW ?_);simp only [Zg,seval,if_true,if_false,reduceCtorEq,Nat.reduceEqDiff,j1,hrm];with_reducible rfl))|((with_reducible refine QD (cfg_ok 76) Tab.none mixed_ok (tr:=?_) (s':=?_) ?_ ?_ ?_);rotate_left 2;(focus ((with_reducible refine QW ?_);simp only [Zg,Zd,seval,if_true,if_false,reduceCtorEq,Nat.reduceEqDiff,j1,hrm];with_reducible rfl));focus ((with_reducible refine QK ?_);simp only [Zk];kernel_rfl)))
     refine roundK.out () trivial ?_
     (repeat' (first|with_reducible refine Qn|((with_reducible refine Qr ?_ ?_);focus (first|with_reducible rfl|(simp only [Zz,Nat.reduceBEq];done)|rfl))|((with_reducible refine Qj (o':=?_) ?_ ?_ ?_);rotate_left 1;focus rfl)|((with_reducible refine Qw ?_ ?_);(focus (first|with_reducible rfl|(simp only [Zv];done)));focus (first|exact id|exact (fun h => nomatch h)|exact (fun _ => rfl)))))
   ·intro _ _
    repeat' (first|with_reducible (first|refine Q1 ?_|refine Q2 ?_|refine Q3 ?_|refine Q4 ?_|refine Q5 ?_|refine Q6 ?_|refine Q7 ?_|refine Q8 ?_|refine Q9 ?_|refine Qa ?_|refine Qb ?_|refine Qc ?_|refine Qd ?_|refine Qe ?_|refine Qf ?_)|((with_reducible refine Qo ?_ ?_);focus rfl)|((with_reducible first|refine QT 15 (l:=?_) ?_ ?_|refine QF 15 (l:=?_) ?_ ?_);rotate_left 1;focus (simp only [Zu,Nat.reduceSub,Nat.reduceBEq];with_reducible rfl))|((with_reducible first|refine QS (cfg_ok 76) Tab.none (s':=?_) ?_ ?_|refine QC (b:=?_) ?_ ?_);rotate_left 1;focus ((with_reducible refine QW ?_);simp only [Zg,seval,if_true,if_false,reduceCtorEq,Nat.reduceEqDiff,hw];with_reducible rfl))|((with_reducible refine QD (cfg_ok 76) Tab.none mixed_ok (tr:=?_) (s':=?_) ?_ ?_ ?_);rotate_left 2;(focus ((with_reducible refine QW ?_);simp only [Zg,Zd,seval,if_true,if_false,reduceCtorEq,Nat.reduceEqDiff,hw];with_reducible rfl));focus ((with_reducible refine QK ?_);simp only [Zk];kernel_rfl)))
    refine roundK.on (i + 1) ⟨hil,by omega⟩ ?_
    rw [hnext]
    (repeat' (first|with_reducible refine Qn|((with_reducible refine Qr ?_ ?_);focus (first|with_reducible rfl|(simp only [Zz,Nat.reduceBEq];done)|rfl))|((with_reducible refine Qj (o':=?_) ?_ ?_ ?_);rotate_left 1;focus rfl)|((with_reducible refine Qw ?_ ?_);(focus (first|with_reducible rfl|(simp only [Zv];done)));focus (first|exact id|exact (fun h => nomatch h)|exact (fun _ => rfl)))))
  ·have i1:((i:Int) < (left.length:Int)) = False:=eq_false (by omega)
   obtain rfl:i = left.length:=by omega
   rw [List.take_length]
   repeat' (first|with_reducible (first|refine Q1 ?_|refine Q2 ?_|refine Q3 ?_|refine Q4 ?_|refine Q5 ?_|refine Q6 ?_|refine Q7 ?_|refine Q8 ?_|refine Q9 ?_|refine Qa ?_|refine Qb ?_|refine Qc ?_|refine Qd ?_|refine Qe ?_|refine Qf ?_)|((with_reducible refine Qo ?_ ?_);focus rfl)|((with_reducible first|refine QT 15 (l:=?_) ?_ ?_|refine QF 15 (l:=?_) ?_ ?_);rotate_left 1;focus (simp only [Zu,Nat.reduceSub,Nat.reduceBEq];with_reducible rfl))|((with_reducible first|refine QS (cfg_ok 76) Tab.none (s':=?_) ?_ ?_|refine QC (b:=?_) ?_ ?_);rotate_left 1;focus ((with_reducible refine QW ?_);simp only [Zg,seval,if_true,if_false,reduceCtorEq,Nat.reduceEqDiff,i1,hlm];with_reducible rfl))|((with_reducible refine QD (cfg_ok 76) Tab.none mixed_ok (tr:=?_) (s':=?_) ?_ ?_ ?_);rotate_left 2;(focus ((with_reducible refine QW ?_);simp only [Zg,Zd,seval,if_true,if_false,reduceCtorEq,Nat.reduceEqDiff,i1,hlm];with_reducible rfl));focus ((with_reducible refine QK ?_);simp only [Zk];kernel_rfl)))
   refine roundK.out () trivial ?_
   (repeat' (first|with_reducible refine Qn|((with_reducible refine Qr ?_ ?_);focus (first|with_reducible rfl|(simp only [Zz,Nat.reduceBEq,pairs9];done)|rfl))|((with_reducible refine Qj (o':=?_) ?_ ?_ ?_);rotate_left 1;focus rfl)|((with_reducible refine Qw ?_ ?_);(focus (first|with_reducible rfl|(simp only [Zv,pairs9];done)));focus (first|exact id|exact (fun h => nomatch h)|exact (fun _ => rfl)))))
 ·intro _ _
  repeat' (first|with_reducible (first|refine Q1 ?_|refine Q2 ?_|refine Q3 ?_|refine Q4 ?_|refine Q5 ?_|refine Q6 ?_|refine Q7 ?_|refine Q8 ?_|refine Q9 ?_|refine Qa ?_|refine Qb ?_|refine Qc ?_|refine Qd ?_|refine Qe ?_|refine Qf ?_)|((with_reducible refine Qo ?_ ?_);focus rfl)|((with_reducible first|refine QT 15 (l:=?_) ?_ ?_|refine QF 15 (l:=?_) ?_ ?_);rotate_left 1;focus (simp only [Zu,Nat.reduceSub,Nat.reduceBEq];with_reducible rfl))|((with_reducible first|refine QS (cfg_ok 76) Tab.none (s':=?_) ?_ ?_|refine QC (b:=?_) ?_ ?_);rotate_left 1;focus ((with_reducible refine QW ?_);simp only [Zg,seval,if_true,if_false,reduceCtorEq,Nat.reduceEqDiff];with_reducible rfl))|((with_reducible refine QD (cfg_ok 76) Tab.none mixed_ok (tr:=?_) (s':=?_) ?_ ?_ ?_);rotate_left 2;(focus ((with_reducible refine QW ?_);simp only [Zg,Zd,seval,if_true,if_false,reduceCtorEq,Nat.reduceEqDiff];with_reducible rfl));focus ((with_reducible refine QK ?_);simp only [Zk];kernel_rfl)))
  (refine Ends.mk (by simp) (rs:=?_) (ks:=?_) hres hrts ?_ ?_ ?_;rotate_left 2;(focus (simp only [Ze,Zg,seval,if_true,if_false,reduceCtorEq,Nat.reduceEqDiff];with_reducible rfl));(focus simp);focus (first|with_reducible rfl|(simp only [Zv];done)))
end Go.Proofs.Ytgngidchldajhaa
