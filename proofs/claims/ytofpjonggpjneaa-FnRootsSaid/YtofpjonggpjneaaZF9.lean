/- Lemmas (9). -/
import Derived.Test.YtofpjonggpjneaaZF1
import Derived.Test.YtofpjonggpjneaaZF2
import Derived.Test.YtofpjonggpjneaaZF3
import Derived.Test.YtofpjonggpjneaaZF6
import Derived.Test.YtofpjonggpjneaaZF7
import Derived.Test.YtofpjonggpjneaaZF8
set_option linter.unusedSimpArgs false
set_option linter.unusedVariables false
namespace Go.Proofs.Ytofpjonggpjneaa
open Go.RowKit
theorem a_areLevels (xs:List (List Int)):AFn Try.prog 106 [eLL xs] (· = [.val (.bool (xs.all lev8))]):=afn_LLL_s (v:=.bool _) (enters_of Try.func106 rfl rfl) (fun _ _ => rdV_bool.2 rfl) (fun u w h => c_impl_areLevels u xs w h)
def asfOf (s t:List Int):Bool × Int:=if (lev8 s && lev8 t) = true then (decide (freeT (canon s) = freeT (canon t)),0) else (false,1)
noncomputable def TFreeI:Tab Try.prog :=
 (Tab.none.add 119 (tab1 codL fun t => if lev8 t = true then some [.own 1 ((freeT (canon t)).map eI) true] else none) (tab1_ok fun t rs h => by split at h;cases h;exact a_freeForm t ‹_›;cases h)).add
  104 (tab2 codL codL fun xs ys => some [.val (.bool (decide (xs = ys)))]) (tab2_ok fun xs ys rs h => by cases h;exact a_slicesEqual xs ys)
set_option maxHeartbeats 1000000 in
theorem a_impl_AreSameFree (s t:List Int):AFn Try.prog 41 [eL s,eL t] (· = [.val (.bool (asfOf s t).1),.val (.int (asfOf s t).2)]):=by
 have h1:=a_areLevels [s,t]
 refine AFn.of_runs (cfg_ok 16) Try.func41 rfl rfl rfl (by simp only [List.length_cons,List.length_nil];decide) ?_
 have hres:Try.f41.results.toList = [.tmp 4,.tmp 5]:=rfl
 have hrts:Try.f41.resultTypes.toList = [4,2]:=rfl
 simp only [argRegs,argAV1,eL,eI,eLL,eB,Nat.zero_add,Nat.reduceAdd]
 intro M
 refine RunK.of ?_
 by_cases h8:(lev8 s && lev8 t) = true
 ·have h8':=h8
  rw [Bool.and_eq_true] at h8'
  unfold asfOf
  rw [if_pos h8]
  repeat' (first|with_reducible (first|refine Q1 ?_|refine Q2 ?_|refine Q3 ?_|refine Q4 ?_|refine Q5 ?_|refine Q6 ?_|refine Q7 ?_|refine Q8 ?_|refine Q9 ?_|refine Qa ?_|refine Qb ?_|refine Qc ?_|refine Qd ?_|refine Qe ?_|refine Qf ?_)|((with_reducible refine Qo ?_ ?_);focus rfl)|((with_reducible first|refine QT 6 (l:=?_) ?_ ?_|refine QF 6 (l:=?_) ?_ ?_);rotate_left 1;focus (simp only [Zu,Nat.reduceSub,Nat.reduceBEq];with_reducible rfl))|((with_reducible first|refine QS (cfg_ok 16) (TFreeI.at' 106 h1) (s':=?_) ?_ ?_|refine QC (b:=?_) ?_ ?_);rotate_left 1;focus ((with_reducible refine QW ?_);simp only [Zg,seval,if_true,if_false,reduceCtorEq,Nat.reduceEqDiff,TFreeI,eL,eLL,h8,h8'.1,h8'.2,List.all_cons,List.all_nil];with_reducible rfl)))
  (refine Ends.mk (by simp) (rs:=?_) (ks:=?_) hres hrts ?_ ?_ ?_;rotate_left 2;(focus (simp only [Ze,Zg,seval,if_true,if_false,reduceCtorEq,Nat.reduceEqDiff];with_reducible rfl));(focus simp);focus (first|with_reducible rfl|(simp only [Zv];done)))
 ·have h8':(lev8 s && lev8 t) = false:=by simpa using h8
  unfold asfOf
  rw [if_neg h8]
  repeat' (first|with_reducible (first|refine Q1 ?_|refine Q2 ?_|refine Q3 ?_|refine Q4 ?_|refine Q5 ?_|refine Q6 ?_|refine Q7 ?_|refine Q8 ?_|refine Q9 ?_|refine Qa ?_|refine Qb ?_|refine Qc ?_|refine Qd ?_|refine Qe ?_|refine Qf ?_)|((with_reducible refine Qo ?_ ?_);focus rfl)|((with_reducible first|refine QT 6 (l:=?_) ?_ ?_|refine QF 6 (l:=?_) ?_ ?_);rotate_left 1;focus (simp only [Zu,Nat.reduceSub,Nat.reduceBEq];with_reducible rfl))|((with_reducible first|refine QS (cfg_ok 16) (Tab.none.at' 106 h1) (s':=?_) ?_ ?_|refine QC (b:=?_) ?_ ?_);rotate_left 1;focus ((with_reducible refine QW ?_);simp only [Zg,seval,if_true,if_false,reduceCtorEq,Nat.reduceEqDiff,eL,eLL,h8',List.all_cons,List.all_nil];with_reducible rfl)))
  (refine Ends.mk (by simp) (rs:=?_) (ks:=?_) hres hrts ?_ ?_ ?_;rotate_left 2;(focus (simp only [Ze,Zg,seval,if_true,if_false,reduceCtorEq,Nat.reduceEqDiff];with_reducible rfl));(focus simp);focus (first|with_reducible rfl|(simp only [Zv];done)))
end Go.Proofs.Ytofpjonggpjneaa
namespace Go.Proofs.Ytofpjonggpjneaa
open Go.RowKit
theorem nearStep_bd {near:List (List Int)} {i:Nat} {k B:Int} (h:∀ x ∈ near,∀ y ∈ x,0 ≤ y∧y < B) (hi:(i:Int) < B) (hk:k < B):∀ x ∈ nearStep near i k,∀ y ∈ x,0 ≤ y∧y < B:=by
 intro x hx y hy
 have h0:∀ (near:List (List Int)) (j:Nat) (z:Int),(∀ x ∈ near,∀ y ∈ x,0 ≤ y∧y < B)→0 ≤ z→z < B→∀ x ∈ near.set j (near.getD j [] ++ [z]),∀ y ∈ x,0 ≤ y∧y < B:=by
  intro near j z h z0 z1 x hx y hy
  rcases List.mem_or_eq_of_mem_set hx with hx|rfl
  ·exact h x hx y hy
  ·rcases List.mem_append.1 hy with hy|hy
   ·by_cases hj:j < near.length
    ·simp only [List.getD_eq_getElem?_getD,List.getElem?_eq_getElem hj,Option.getD_some] at hy
     exact h _ (List.getElem_mem hj) y hy
    ·simp [List.getD_eq_getElem?_getD,List.getElem?_eq_none (Nat.le_of_not_lt hj)] at hy
   ·rw [List.mem_singleton] at hy;subst hy;exact ⟨z0,z1⟩
 unfold nearStep at hx
 split at hx
 ·exact h0 _ _ _ (h0 near i k h ‹_› hk) (by omega) hi x hx y hy
 ·exact h x hx y hy
theorem nearTo_bd (t:List Int):∀ i,i ≤ t.length→∀ x ∈ nearTo t i,∀ y ∈ x,0 ≤ y∧y < t.length
 | 0,_,x,hx,y,hy => by rw [nearTo,List.mem_replicate] at hx;rw [hx.2] at hy;cases hy
 | i + 1,hi,x,hx,y,hy => by
  have:=(parS_lt t (t.getD i 0 - 1) i).2
  exact nearStep_bd (nearTo_bd t i (by omega)) (by omega) (by show parAt t i < _;unfold parAt;omega) x hx y hy
def movedL (base:Nat) (k:Nat) (others:List Int) (nd:Int):List Int:=others.map (fun x => (base:Int) + x) ++ (if k = 0 then [nd] else [])
def addTo (base:Nat) (nvs:List (List Int)) (nd:Int):Nat→List (List Int)
 | 0 => []
 | k + 1 => addTo base nvs nd k ++ [movedL base k (nvs.getD k []) nd]
theorem addTo_len (base:Nat) (nvs:List (List Int)) (nd:Int):∀ k,(addTo base nvs nd k).length = k
 | 0 => rfl
 | k + 1 => by rw [addTo,List.length_append,addTo_len base nvs nd k];rfl
def graft1 (near:List (List Int)) (nd:Int) (v:List Int):List (List Int) :=
 (near ++ addTo near.length (nears v) nd v.length).set nd.toNat ((near ++ addTo near.length (nears v) nd v.length).getD nd.toNat [] ++ [(near.length:Int)])
theorem graft1_len (near:List (List Int)) (nd:Int) (v:List Int):(graft1 near nd v).length = near.length + v.length:=by
 unfold graft1
 rw [List.length_set,List.length_append,addTo_len]
def graftTo (u:List Int) (nodes:List Int) (list:List (List Int)):Nat→List (List Int)
 | 0 => nears u
 | i + 1 => graft1 (graftTo u nodes list i) (nodes.getD i 0) (list.getD i [])
theorem graftTo_len (u:List Int) (nodes:List Int) (list:List (List Int)):∀ i,i ≤ list.length→(graftTo u nodes list i).length = u.length + sumLen (list.take i)
 | 0,_ => by rw [graftTo];unfold nears;rw [nearTo_len];simp [sumLen]
 | i + 1,hi => by
  rw [graftTo,graft1_len,graftTo_len u nodes list i (by omega),sumLen_take_succ list i (by omega)]
  simp [show i < list.length by omega]
  omega
theorem getD_len {near:List (List Int)} {B:Nat} (h:∀ x ∈ near,x.length ≤ B) (i:Nat):(near.getD i []).length ≤ B:=by
 by_cases hi:i < near.length
 ·simp only [List.getD_eq_getElem?_getD,List.getElem?_eq_getElem hi,Option.getD_some];exact h _ (List.getElem_mem hi)
 ·simp [List.getD_eq_getElem?_getD,List.getElem?_eq_none (Nat.le_of_not_lt hi)]
theorem addTo_each {base:Nat} {nvs:List (List Int)} {nd:Int} {B:Nat} (h:∀ x ∈ nvs,x.length ≤ B):∀ k,∀ y ∈ addTo base nvs nd k,y.length ≤ B + 1
 | 0,y,hy => by cases hy
 | k + 1,y,hy => by
  rw [addTo] at hy
  rcases List.mem_append.1 hy with hy|hy
  ·exact addTo_each h k y hy
  ·rw [List.mem_singleton] at hy
   subst hy
   have:=getD_len h k
   generalize nvs.getD k [] = g at this ⊢
   unfold movedL
   rw [List.length_append,List.length_map]
   split
   ·rw [List.length_singleton];omega
   ·rw [List.length_nil];omega
theorem graft1_each {near:List (List Int)} {nd:Int} {v:List Int} {B:Nat} (h:∀ x ∈ near,x.length ≤ B) (hv:v.length ≤ 8) (hB:17 ≤ B):∀ y ∈ graft1 near nd v,y.length ≤ B + 1:=by
 have h1:∀ y ∈ near ++ addTo near.length (nears v) nd v.length,y.length ≤ B:=by
  intro y hy
  rcases List.mem_append.1 hy with hy|hy
  ·exact h y hy
  ·have:=addTo_each (B:=16) (fun x hx => by have:=nearTo_each v v.length x hx;omega) _ y hy
   omega
 intro y hy
 unfold graft1 at hy
 rcases List.mem_or_eq_of_mem_set hy with hy|rfl
 ·have:=h1 y hy;omega
 ·have:=getD_len h1 nd.toNat
  rw [List.length_append,List.length_singleton]
  omega
theorem graftTo_each {u:List Int} {nodes:List Int} {list:List (List Int)} (hu:u.length ≤ 8) (hl:∀ v ∈ list,v.length ≤ 8):∀ i,∀ y ∈ graftTo u nodes list i,y.length ≤ 17 + i
 | 0,y,hy => by have:=nearTo_each u u.length y hy;omega
 | i + 1,y,hy => by
  have:=graft1_each (graftTo_each hu hl i) (getD_len hl i) (by omega) y hy
  omega
def graftN (u:List Int) (nodes:List Int) (list:List (List Int)):List Int:=treeF 9 (graftTo u nodes list list.length) 0 (-1)
def graftOk (u:List Int) (nodes:List Int) (list:List (List Int)):Bool :=
 treeOk 9 (graftTo u nodes list list.length) 0 (-1) && Nat.ble (treeSm 9 (graftTo u nodes list list.length) 0 (-1)) 13
section
variable {α:Type} {R:Rep α}
theorem OwnF.snoc {w w':World} {v v':Value} {xs:List α} {x:α} {c:List Value} {ds:List Value} {og og':Option Nat} {F G:List Nat}
  (hel:ownL R w ds xs F) (hF:(og.toList ++ F).Nodup) (hlt:∀ b,b ∈ og.toList ++ F→b < w.heap.size) (hx:OwnF R G w c x) (hd:∀ b,b ∈ G→b ∉ og.toList ++ F)
  (h:Appended w w' v' R.k (xs.length + 1) (ds ++ c) og og') :
  OwnF (RS R) (og'.toList ++ (F ++ G)) w' [v'] (xs ++ [x])∧(∀ b,b ∈ og'.toList ++ (F ++ G)→b ∈ og.toList ++ F ∨ b ∈ G ∨ w.heap.size ≤ b)∧ChgF (og.toList ++ F) w w':=by
 obtain ⟨h1,h2,h3⟩:=h
 have hGl:=hx.lt
 have hFx:∀ b,b ∈ F ++ G→w'.heap[b]? = w.heap[b]?:=by
  intro b hb
  refine h2.block b ?_ ?_
  ·rcases List.mem_append.1 hb with hb|hb
   ·exact hlt b (by simp [hb])
   ·exact hGl b hb
  ·intro e
   rcases List.mem_append.1 hb with hb|hb
   ·exact (List.nodup_append.1 hF).2.2 b (by simp [← e]) b hb rfl
   ·exact hd b hb (by simp [← e])
 have hel':ownL R w' (ds ++ c) (xs ++ [x]) (F ++ G):=(hel.append (ownL.single hx.1)).frame hFx
 refine ⟨⟨⟨v',og',ds ++ c,F ++ G,rfl,by simpa using h1,hel',rfl⟩,?_⟩,?_,?_⟩
 ·have hFG:(F ++ G).Nodup:=List.nodup_append.2 ⟨(List.nodup_append.1 hF).2.1,hx.2,fun b hb b' hb' e => by subst e;exact hd b hb' (by simp [hb])⟩
  refine List.nodup_append.2 ⟨by cases og' <;> simp,hFG,fun b hb b' hb' e => ?_⟩
  subst e
  have hbo:og' = some b:=by simpa using hb
  rcases h3 with h3|⟨g,h3,hg⟩
  ·rcases List.mem_append.1 hb' with hb'|hb'
   ·exact (List.nodup_append.1 hF).2.2 b (by simp [← h3,hbo]) b hb' rfl
   ·exact hd b hb' (by simp [← h3,hbo])
  ·rw [hbo] at h3
   cases h3
   rcases List.mem_append.1 hb' with hb'|hb'
   ·have:=hlt b (by simp [hb']);omega
   ·have:=hGl b hb';omega
 ·intro b hb
  simp only [List.mem_append,Option.mem_toList] at hb
  rcases hb with hb|hb|hb
  ·rcases h3 with h3|⟨g,h3,hg⟩
   ·exact .inl (by simp [← h3,hb])
   ·rw [hb] at h3;cases h3;exact .inr (.inr hg)
  ·exact .inl (by simp [hb])
  ·exact .inr (.inl hb)
 ·exact (ChgF.of_grown h2).mono (fun b hb => by simp [Option.mem_toList.1 hb])
theorem wpList_snocF {P:Program} {w:World} {ops:Array Oper} {rest:List Oper} {o:Oper} {a:Act} {Q:Exit→Act→World→Prop} (hgd:o.guard = none) (s x:Operand) (t:TypeId)
  (ho:o.op = .call { callee:=.builtin .append,args:=#[s,x],argTypes:=#[t,t] })
  (e:TypeId) (z:Value) (k bytes:Nat) (T:ST P t e z k bytes) (hk:R.k = k)
  (v:Value) (xs:List α) (y:α) (c:List Value) (F G:List Nat) (hs:a.eval s = v) (hv:OwnF (RS R) F w [v] xs) (hy:OwnF R G w c y) (hd:∀ b,b ∈ G→b ∉ F) (E:TypeId)
  {H:Nat} (hx:a.eval x = .slice (some ⟨H,0,none⟩) 1 1) (hH:H = w.heap.size)
  (hbytes:(xs.length + 1) * bytes ≤ 140737488355328) (h63:xs.length + 1 ≤ 140737488355328)
  (h:∀ oa cap w' F',OwnF (RS R) F' w' [.slice oa (xs.length + 1) cap] (xs ++ [y])→xs.length + 1 ≤ cap→cap ≤ 9223372036854775807→(∀ b,b ∈ F'→b ∈ F ∨ b ∈ G ∨ w.heap.size ≤ b)→ChgF F w w'→wpList P ops Q rest (a.put o.dst (.slice oa (xs.length + 1) cap)) w') :
  wpList P ops Q (o :: rest) a (w.alloc (.cells c.toArray E)):=by
 subst hk
 have hlt:=hv.lt
 obtain ⟨⟨v',og,ds,F0,h1,hrow,hel,rfl⟩,hn⟩:=hv
 simp only [List.cons.injEq,and_true] at h1
 subst h1
 refine wpList_append1 (w:=w) hgd s x t ho e z R.k bytes T v xs.length ds og hs hrow E c hx hH (R.rd_len (R.own_rd hy.1)) (R.rd_one (R.own_rd hy.1)) hbytes (by unfold maxLen;omega) ?_
 intro v1 w1 og1 happ
 obtain ⟨k1,k2,k3⟩:=OwnF.snoc (v:=v) hel hn hlt hy hd happ
 obtain ⟨oa,cap,e1,q1,q2⟩:=(OwnF.rd k1).val
 subst e1
 rw [List.length_append,List.length_singleton] at *
 unfold maxLen at q2
 exact h oa cap w1 _ k1 q1 (by omega) k2 k3
theorem OwnF.setRow {w:World} {v:Value} {xs:List α} {F:List Nat} (h:OwnF (RS R) F w [v] xs) (hk:R.k = 1) (i:Nat) (hi:i < xs.length) :
  ∃ g cap a,v = .slice (some ⟨g,0,none⟩) xs.length cap∧xs.length ≤ cap∧cap ≤ 9223372036854775807∧g < w.heap.size∧g ∈ F∧w.cell? ⟨g,i,none⟩ = some a∧Rd R w [a] xs[i] ∧
   ∀ (w1:World) (y:α) (u:Value) (G:List Nat),Below w.heap.size w w1→OwnF R G w1 [u] y→(∀ b,b ∈ G→w.heap.size ≤ b) →
    w1.cell? ⟨g,i,none⟩ = some a∧w1.frozen? ⟨g,i,none⟩ = false∧∃ F',OwnF (RS R) F' (w1.setCell ⟨g,i,none⟩ u) [v] (xs.set i y)∧(∀ b,b ∈ F'→b ∈ F ∨ w.heap.size ≤ b)∧ChgF F w (w1.setCell ⟨g,i,none⟩ u):=by
 have hlt:=h.lt
 have hnd:=h.2
 obtain ⟨g,cap,d1,c,d2,F1,G0,F2,hv,hc1,hc2,rfl,hcl,hd1,hx,hrow,hK⟩:=h.lens i hi
 rw [hk] at hcl hd1
 rw [Nat.mul_one] at hd1
 match c,hcl with
 | [a],_ =>
 have hcell:w.cell? ⟨g,i,none⟩ = some a:=hrow.cells i a (by rw [List.getElem?_append_right (by omega),hd1];simp)
 have hgl:=hlt g (by simp)
 refine ⟨g,cap,a,hv,hc1,hc2,hgl,by simp,hcell,Rd.of (R.own_rd hx),?_⟩
 intro w1 y u G hbel hy hGl
 have hn1:=List.nodup_cons.1 hnd
 have hrow1:Row w1 v R.k xs.length (d1 ++ ([a] ++ d2)) (some g):=hrow.frame (fun g' hg' => by cases hg';exact hbel.block g hgl)
 obtain ⟨hst,hgr⟩:=hrow1.store i u
 have hset:(d1 ++ ([a] ++ d2)).set i u = d1 ++ ([u] ++ d2):=by
  rw [List.set_append_right _ _ (by omega),hd1,Nat.sub_self];rfl
 rw [hset] at hst
 have hsub:∀ b,b ∈ F1 ++ F2→b ≠ g:=fun b hm e => hn1.1 (by
  subst e
  rcases List.mem_append.1 hm with hm|hm
  ·simp [hm]
  ·simp [hm])
 have hfr:∀ b,b ∈ F1 ++ F2→(w1.setCell ⟨g,i,none⟩ u).heap[b]? = w.heap[b]?:=by
  intro b hm
  rw [heap_setCell_other w1 ⟨g,i,none⟩ b u (hsub b hm)]
  refine hbel.block b (hlt b ?_)
  rcases List.mem_append.1 hm with hm|hm
  ·simp [hm]
  ·simp [hm]
 have hy':R.own (w1.setCell ⟨g,i,none⟩ u) [u] y G:=R.own_frame hy.1 (fun b hb => heap_setCell_other w1 ⟨g,i,none⟩ b u (by have:=hGl b hb;show b ≠ g;omega))
 have hG:∀ b,b ∈ G→b ∉ g :: (F1 ++ F2):=fun b hb hm => by
  have h1:=hGl b hb
  have:b < w.heap.size:=by
   rcases List.mem_cons.1 hm with rfl|hm
   ·exact hgl
   ·rcases List.mem_append.1 hm with hm|hm
    ·exact hlt b (by simp [hm])
    ·exact hlt b (by simp [hm])
  omega
 have hnd':(g :: (F1 ++ (G ++ F2))).Nodup:=by
  have h2:=List.nodup_append.1 hn1.2
  have h3:=List.nodup_append.1 h2.2.1
  refine List.nodup_cons.2 ⟨?_,?_⟩
  ·intro hm
   simp only [List.mem_append] at hm
   rcases hm with hm|hm|hm
   ·exact hsub g (by simp [hm]) rfl
   ·exact hG g hm (by simp)
   ·exact hsub g (by simp [hm]) rfl
  ·refine List.nodup_append.2 ⟨h2.1,List.nodup_append.2 ⟨hy.2,h3.2.1,fun b hb b' hb' e => ?_⟩,fun b hb b' hb' e => ?_⟩
   ·subst e;exact hG b hb (by simp [hb'])
   ·subst e
    rcases List.mem_append.1 hb' with hb'|hb'
    ·exact hG b hb' (by simp [hb])
    ·exact h2.2.2 b hb b (by simp [hb']) rfl
 refine ⟨hrow1.cells i a (by rw [List.getElem?_append_right (by omega),hd1];simp),hrow1.frozen i,_,hK _ [u] y G (by rw [hk];rfl) hy' hfr hst hnd',?_,?_⟩
 ·intro b hb
  simp only [List.mem_cons,List.mem_append] at hb
  rcases hb with hb|hb|hb|hb
  ·exact .inl (by simp [hb])
  ·exact .inl (by simp [hb])
  ·exact .inr (hGl b hb)
  ·exact .inl (by simp [hb])
 ·refine (Below.chgF hbel).trans ((ChgF.of_grown hgr).mono (fun b hb => ?_))
  simp at hb
  simp [hb]
end
end Go.Proofs.Ytofpjonggpjneaa
namespace Go.Proofs.Ytofpjonggpjneaa
open Go.RowKit
set_option maxRecDepth 100000 in
set_option maxHeartbeats 400000 in
theorem c_slicesCloneInt (v:Value) (xs:List Int) (w:World) (h:Rd (RS RI) w [v] xs) (hsz:xs.length ≤ 1000000000) :
  Calls Try.prog 166 #[v] w (RetO (RS RI) w xs):=by
 obtain ⟨oa,c1,I1⟩:=h.ints
 obtain rfl:=I1.val
 have m1:=I1.le;have m2:=I1.capLe
 unfold maxLen at m2
 have q22:∀ (w:World) (a:Option Addr) (n c n' c':Nat),(binOp .eql 108 (.slice a n c) (.slice none n' c')).run Try.prog w = .ok (.bool a.isNone) w:=fun w a n c n' c' => Lib.run_eql_slice_nil w _ _ a n c n' c' tInt.ht
 cases oa with
 | none =>
  have hc:=I1.noneCap rfl
  have hx:xs = []:=List.eq_nil_of_length_eq_zero (by omega)
  subst hx;subst hc
  clear h I1
  go_enter Try.func166,Try.ntmps166
  go_wp2_with fail
  go_ret
  exact ⟨_,rfl,Own.nil _ _,Below.refl _ _⟩
 | some ad =>
 have I2:Ints (w.alloc (.cells #[] 3)) (.slice (some ad) xs.length c1) xs (some ad) c1:=by
  refine ⟨rfl,m1,I1.capLe,I1.noneCap,I1.bd,?_⟩
  rcases I1.row with h|⟨b,off,e,hb,hc⟩
  ·exact .inl h
  ·refine .inr ⟨b,off,e,by simp;omega,fun j hj => ?_⟩
   rw [World.cell?_alloc_lt _ _ _ hb];exact hc j hj
 have hrow:=Row.lit w #[] 3 1 0 (by decide) (by simp)
 have HI:=Lib.hid I2
 have HR:=Lib.hid hrow
 clear I2 hrow
 go_enter Try.func166,Try.ntmps166
 go_wp2_with (at_builtin;refine StopAt (o:=⟨some 7,_,_,_,_,_⟩) ?_)
 refine Stop.go ?_
 refine wpList_appendS rfl _ _ 108 rfl 3 (.int .i64 0) 1 8 tInt (.slice (some ⟨w.heap.size,0,none⟩) 0 0) 0 [] (some w.heap.size) rfl (by simpa using HR.out) (some ad) xs.length c1 (xs.map (Value.int .i64)) rfl (by simp) (fun h => by cases h) (Row.cells_ints HI.out) (by intro u hu;obtain ⟨x,_,rfl⟩:=List.mem_map.1 hu;rfl) (by omega) (by unfold maxLen;omega) ?_
 intro v' w' og' happ
 rw [Nat.zero_add,List.nil_append] at happ
 have hlow:=happ.low (B:=w.heap.size) (by simp) (fun g hg => by cases hg;exact Nat.le_refl _)
 have hbel:Below w.heap.size w w':=((Below.refl w.heap.size w).alloc (Nat.le_refl _) (.cells #[] 3)).trans hlow.2
 have hown:Own (RS RI) w.heap.size w'.heap.size w' [v'] xs:=Row.OwnI (by simpa using happ.1) I1.bd hlow.1
 have HO:=Lib.hid hown
 obtain ⟨oa',cap',rfl,_⟩:=hown.val
 clear hown happ hlow
 go_wp2_with fail
 go_ret
 exact ⟨_,rfl,HO.out,hbel⟩
theorem shareKey {A B C D E:Type} {goal:Prop} (FACTS:A→B→C→D→E→Prop) {G:A→B→C→D→E→Prop} (use:(∀ a b c d e,FACTS a b c d e→G a b c d e)→goal) (key:∀ a b c d e,FACTS a b c d e→G a b c d e):goal:=use key
theorem moved_take (base:Nat) (xs:List Int) (k:Nat) (h:k < xs.length):(xs.take (k + 1)).map (fun x => (base:Int) + x) = (xs.take k).map (fun x => (base:Int) + x) ++ [(base:Int) + xs[k]]:=by
 rw [List.take_succ_eq_append_getElem h,List.map_append];rfl
set_option maxRecDepth 100000 in
set_option maxHeartbeats 20000000 in
theorem c_impl_grafted (vu vn vl:Value) (u:List Int) (nodes:List Int) (list:List (List Int)) (w:World) (hu:Rd (RS RI) w [vu] u) (hn:Rd (RS RI) w [vn] nodes) (hl:Rd (RS (RS RI)) w [vl] list)
  (hu8:lev8 u = true) (hl8:∀ v ∈ list,lev8 v = true) (hnl:nodes.length = list.length) (hnb:∀ x ∈ nodes,0 ≤ x∧x < u.length) (hsum:u.length + sumLen list ≤ 8) (hok:graftOk u nodes list = true) :
  Calls Try.prog 116 #[vu,vn,vl] w (RetO (RS RI) w (graftN u nodes list)):=by
 have hupos:=(lev8_lev hu8).pos
 have hne:=c_impl_nearOf vu u w hu hu8
 unfold graftOk at hok
 rw [Bool.and_eq_true] at hok
 have hTF:∀ (W:World) (v:Value),Rd (RS (RS RI)) W [v] (graftTo u nodes list list.length)→Calls Try.prog 168 #[v,.int .i64 0,.int .i64 (-1)] W (RetO (RS RI) W (graftN u nodes list)):=fun W v r =>
  c_impl_treeFrom 9 v _ 0 (-1) W r hok.1 (Nat.le_of_ble_eq_true hok.2)
 have HTF:=Lib.hid hTF
 obtain ⟨oa,c1,rfl,m1,m2⟩:=hu.val
 obtain ⟨on,cn,IN⟩:=hn.ints
 obtain rfl:=IN.val
 obtain ⟨ol,cl,LL⟩:=hl.lists
 obtain rfl:=LL.val
 have k1:=IN.le;have k2:=IN.capLe;have k3:=LL.le;have k4:=LL.capLe
 unfold maxLen at k2
 have HIN:=Lib.hid IN
 have HLL:=Lib.hid LL
 have HL8:=Lib.hid hl8
 have HNB:=Lib.hid hnb
 have HNL:=Lib.hid hnl
 have HSUM:=Lib.hid hsum
 have hGL:=fun i hi => graftTo_len u nodes list i hi
 have HGL:=Lib.hid hGL
 have HLEN:Hid (list.length ≤ 8):=Lib.hid (by
  have:=len_le_sumLen list (fun b hb => lev8_lev (hl8 b hb))
  omega)
 obtain ⟨ll,hll⟩:∃ ll,ll = list.length:=⟨_,rfl⟩
 rw [← hll] at k3 HTF
 rw [← hll]
 have HLN:=Lib.hid hll
 have HEACH:=Lib.hid (graftTo_each (u:=u) (nodes:=nodes) (list:=list) (by omega) (fun v hv => lev8_len (hl8 v hv)))
 clear hu hn hl IN LL hl8 hnl hnb hsum hok hTF hGL hll
 go_enter Try.func116,Try.ntmps116
 go_wp2_with fail
 refine hne.mono ?_
 rintro e w1 ⟨u1,rfl,o1,b1⟩
 obtain ⟨F1,oF1,hF1⟩:=OwnF.of o1
 obtain ⟨o1a,c1a,rfl,_⟩:=o1.val
 have HO1:=Lib.hid oF1
 have HF1:=Lib.hid hF1
 clear o1 hne oF1 hF1
 go_wp2_with fail
 go_loopw [7,20] (fun nr i wr => ∃ (k:Nat) (F:List Nat) (near:List (List Int)),k ≤ ll∧i = .int .i64 k∧Hid (near = graftTo u nodes list k)∧(∃ oa cap,nr = .slice oa near.length cap)∧Hid (OwnF (RS (RS RI)) F wr [nr] near)∧Hid (∀ b,b ∈ F→w.heap.size ≤ b)∧Below w.heap.size w wr) (fun _ i _ => ll - (intOf i).toNat)
 case atStart => exact ⟨0,F1,nears u,Nat.zero_le _,rfl,Lib.hid rfl,⟨_,_,rfl⟩,HO1.out,Lib.hid (fun b hb => (HF1.out b hb).1),b1⟩
 case round =>
  obtain ⟨k,F,near,hk,rfl,hnear,⟨o2,c2,rfl⟩,hown,hF,hbel⟩:=hrel
  clear HO1
  obtain ⟨wo,hwo⟩:∃ wo:World,wo = wr:=⟨_,rfl⟩
  subst hwo
  have hsz1:=hbel.size
  by_cases hlt:k < ll
  ·have hlt2:k < list.length:=by rw [← HLN.out];exact hlt
   have hltn:k < nodes.length:=by rw [HNL.out];exact hlt2
   obtain ⟨bl,fl,rfl,hbl,hcl⟩:=HLL.out.get hlt2
   obtain ⟨oi,ci,g1,hrd,q1,q2⟩:=hcl k hlt2
   have g2:wo.cell? ⟨bl,fl + k,none⟩ = some (.slice oi list[k].length ci):=(hbel.cell (p:=⟨bl,fl + k,none⟩) hbl).trans g1
   obtain ⟨bn,fn,rfl,hbn,hcn⟩:=HIN.out.get hltn
   have gn:=hcn k hltn
   have hv8:=HL8.out list[k] (List.getElem_mem hlt2)
   have hvn:=c_impl_nearOf (.slice oi list[k].length ci) list[k] wo (hrd.below hbel (Nat.le_refl _)) hv8
   have hnd:=HNB.out nodes[k] (List.getElem_mem hltn)
   have hgl:=HGL.out k (by omega)
   rw [← hnear.out] at hgl
   have hss:=sumLen_take_succ list k hlt2
   have hsl:=sumLen_take list (k + 1)
   have hgs:graftTo u nodes list (k + 1) = graft1 near nodes[k] list[k]:=by rw [graftTo,← hnear.out];congr 1 <;> simp [hltn,hlt2]
   have hnbd:=nearTo_bd list[k] list[k].length (Nat.le_refl _)
   have hnel:=nearTo_each list[k] list[k].length
   have hnvl:(nears list[k]).length = list[k].length:=nearTo_len _ _
   have hvl8:=lev8_len hv8
   obtain ⟨x,hx⟩:∃ x,x = list[k]'hlt2:=⟨_,rfl⟩
   obtain ⟨nd,hnd'⟩:∃ nd,nd = nodes[k]'hltn:=⟨_,rfl⟩
   rw [← hx] at g2 q1 hvn hss hgs hnbd hnel hnvl hvl8
   rw [← hnd'] at gn hnd hgs
   have hsum:=HSUM.out
   have hnn:near.length + x.length ≤ 8:=by omega
   obtain ⟨n0,n1⟩:=hnd
   obtain ⟨nq,rfl⟩:∃ nq:Nat,nd = nq:=⟨nd.toNat,by omega⟩
   have hnq:nq < near.length:=by omega
   have HGS:=Lib.hid hgs
   have HNBD:=Lib.hid hnbd
   have HNEL:=Lib.hid hnel
   have hxl:=hnvl
   obtain ⟨nvs,hnvs⟩:∃ nvs,nvs = nears x:=⟨_,rfl⟩
   change ∀ y ∈ nears x,_ at hnbd
   have HNV0:Hid (∀ y ∈ nvs,y.length ≤ 16∧∀ z ∈ y,0 ≤ z∧z < 8):=Lib.hid (by
    intro y hy
    rw [hnvs] at hy
    refine ⟨by have:=HNEL.out y hy;omega,fun z hz => ?_⟩
    have:=HNBD.out y hy z hz
    omega)
   rw [← hnvs] at hvn hxl
   have HXL:=Lib.hid hxl
   have HNVS:=Lib.hid hnvs
   have HOW:=hown
   have hFl:=hown.out.lt
   have hnd0:=hown.out.2
   have hnb:near.length ≤ 8:=by omega
   clear hcl hcn g1 hrd hx hnd' hgl hss hsl hgs hnbd hnel hnvl hv8 hsum hxl hnvs
   go_wp2_with fail
   refine hvn.mono ?_
   rintro e w2 ⟨u2,rfl,o3,b3⟩
   obtain ⟨ov,cv,rfl,v1,v2⟩:=o3.val
   have HNV:=Lib.hid o3
   rw [HXL.out] at v1
   rw [HXL.out]
   have HO2:Hid (OwnF (RS (RS RI)) F w2 [.slice o2 near.length c2] near):=Lib.hid (HOW.out.frame (fun b hb => b3.block b (hFl b hb)))
   have s3:=b3.size
   have hbel2:=hbel.trans (b3.mono hsz1)
   obtain ⟨base,hbase⟩:∃ base,base = near.length:=⟨_,rfl⟩
   rw [← hbase]
   have HBASE:=Lib.hid hbase
   rw [← hbase] at hnn hnq hnb HO2 HOW hown
   clear o3 hvn hbase
   go_wp2_with fail
   go_loopw [7,30] (fun nr i wz => ∃ (q:Nat) (F':List Nat) (z:List (List Int)),q ≤ x.length∧i = .int .i64 q∧Hid (z = near ++ addTo base nvs nq q)∧Hid (z.length = base + q)∧(∃ oa cap,nr = .slice oa z.length cap)∧Hid (OwnF (RS (RS RI)) F' wz [nr] z)∧Hid (∀ b,b ∈ F'→b ∈ F ∨ w2.heap.size ≤ b)∧Hid (ChgF F w2 wz)) (fun _ i _ => x.length - (intOf i).toNat)
   case atStart => exact ⟨0,F,near,Nat.zero_le _,rfl,Lib.hid (by simp [addTo]),Lib.hid HBASE.out.symm,⟨_,_,by rw [← HBASE.out]⟩,Lib.hid HO2.out,Lib.hid (fun b hb => .inl hb),Lib.hid (ChgF.refl _ _)⟩
   case round =>
    obtain ⟨q,F',z,hq,rfl,hz,hzl,⟨o4,c4,rfl⟩,hown4,hF4,hch4⟩:=hrel
    obtain ⟨wz,hwz⟩:∃ wz:World,wz = wr:=⟨_,rfl⟩
    subst hwz
    have hzlt:=hown4.out.lt
    have s4:=hch4.out.size
    have hbz:Below w.heap.size w wz:=hbel2.trans (hch4.out.below (by omega) hF.out)
    have hszz:=hbz.size
    by_cases hlq:q < x.length
    ·have HNZ:Own (RS (RS RI)) wo.heap.size w2.heap.size wz [.slice ov x.length cv] nvs:=by
      have:=HNV.out.frame (w':=wz) (fun b h1 h2 => hch4.out.block b h2 (fun hm => by have:=hFl b hm;omega))
      rw [HXL.out] at this
      exact this
     obtain ⟨oaz,caz,LZ⟩:=HNZ.rd.lists
     have hvz:=LZ.val
     simp only [Value.slice.injEq] at hvz
     obtain ⟨rfl,hvz2,rfl⟩:=hvz
     clear hvz2
     have hlq2:q < nvs.length:=by rw [HXL.out];exact hlq
     obtain ⟨bv,fv,rfl,hbv,hcv⟩:=LZ.get hlq2
     obtain ⟨oy,cy,g3,hry,y1,y2⟩:=hcv q hlq2
     have hyb:=HNV0.out nvs[q] (List.getElem_mem hlq2)
     have hgd:nvs.getD q [] = nvs[q]:=by simp [hlq2]
     have had:addTo base nvs nq (q + 1) = addTo base nvs nq q ++ [movedL base q (nvs.getD q []) nq]:=rfl
     rw [hgd] at had
     obtain ⟨y,hy⟩:∃ y,y = nvs[q]'hlq2:=⟨_,rfl⟩
     rw [← hy] at g3 hry y1 hyb had
     obtain ⟨oy2,cy2,IY⟩:=hry.ints
     have hvy:=IY.val
     simp only [Value.slice.injEq,true_and] at hvy
     obtain ⟨rfl,rfl⟩:=hvy
     obtain ⟨hyl,hye⟩:=hyb
     have HIY:=Lib.hid IY
     have HYE:=Lib.hid hye
     have HAD:=Lib.hid had
     have HZB:Hid (z.length ≤ 8):=Lib.hid (by rw [hzl.out];omega)
     have gnz:wz.cell? ⟨bn,fn + k,none⟩ = some (.int .i64 (nq:Int)):=(hbz.cell (p:=⟨bn,fn + k,none⟩) hbn).trans gn
     have iq1:(0:Int) ≤ (q:Int):=by omega
     have iq2:(q:Int) < (x.length:Int):=by omega
     clear HNZ LZ hcv hry hy IY hye had hgd hlq2
     go_wp2_with fail
     go_loopw [13,38] (fun o i ww => ∃ (r:Nat) (zz:List Int),r ≤ y.length∧i = .int .i64 r∧Hid (zz = (y.take r).map (fun x => (base:Int) + x))∧Hid (zz.length = r)∧(∃ oa cap,o = .slice oa zz.length cap)∧Hid (Own (RS RI) wz.heap.size ww.heap.size ww [o] zz)∧Below wz.heap.size wz ww) (fun _ i _ => y.length - (intOf i).toNat)
     case atStart => exact ⟨0,[],Nat.zero_le _,rfl,Lib.hid rfl,Lib.hid rfl,⟨_,_,rfl⟩,Lib.hid ((Own.empty (R:=RI) (w:=wz) 3 wz.heap.size (Nat.le_refl _)).top _ (by simp)),(Below.refl _ _).alloc (Nat.le_refl _) _⟩
     case round =>
      obtain ⟨r,zz,hr,rfl,hzz,hzzl,⟨o5,c5,rfl⟩,hown5,hbel5⟩:=hrel
      obtain ⟨ww,hww⟩:∃ ww:World,ww = wr:=⟨_,rfl⟩
      subst hww
      have s5:=hbel5.size
      by_cases hlr:r < y.length
      ·obtain ⟨by',fy,rfl,hby,hcy⟩:=HIY.out.get hlr
       have g4:ww.cell? ⟨by',fy + r,none⟩ = some (Value.int .i64 y[r]):=(hbel5.cell (p:=⟨by',fy + r,none⟩) hby).trans (hcy r hlr)
       have hme:=HYE.out y[r] (List.getElem_mem hlr)
       have hnx:=moved_take base y r hlr
       obtain ⟨ye,hye⟩:∃ ye:Int,ye = y[r]'hlr:=⟨_,rfl⟩
       rw [← hye] at g4 hme hnx
       obtain ⟨e1',e2'⟩:=hme
       have hw1:IntKind.i64.wrap ((base:Int) + ye) = (base:Int) + ye:=IntWalk.i64_in _ (by omega)
       have HNX:=Lib.hid hnx
       have hzb5:zz.length ≤ 16:=by rw [hzzl.out];omega
       have ir1:(0:Int) ≤ (r:Int):=by omega
       have ir2:(r:Int) < (y.length:Int):=by omega
       clear hcy hye hnx
       go_wp2_with (at_builtin;refine StopAt (o:=⟨some 47,_,_,_,_,_⟩) ?_)
       refine Stop.go ?_
       refine wpList_snoc (w:=ww) (R:=RI) rfl _ _ 108 rfl 3 (.int .i64 0) 1 8 tInt rfl (.slice o5 zz.length c5) zz ((base:Int) + ye) [.int .i64 ((base:Int) + ye)] wz.heap.size ww.heap.size ww.heap.size rfl hown5.out (Own.int ⟨by omega,by omega⟩) (Nat.le_refl _) s5 3 rfl rfl (by omega) (by omega) ?_
       intro oa6 cap6 w6 hown6 _ _ hbel6
       have hb6:=hbel5.trans hbel6
       obtain ⟨zz',hzz'⟩:∃ zz',zz' = zz ++ [(base:Int) + ye]:=⟨_,rfl⟩
       have HZZ:Hid (zz' = (y.take (r + 1)).map (fun x => (base:Int) + x)):=Lib.hid (by rw [hzz',HNX.out,hzz.out])
       have e1:zz.length + 1 = zz'.length:=by rw [hzz'];simp
       have HZZL:Hid (zz'.length = r + 1):=Lib.hid (by rw [← e1,hzzl.out])
       rw [← hzz',e1] at hown6
       have HO6:Hid (Own (RS RI) wz.heap.size w6.heap.size w6 [.slice oa6 zz'.length cap6] zz'):=hown6
       rw [e1]
       clear hown6 hbel6 hown5 e1 hzz'
       go_wp2_with fail
       go_roundw
       case rel => exact ⟨r + 1,zz',by omega,by go_num,HZZ,HZZL,⟨_,_,rfl⟩,HO6,hb6⟩
       case measure => simp [intOf] <;> omega
      ·have hmv:zz = y.map (fun x => (base:Int) + x):=by rw [hzz.out,List.take_of_length_le (by omega)]
       have HMV:=Lib.hid hmv
       have hzb5:zz.length ≤ 16:=by rw [hzzl.out];omega
       have gnw:ww.cell? ⟨bn,fn + k,none⟩ = some (.int .i64 (nq:Int)):=((hbz.trans (hbel5.mono hszz)).cell (p:=⟨bn,fn + k,none⟩) hbn).trans gn
       have hbm1:=HZB.out
       have iz1:(0:Int) ≤ (k:Int):=by omega
       have iz2:(k:Int) < (nodes.length:Int):=by omega
       have fin:∀ (mv:List Int) (om:Option Addr) (cm:Nat) (w7:World),mv = movedL base q y nq→Own (RS RI) wz.heap.size w7.heap.size w7 [.slice om mv.length cm] mv→Below wz.heap.size wz w7 →
         ∃ G,OwnF (RS RI) G w7 [.slice om mv.length cm] mv∧(∀ b,b ∈ G→b ∉ F')∧OwnF (RS (RS RI)) F' w7 [.slice o4 z.length c4] z∧(∀ b,b ∈ G→w2.heap.size ≤ b):=by
        intro mv om cm w7 _ hm hb7
        obtain ⟨G,hG,hGb⟩:=OwnF.of hm
        exact ⟨G,hG,fun b hb hm => by have:=(hGb b hb).1;have:=hzlt b hm;omega,hown4.out.frame (fun b hb => hb7.block b (hzlt b hb)),fun b hb => by have:=(hGb b hb).1;omega⟩
       have FIN:=Lib.hid fin
       clear hmv fin
       by_cases hq0:q = 0
       ·subst hq0
        have hqe:(((0:Nat):Int) == 0) = true:=rfl
        go_wp2_with (at_builtin;refine StopAt (o:=⟨some 57,_,_,_,_,_⟩) ?_)
        refine Stop.go ?_
        refine wpList_snoc (w:=ww) (R:=RI) rfl _ _ 108 rfl 3 (.int .i64 0) 1 8 tInt rfl (.slice o5 zz.length c5) zz (nq:Int) [.int .i64 (nq:Int)] wz.heap.size ww.heap.size ww.heap.size rfl hown5.out (Own.int ⟨by omega,by omega⟩) (Nat.le_refl _) s5 3 rfl rfl (by omega) (by omega) ?_
        intro om cm w7 hown6 _ _ hbel6
        have hb7:=hbel5.trans hbel6
        obtain ⟨mv,hmv⟩:∃ mv,mv = zz ++ [(nq:Int)]:=⟨_,rfl⟩
        have HMD:Hid (mv = movedL base 0 y nq):=Lib.hid (by rw [hmv,HMV.out];simp [movedL])
        have e1:zz.length + 1 = mv.length:=by rw [hmv];simp
        rw [← hmv,e1] at hown6
        rw [e1]
        obtain ⟨G,hG,hGd,hZ,hGb⟩:=FIN.out mv om cm w7 HMD.out hown6 hb7
        have HG:=Lib.hid hG
        have HGD:=Lib.hid hGd
        have HZ:=Lib.hid hZ
        have HGB:=Lib.hid hGb
        clear hown6 hbel6 hown5 e1 hmv hG hGd hZ hGb
        go_wp2_with (at_builtin;refine StopAt (o:=⟨some 61,_,_,_,_,_⟩) ?_)
        refine Stop.go ?_
        refine wpList_snocF (w:=w7) (R:=RS RI) rfl _ _ 146 rfl 108 (.slice none 0 0) 1 24 tIntS rfl (.slice o4 z.length c4) z mv [.slice om mv.length cm] F' G rfl HZ.out HG.out HGD.out 108 rfl rfl (by omega) (by omega) ?_
        intro oa8 cap8 w8 F8 hown8 _ _ hF8 hch8
        obtain ⟨z',hz'⟩:∃ z',z' = z ++ [mv]:=⟨_,rfl⟩
        have HZ':Hid (z' = near ++ addTo base nvs nq (0 + 1)):=Lib.hid (by rw [hz',hz.out,HAD.out,← HMD.out,List.append_assoc])
        have e2:z.length + 1 = z'.length:=by rw [hz'];simp
        have HZL':Hid (z'.length = base + (0 + 1)):=Lib.hid (by have:=hzl.out;omega)
        have s7:=hb7.size
        have HF8:Hid (∀ b,b ∈ F8→b ∈ F ∨ w2.heap.size ≤ b):=Lib.hid (fun b hb => by
         rcases hF8 b hb with h|h|h
         ·exact hF4.out b h
         ·exact .inr (HGB.out b h)
         ·right;omega)
        have HCH:Hid (ChgF F w2 w8):=Lib.hid ((hch4.out.trans (Below.chgF hb7)).trans' hch8 (fun x hx => hF4.out x hx))
        rw [← hz',e2] at hown8
        have HO8:=Lib.hid hown8
        rw [e2]
        clear hown8 hF8 hch8 e2 hz'
        go_wp2_with fail
        go_roundw
        case rel => exact ⟨0 + 1,F8,z',by omega,by first|go_num|rfl,HZ',HZL',⟨_,_,rfl⟩,HO8,HF8,HCH⟩
        case measure => simp [intOf] <;> omega
       ·have hqe:((q:Int) == 0) = false:=by simp;omega
        have hb7:=hbel5
        have HMD:Hid (zz = movedL base q y nq):=Lib.hid (by rw [HMV.out];simp [movedL,hq0])
        obtain ⟨G,hG,hGd,hZ,hGb⟩:=FIN.out zz o5 c5 ww HMD.out hown5.out hb7
        have HG:=Lib.hid hG
        have HGD:=Lib.hid hGd
        have HZ:=Lib.hid hZ
        have HGB:=Lib.hid hGb
        clear hG hGd hZ hGb hown5
        go_wp2_with (at_builtin;refine StopAt (o:=⟨some 61,_,_,_,_,_⟩) ?_)
        refine Stop.go ?_
        refine wpList_snocF (w:=ww) (R:=RS RI) rfl _ _ 146 rfl 108 (.slice none 0 0) 1 24 tIntS rfl (.slice o4 z.length c4) z zz [.slice o5 zz.length c5] F' G rfl HZ.out HG.out HGD.out 108 rfl rfl (by omega) (by omega) ?_
        intro oa8 cap8 w8 F8 hown8 _ _ hF8 hch8
        obtain ⟨z',hz'⟩:∃ z',z' = z ++ [zz]:=⟨_,rfl⟩
        have HZ':Hid (z' = near ++ addTo base nvs nq (q + 1)):=Lib.hid (by rw [hz',hz.out,HAD.out,← HMD.out,List.append_assoc])
        have e2:z.length + 1 = z'.length:=by rw [hz'];simp
        have HZL':Hid (z'.length = base + (q + 1)):=Lib.hid (by have:=hzl.out;omega)
        have s7:=hb7.size
        have HF8:Hid (∀ b,b ∈ F8→b ∈ F ∨ w2.heap.size ≤ b):=Lib.hid (fun b hb => by
         rcases hF8 b hb with h|h|h
         ·exact hF4.out b h
         ·exact .inr (HGB.out b h)
         ·right;omega)
        have HCH:Hid (ChgF F w2 w8):=Lib.hid ((hch4.out.trans (Below.chgF hb7)).trans' hch8 (fun x hx => hF4.out x hx))
        rw [← hz',e2] at hown8
        have HO8:=Lib.hid hown8
        rw [e2]
        clear hown8 hF8 hch8 e2 hz'
        go_wp2_with fail
        go_roundw
        case rel => exact ⟨q + 1,F8,z',by omega,by first|go_num|rfl,HZ',HZL',⟨_,_,rfl⟩,HO8,HF8,HCH⟩
        case measure => simp [intOf] <;> omega
    ·obtain rfl:q = x.length:=by omega
     have hzfull:z = near ++ addTo base nvs nq x.length:=hz.out
     have hgr:graftTo u nodes list (k + 1) = z.set nq (z.getD nq [] ++ [(base:Int)]):=by
      rw [HGS.out]
      unfold graft1
      rw [← HBASE.out,← HNVS.out,← hzfull,Int.toNat_natCast]
     have hnqz:nq < z.length:=by rw [hzl.out];omega
     obtain ⟨g,cap,a,hv,_,_,hgl,hgF,hcell,hra,hSET⟩:=hown4.out.setRow (R:=RS RI) rfl nq hnqz
     simp only [Value.slice.injEq,true_and] at hv
     obtain ⟨rfl,rfl⟩:=hv
     have hgd:z.getD nq [] = z[nq]:=by simp [hnqz]
     rw [hgd] at hgr
     obtain ⟨xh,hxh⟩:∃ xh,xh = z[nq]'hnqz:=⟨_,rfl⟩
     rw [← hxh] at hra hgr
     obtain ⟨oh,ch,rfl,e1,e2⟩:=hra.val
     unfold maxLen at e2
     have gnz:wz.cell? ⟨bn,fn + k,none⟩ = some (.int .i64 (nq:Int)):=(hbz.cell (p:=⟨bn,fn + k,none⟩) hbn).trans gn
     have hxlen:xh.length ≤ 26:=by
      have h1:xh = near[nq]'(by have:=HBASE.out;omega):=by
       rw [hxh]
       simp only [hzfull]
       rw [List.getElem_append_left]
      rw [h1]
      have:=HEACH.out k (near[nq]'(by have:=HBASE.out;omega)) (by rw [← hnear.out];exact List.getElem_mem _)
      have:=HLEN.out
      omega
     have HSET:=Lib.hid hSET
     have HGR:=Lib.hid hgr
     have HRA:=Lib.hid hra
     have EGC:=Lib.hid (enters (P:=Try.prog) (f:=166) Try.func166 (by kernel_rfl) rfl)
     have hzl0:z.length = base + x.length:=hzl.out
     obtain ⟨zl,hzl'⟩:∃ zl,zl = z.length:=⟨_,rfl⟩
     rw [← hzl'] at hnqz hzl0
     rw [← hzl']
     have i1:(0:Int) ≤ (k:Int):=by omega
     have i2:(k:Int) < (nodes.length:Int):=by omega
     have i3:(0:Int) ≤ (nq:Int):=by omega
     have i4:(nq:Int) < (zl:Int):=by omega
     have HZL0:=Lib.hid hzl0
     have HZLEN:=Lib.hid hzl'
     clear hSET hgr hra hgd hxh hzfull hzl' hzl0
     have R1:Rd (RS RI) wz [.slice oh xh.length ch] xh:=HRA.out
     have HCL:Hid (∀ W:World,W.heap = wz.heap ∨ (∃ o,W.heap = (wz.alloc o).heap)→Calls Try.prog 166 #[.slice oh xh.length ch] W (RetO (RS RI) W xh)):=Lib.hid (fun W h => by
      refine c_slicesCloneInt _ xh W ?_ (by omega)
      rcases h with h|⟨o,h⟩
      ·exact R1.of_heap h
      ·exact (R1.below ((Below.refl _ _).alloc (Nat.le_refl _) o) (Nat.le_refl _)).of_heap h)
     have hb64:In64 (base:Int):=by unfold In64;omega
     obtain ⟨xb,hxb⟩:∃ xb,xh ++ [(base:Int)] = xb:=⟨_,rfl⟩
     have hxbl:xb.length ≤ 27:=by rw [← hxb,List.length_append,List.length_singleton];omega
     have HXB:=Lib.hid hxb
     rw [hxb] at HGR
     have RL:rdL RI (fun b => b < wz.heap.size) wz [.int .i64 (base:Int)] [(base:Int)]:=rdL.single ⟨rfl,hb64⟩
     have HLZ:Hid (∀ W:World,W.heap = (wz.alloc (.cells #[.int .i64 (base:Int)] 3)).heap→Rd (RS RI) W [.slice (some ⟨wz.heap.size,0,none⟩) 1 1] [(base:Int)]):=Lib.hid (fun W h => Rd.lit (ds:=[.int .i64 (base:Int)]) (xs:=[(base:Int)]) RL h (by show 1 ≤ maxLen;decide))
     have HLC:Hid (∀ wc W:World,W.heap = (wc.alloc (.cells #[.int .i64 (base:Int)] 3)).heap→Rd (RS RI) W [.slice (some ⟨wc.heap.size,0,none⟩) 1 1] [(base:Int)]):=Lib.hid (fun wc W h => Rd.lit (ds:=[.int .i64 (base:Int)]) (xs:=[(base:Int)]) (w:=wc) (rdL.single ⟨rfl,hb64⟩) h (by show 1 ≤ maxLen;decide))
     have hbn1:bn < wz.heap.size:=by omega
     have hbn2:¬ bn = wz.heap.size:=by omega
     have hgl2:¬ g = wz.heap.size:=by omega
     clear RL R1 hb64 hxb
     apply shareKey (fun (uc lit:Value) (oa9:Option Addr) (cap9:Nat) (wd:World) => ∃ F9,OwnF (RS (RS RI)) F9 (wd.setCell ⟨g,nq,none⟩ (.slice oa9 xb.length cap9)) [.slice (some ⟨g,0,none⟩) z.length c4] (z.set nq xb)∧(∀ b,b ∈ F9→b ∈ F' ∨ wz.heap.size ≤ b)∧ChgF F' wz (wd.setCell ⟨g,nq,none⟩ (.slice oa9 xb.length cap9)))
     case use =>
      intro KEY
      go_wp2_with fail
      go_region_law (first
       | (refine step_call rfl 166 _ _ rfl EGC.out #[.slice oh xh.length ch] (by simp [Act.eval]) ?_;refine Calls.mono (HCL.out _ (by first|exact .inl rfl|exact .inr ⟨_,rfl⟩)) ?_;rintro e wc ⟨uc,rfl,oc,bc⟩;have hbc:Below wz.heap.size wz wc:=(by first|exact Below.of_heap_eq bc rfl rfl rfl rfl|exact Below.of_alloc_heap bc rfl rfl rfl rfl);have oc':Own (RS RI) wz.heap.size wc.heap.size wc [uc] xh:=oc.mono (by simp) (Nat.le_refl _);have gnc:=(hbc.cell (p:=⟨bn,fn + k,none⟩) hbn1).trans gnz;have hbn3:bn < wc.heap.size:=Nat.lt_of_lt_of_le hbn1 hbc.size;clear oc;refine ⟨_,rfl,?_⟩)
       | (refine step_extI rfl _ _ 108 rfl 3 tInt uc xh wz.heap.size wc.heap.size rfl (by first|exact oc'|exact oc'.below ((Below.refl wc.heap.size wc).alloc (Nat.le_refl _) _) (Nat.le_refl _)) _ [(base:Int)] rfl (by first|exact HLC.out wc _ rfl|exact Rd.below (HLZ.out _ (by rfl)) bc (Nat.le_refl _)) (by first|exact Nat.le_refl _|simp) hbc.size (by simp;omega) xb HXB.out ?_;intro oa9 cap9 wd od d1 d2 bd;obtain ⟨Gd,hGd,hGb⟩:=OwnF.of od;have hbd:Below wz.heap.size wz wd:=(by first|exact hbc.trans bd|exact (hbc.alloc hbc.size _).trans bd);have gnd:=(hbd.cell (p:=⟨bn,fn + k,none⟩) hbn1).trans gnz;obtain ⟨f1,f2,F9,hF9,hs9,hc9⟩:=HSET.out wd xb _ Gd hbd hGd (fun b hb => (hGb b hb).1);generalize hl1:Value.slice (some ⟨wc.heap.size,0,none⟩) 1 1 = lit1;clear hl1;generalize hl2:Value.slice (some ⟨wz.heap.size,0,none⟩) 1 1 = lit2;clear hl2))
      all_goals first|exact KEY uc lit1 oa9 cap9 wd ⟨F9,hF9,hs9,hc9⟩|exact KEY uc lit2 oa9 cap9 wd ⟨F9,hF9,hs9,hc9⟩
     case key =>
      rintro uc lit oa9 cap9 wd ⟨F9,hF9,hs9,hc9⟩
      have HFIN:Hid (z.set nq xb = graftTo u nodes list (k + 1)):=Lib.hid HGR.out.symm
      obtain ⟨z9,hz9⟩:∃ z9,z9 = z.set nq xb:=⟨_,rfl⟩
      rw [← hz9] at HFIN hF9
      have hl9:zl = z9.length:=by rw [hz9,List.length_set];exact HZLEN.out
      have HB9:Hid (∀ b,b ∈ F9→w.heap.size ≤ b):=Lib.hid (fun b hb => by
       rcases hs9 b hb with h|h
       ·rcases hF4.out b h with h|h
        ·exact hF.out b h
        ·omega
       ·omega)
      have hbl9:Below w.heap.size w _:=hbz.trans (hc9.below (B:=w.heap.size) (by omega) (fun b hb => by
       rcases hF4.out b hb with h|h
       ·exact hF.out b h
       ·omega))
      have hl8:z.length = z9.length:=by rw [hz9,List.length_set]
      rw [hl8] at hF9
      have HF9:=Lib.hid hF9
      have HL9:=Lib.hid hl9
      clear hz9 hF9 hs9 hc9 hl9 hl8
      go_wp2_with fail
      go_roundw
      case rel => exact ⟨k + 1,F9,z9,by omega,by go_num,Lib.hid HFIN.out,⟨_,_,by rw [← HL9.out]⟩,(by have:=HF9.out;rw [← HL9.out] at this;exact Lib.hid this),HB9,hbl9⟩
      case measure => simp [intOf] <;> omega
  ·have hkk:k = ll:=by omega
   have hfin:near = graftTo u nodes list ll:=by rw [hnear.out,hkk]
   have htf:=HTF.out wo (.slice o2 near.length c2) (by rw [← hfin];exact hown.out.rd)
   clear hfin hkk
   go_wp2_with fail
   refine htf.mono ?_
   rintro e w3 ⟨u3,rfl,o3,b3⟩
   go_wp2_with fail
   go_ret
   exact ⟨_,rfl,o3.mono hsz1 (Nat.le_refl _),hbel.trans (b3.mono hsz1)⟩
end Go.Proofs.Ytofpjonggpjneaa
namespace Go.Proofs.Ytofpjonggpjneaa
open Go.RowKit
def listsTo (n:Nat):List (List Int):=(List.range n).flatMap levels
theorem mem_listsTo {t:List Int} {n:Nat} (h:LevP t) (hn:t.length ≤ n):t ∈ listsTo n:=by
 have hp:=h.pos
 exact List.mem_flatMap.2 ⟨t.length - 1,List.mem_range.2 (by omega),mem_levels _ t h (by omega)⟩
theorem graft_check:trees8.all (fun u => (List.range u.length).all fun n => (listsTo (8 - u.length)).all fun v =>
  graftOk u [(n:Int)] [v] && (levQ (graftL u n v) && decide (graftN u [(n:Int)] [v] = canon (graftL u n v)))) = true:=by decide +kernel
theorem graft_ok {t:List Int} (h:lev8 t = true) {n:Nat} (hn:n < t.length) {v:List Int} (hv:LevP v) (h8:t.length + v.length ≤ 8) :
  graftOk (canon t) [(n:Int)] [v] = true∧lev8 (graftL (canon t) n v) = true∧graftN (canon t) [(n:Int)] [v] = canon (graftL (canon t) n v):=by
 have hl:=canon_len (lev8_lev h)
 have h1:=List.all_eq_true.1 (trees8_all graft_check h) n (List.mem_range.2 (by rw [hl];exact hn))
 have h2:=List.all_eq_true.1 h1 v (mem_listsTo hv (by rw [hl];omega))
 rw [Bool.and_eq_true,Bool.and_eq_true,decide_eq_true_eq] at h2
 exact ⟨h2.1,levQ_lev8 h2.2.1,h2.2.2⟩
end Go.Proofs.Ytofpjonggpjneaa
namespace Go.Proofs.Ytofpjonggpjneaa
open Go.RowKit
def ckOf (xs:List (List Int)):Int:=if xs.all lev8 = true then (if sumLen xs ≤ 8 then 0 else 3) else 1
theorem sumLen_le8:∀ xs:List (List Int),xs.all lev8 = true→sumLen xs ≤ 8 * xs.length
 | [],_ => by simp [sumLen]
 | x :: xs,h => by
  rw [List.all_cons,Bool.and_eq_true] at h
  have:=sumLen_le8 xs h.2
  have:=lev8_len h.1
  simp only [sumLen,List.map_cons,List.sum_cons,List.length_cons] at *
  omega
set_option maxRecDepth 100000 in
set_option maxHeartbeats 400000 in
theorem c_impl_checkGraft (v:Value) (xs:List (List Int)) (w:World) (h:Rd (RS (RS RI)) w [v] xs) (hl:xs.length ≤ 1000000):Calls Try.prog 113 #[v] w (RetS w (.int .i64 (ckOf xs))):=by
 have hal:=c_impl_areLevels v xs w h
 have hnd:=c_impl_nodesIn v xs w h
 unfold ckOf
 cases hall:xs.all lev8
 ·rw [hall] at hal
  clear hall
  go_enter Try.func113,Try.ntmps113
  go_wp2_with fail
  refine hal.mono ?_
  rintro e w' ⟨rfl,rfl⟩
  go_wp2_with fail
  go_ret
  exact ⟨rfl,rfl⟩
 ·rw [hall] at hal
  have h8:=sumLen_le8 xs hall
  rw [nodesB_eq xs (by omega)] at hnd
  by_cases hs:sumLen xs ≤ 8
  ·have h1:¬ ((sumLen xs:Nat):Int) > 8:=by omega
   have h2:¬ (8:Int) < ((sumLen xs:Nat):Int):=by omega
   clear hall
   go_enter Try.func113,Try.ntmps113
   go_wp2_with fail
   refine hal.mono ?_
   rintro e w' ⟨rfl,rfl⟩
   go_wp2_with fail
   refine hnd.mono ?_
   rintro e w' ⟨rfl,rfl⟩
   go_wp2_with fail
   go_ret
   exact ⟨by simp,rfl⟩
  ·have h1:((sumLen xs:Nat):Int) > 8:=by omega
   have h2:(8:Int) < ((sumLen xs:Nat):Int):=by omega
   clear hall
   go_enter Try.func113,Try.ntmps113
   go_wp2_with fail
   refine hal.mono ?_
   rintro e w' ⟨rfl,rfl⟩
   go_wp2_with fail
   refine hnd.mono ?_
   rintro e w' ⟨rfl,rfl⟩
   go_wp2_with fail
   go_ret
   exact ⟨by simp,rfl⟩
end Go.Proofs.Ytofpjonggpjneaa
namespace Go.Proofs.Ytofpjonggpjneaa
open Go.RowKit
def bpOf (u v:List Int):List Int × Int:=if ckOf [u,v] = 0 then (canon (graftL (canon u) 0 v),0) else ([],ckOf [u,v])
theorem ck_two (u v:List Int):ckOf [u,v] = 0 ↔ (lev8 u = true∧lev8 v = true)∧u.length + v.length ≤ 8:=by
 unfold ckOf
 have e:sumLen [u,v] = u.length + v.length:=by simp [sumLen]
 rw [e]
 cases h1:lev8 u <;> cases h2:lev8 v <;> simp [h1,h2] <;> split <;> simp <;> omega
set_option maxRecDepth 100000 in
set_option maxHeartbeats 500000 in
theorem k_impl_ButcherProduct (v0 v2:Value) (u v:List Int) (w:World) (h0:Rd (RS RI) w [v0] u) (h2:Rd (RS RI) w [v2] v) :
  Calls Try.prog 43 #[v0,v2] w (RetOC (RS RI) w (bpOf u v).1 (bpOf u v).2):=by
 have hb0:Below w.heap.size w (w.alloc (.cells #[v0,v2] 24)):=(Below.refl _ _).alloc (Nat.le_refl _) _
 have hck:=c_impl_checkGraft (.slice (some ⟨w.heap.size,0,none⟩) 2 2) [u,v] (w.alloc (.cells #[v0,v2] 24)) (Rd.two h0 h2 rfl) (by show 2 ≤ 1000000;omega)
 obtain ⟨oa0,c0,rfl,m1,m2⟩:=h0.val
 obtain ⟨oa2,c2,rfl,m3,m4⟩:=h2.val
 unfold maxLen at m2 m4
 have HB0:=hb0
 by_cases h:ckOf [u,v] = 0
 ·obtain ⟨⟨p1,p2⟩,h8⟩:=(ck_two u v).1 h
  have hr:Hid (bpOf u v = (canon (graftL (canon u) 0 v),0)):=Lib.hid (by unfold bpOf;rw [if_pos h])
  rw [h] at hck
  have hg:=graft_ok p1 (n:=0) (lev8_lev p1).pos (lev8_lev p2) h8
  have hcl:=canon_len (lev8_lev p1)
  have hc8:=lev8_canon p1
  have hpos:=(lev8_lev p1).pos
  have l1:=lev8_len p1
  have HCN:Hid (∀ W,Below w.heap.size w W→Calls Try.prog 105 #[.slice oa0 u.length c0] W (RetO (RS RI) W (canon u))):=Lib.hid (fun W hb => c_impl_canonical 13 _ u W (h0.below hb (Nat.le_refl _)) (lev8_lev p1) (by omega) (by omega))
  obtain ⟨cu,hcu⟩:∃ cu,cu = canon u:=⟨_,rfl⟩
  rw [← hcu] at hg hcl hc8 HCN hr
  obtain ⟨gr,hgr⟩:∃ gr,gr = canon (graftL cu 0 v):=⟨_,rfl⟩
  rw [← hgr] at hg hr
  have HGR:Hid (∀ (W:World) (a b c:Value),Rd (RS RI) W [a] cu→Rd (RS RI) W [b] [(0:Int)]→Rd (RS (RS RI)) W [c] [v]→Calls Try.prog 116 #[a,b,c] W (RetO (RS RI) W gr)):=Lib.hid (fun W a b c ra rb rc => by
   have:=c_impl_grafted a b c cu [(0:Int)] [v] W ra rb rc hc8 (by simpa using p2) rfl (by intro x hx;rw [List.mem_singleton] at hx;subst hx;omega) (by simp [sumLen];omega) hg.1
   have e:=hg.2.2
   rw [show (((0:Nat):Int)) = (0:Int) from rfl] at e
   rw [e] at this
   exact this)
  have HV:=Lib.hid h2
  clear hcu hgr hg hcl hc8 p1 p2 h0 h2 h
  go_enter Try.func43,Try.ntmps43
  go_wp2_with fail
  refine hck.mono ?_
  rintro e w' ⟨rfl,rfl⟩
  go_wp2_with fail
  refine (HCN.out _ HB0).mono ?_
  rintro e w1 ⟨u1,rfl,o1,b1⟩
  have hb1:=hb0.trans (b1.mono hb0.size)
  go_wp2_with fail
  have hr1:Below w1.heap.size w1 (w1.alloc (.cells #[.int .i64 0] 3)):=(Below.refl _ _).alloc (Nat.le_refl _) _
  have hr2:Below w1.heap.size w1 ((w1.alloc (.cells #[.int .i64 0] 3)).alloc (.cells #[.slice oa2 v.length c2] 24)):=hr1.alloc (by simp) _
  have hr3:Below (w1.alloc (.cells #[.int .i64 0] 3)).heap.size (w1.alloc (.cells #[.int .i64 0] 3)) ((w1.alloc (.cells #[.int .i64 0] 3)).alloc (.cells #[.slice oa2 v.length c2] 24)):=(Below.refl _ _).alloc (Nat.le_refl _) _
  have q1:Rd (RS RI) ((w1.alloc (.cells #[.int .i64 0] 3)).alloc (.cells #[.slice oa2 v.length c2] 24)) [u1] cu:=o1.rd.below hr2 (Nat.le_refl _)
  have q2:Rd (RS RI) ((w1.alloc (.cells #[.int .i64 0] 3)).alloc (.cells #[.slice oa2 v.length c2] 24)) [.slice (some ⟨w1.heap.size,0,none⟩) 1 1] [(0:Int)] :=
   (Rd.lit (ds:=[.int .i64 0]) (xs:=[(0:Int)]) (w:=w1) (rdL.single (R:=RI) ⟨rfl,by omega,by omega⟩) rfl (by show 1 ≤ maxLen;decide)).below hr3 (Nat.le_refl _)
  have q3:Rd (RS (RS RI)) ((w1.alloc (.cells #[.int .i64 0] 3)).alloc (.cells #[.slice oa2 v.length c2] 24)) [.slice (some ⟨w1.heap.size + 1,0,none⟩) 1 1] [v]:=by
   rw [show w1.heap.size + 1 = (w1.alloc (.cells #[.int .i64 0] 3)).heap.size from by simp]
   exact
   Rd.lit (ds:=[.slice oa2 v.length c2]) (xs:=[v]) (w:=w1.alloc (.cells #[.int .i64 0] 3)) (rdL.single (R:=RS RI) ((HV.out.below hb1 (Nat.le_refl _)).below hr1 (Nat.le_refl _))) rfl (by show 1 ≤ maxLen;decide)
  refine (HGR.out _ _ _ _ q1 q2 q3).mono ?_
  rintro e w5 ⟨u5,rfl,o5,b5⟩
  go_wp2_with fail
  go_ret2
  have t1:=hb1.size
  have t2:=hr2.size
  exact ⟨_,by rw [hr.out];rfl,by rw [hr.out];exact o5.mono (by omega) (Nat.le_refl _),hb1.trans ((hr2.trans (b5.mono t2)).mono t1)⟩
 ·have hr:Hid (bpOf u v = ([],ckOf [u,v])):=Lib.hid (by unfold bpOf;rw [if_neg h])
  obtain ⟨c,hc⟩:∃ c,c = ckOf [u,v]:=⟨_,rfl⟩
  rw [← hc] at hck hr h
  have hcb:(c != 0) = true:=by simp [h]
  clear hc h
  go_enter Try.func43,Try.ntmps43
  go_wp2_with fail
  refine hck.mono ?_
  rintro e w' ⟨rfl,rfl⟩
  go_wp2_with fail
  go_ret2
  exact ⟨_,by rw [hr.out];rfl,by rw [hr.out];exact Own.nil _ _,hb0⟩
end Go.Proofs.Ytofpjonggpjneaa
namespace Go.Proofs.Ytofpjonggpjneaa
open Go.RowKit
theorem exists_not {l:List Nat}:∃ k,k ∉ l:=by
 have key:∀ (l:List Nat),∀ x ∈ l,x ≤ l.sum:=by
  intro l
  induction l with
  | nil => intro x hx;cases hx
  | cons y l ih =>
   intro x hx
   rw [List.sum_cons]
   rcases List.mem_cons.1 hx with rfl|hx
   ·omega
   ·have:=ih x hx;omega
 exact ⟨l.sum + 1,fun h => by have:=key l _ h;omega⟩
theorem exists_free (s:St):∃ k,Free s k:=by
 obtain ⟨k,hk⟩:=exists_not (l:=s.heap.map (·.1) ++ s.regs.flatMap (·.2.refs) ++ s.heap.flatMap (·.2.refs))
 simp only [List.mem_append,not_or] at hk
 obtain ⟨⟨h1,h2⟩,h3⟩:=hk
 refine ⟨k,?_,fun r av hr hm => h2 (List.mem_flatMap.2 ⟨_,look_all hr,hm⟩),fun q u hq hm => h3 (List.mem_flatMap.2 ⟨_,look_all hq,hm⟩)⟩
 cases e:look k s.heap with
 | none => rfl
 | some o => exact absurd (List.mem_map.2 ⟨_,look_all e,rfl⟩) h1
theorem AC.frz_id {key k:Nat} {xs:List (List D)} {x:AC} (h:key ∉ x.refs):x.frz key k xs = x:=by
 cases x with
 | own q n => simp only [AC.refs,List.mem_singleton] at h;simp only [AC.frz];rw [if_neg (fun e => h e.symm)]
 | view q i n => simp only [AC.refs,List.mem_singleton] at h;simp only [AC.frz];rw [if_neg (fun e => h e.symm)]
 | _ => rfl
theorem acs_frz_id {key k:Nat} {xs:List (List D)}:∀ {cs:List AC},key ∉ cs.flatMap AC.refs→cs.map (AC.frz key k xs) = cs
 | [],_ => rfl
 | c :: cs,h => by
  rw [List.flatMap_cons,List.mem_append,not_or] at h
  rw [List.map_cons,AC.frz_id h.1,acs_frz_id h.2]
theorem AV.frz_id {key k:Nat} {xs:List (List D)} {x:AV} (h:key ∉ x.refs):x.frz key k xs = x:=by
 cases x with
 | c x => simp only [AV.frz];rw [AC.frz_id h]
 | eptr => rfl
 | optr q i j => simp only [AV.refs,List.mem_singleton] at h;simp only [AV.frz];rw [if_neg (fun e => h e.symm)]
 | agg cs => simp only [AV.frz];rw [acs_frz_id h]
 | tup cs => simp only [AV.frz];rw [acs_frz_id h]
 | dead => rfl
theorem Obj.frz_id {key k:Nat} {xs:List (List D)} {o:Obj} (h:key ∉ o.refs):o.frz key k xs = o:=by
 cases o with
 | row => rfl
 | pin => rfl
 | lit k' css =>
  simp only [Obj.frz]
  congr 1
  have h:key ∉ css.flatMap (·.flatMap AC.refs):=h
  have:∀ css:List (List AC),key ∉ css.flatMap (·.flatMap AC.refs)→css.map (·.map (AC.frz key k xs)) = css:=by
   intro css
   induction css with
   | nil => intro _;rfl
   | cons c css ih =>
    intro h
    rw [List.flatMap_cons,List.mem_append,not_or] at h
    rw [List.map_cons,acs_frz_id h.1,ih h.2]
  exact this css h
section
variable {P:Program} {cfg:Cfg} {M:Nat→Prop} {ops:Array Oper} {s s':St} {w0:W0} {w:World} {Ok:Nat→Prop} {N:Nat} {σ:Asg} {a:Act} {fs:List Fr} {Q:Exit→St→Prop} {T:Tab P}
def valD:AV→Option D
 | .c (.val d) => some d
 | _ => Option.none
def devalB (cfg:Cfg) (ops:Array Oper) (o:Oper) (s:St):Option Tel :=
 match o.op with
 | .buildSlice t len parts => if dstOK cfg o = true∧awanted ops s.regs o = some true then
   o.dst.bind fun d => (cfg.sl t).bind fun i => if len = parts.size∧len * i.z.length ≤ 16777216 then (aparts s.regs 0 parts.toList).bind fun css => (rowsD i.z css).map fun r => ⟨⟨d,.c (.val (.sl i.z.length r.1)),[]⟩,opRefs s.regs o.op.operands.toList⟩ else Option.none
  else Option.none
 | .assign x => if dstOK cfg o = true∧awanted ops s.regs o = some true then
   o.dst.bind fun d => ((opv s.regs x).bind valD).map fun v => ⟨⟨d,.c (.val v),[]⟩,[]⟩
  else Option.none
 | _ => Option.none
theorem Does1.asg (C:CfgOK P cfg) {i:Nat} {o:Oper} (hi:ops[i]? = some o) {x:Operand} (hop:o.op = .assign x) (hd:dstOK cfg o = true) {d:Nat} (hdd:o.dst = some d) (hb:awanted ops s.regs o = some true) {v:D} (hv:opv s.regs x = some (.c (.val v))):Does1 P cfg ops i s ⟨⟨d,.c (.val v),[]⟩,[]⟩:=by
 refine ⟨o,hi,hdd,fun s' h1 h2 h3 w0 Ok σ a w K Q hS hK => ?_⟩
 have hw:awanted ops s'.regs o = some true:=by rw [awanted_congr h1,hb]
 have hov:opv s'.regs x = some (.c (.val v)):=by
  rw [← hv]
  cases x with
  | tmp t =>
   have:=h1 t (looks_operand (by rw [hop];simp [Op.operands]))
   simp only [opv,this]
  | _ => rfl
 have hst:astep cfg ops o s' = some (s'.add ⟨d,.c (.val v),[]⟩):=by
  unfold astep
  rw [if_pos hd,hw]
  simp only [Option.bind_some,if_true,hop,isMut,hdd,amut,hov]
  rfl
 have:=astep_wp C hS hst hK (Q:=Q)
 unfold wpOp
 simp only [hi]
 split
 ·rename_i hw2;rw [if_pos hw2] at this;exact .inl this
 ·rename_i hw2;rw [if_neg hw2] at this;exact this
theorem Does1.lit (C:CfgOK P cfg) {i:Nat} {o:Oper} (hi:ops[i]? = some o) {t:Tel} (h:devalB cfg ops o s = some t):Does1 P cfg ops i s t:=by
 unfold devalB at h
 split at h
 ·rename_i ty len parts hop
  split at h
  ·rename_i hc
   obtain ⟨d,hd,h⟩:=bind_some h
   obtain ⟨it,hit,h⟩:=bind_some h
   split at h
   ·rename_i hsz
    obtain ⟨css,hcss,h⟩:=bind_some h
    obtain ⟨⟨xs,b⟩,hr,rfl⟩:=map_some h
    refine ⟨o,hi,hd,fun s' h1 h2 h3 w0 Ok σ a w K Q hS hK => ?_⟩
    have hw:awanted ops s'.regs o = some true:=by rw [awanted_congr h1,hc.2]
    have hopl:o.op.operands.toList = parts.toList.map (·.2):=by rw [hop];rfl
    have hag:=agree_of (xs:=o.op.operands.toList) (fun x hx => hx) h1 h2
    rw [hopl] at hag
    have hcss':aparts s'.regs 0 parts.toList = some css:=by rw [aparts_congr hag,hcss]
    obtain ⟨q,hq⟩:=exists_free s'
    have hmk:mkObj it.z css = some (.row it.z.length xs b):=by unfold mkObj;rw [hr]
    have ha:anew cfg (fun k => look k s'.heap) s'.regs q o.op = some (.c (.own q len),[(q,.row it.z.length xs b)]):=by
     rw [hop]
     simp only [anew,hit,Option.bind_some]
     rw [if_pos hsz,hcss']
     simp only [Option.bind_some,hmk,Option.map_some]
    unfold wpOp
    simp only [hi,awanted_spec hS hw,if_true]
    left
    have hdN:d < cfg.N:=by have:=hc.1;rw [dstOK,hd] at this;simpa using this
    refine anew_doesF C hS (news:=[(q,.row it.z.length xs b)]) (av:=.c (.own q len)) ha (fun p ob hp => ?_) _ _ (fun v w' σ' hv hS' => ?_)
    ·have hp:(if q = p then some (Obj.row it.z.length xs b) else none) = some ob:=hp
     split at hp
     ·rename_i e;subst e;exact hq
     ·cases hp
    ·rw [hd]
     have hS1:=Sim.ins hS' hdN hv
     have hS2:=Sim.frz hS1 q
     refine hK σ' _ _ ?_
     have hlq:look q (⟨insR d (.c (.own q len)) s'.regs,[(q,Obj.row it.z.length xs b)] ++ s'.heap⟩:St).heap = some (.row it.z.length xs b):=by show look q ((q,Obj.row it.z.length xs b) :: s'.heap) = _;rw [look,if_pos rfl]
     have e:(⟨insR d (.c (.own q len)) s'.regs,[(q,Obj.row it.z.length xs b)] ++ s'.heap⟩:St).frz q = ⟨frzR q it.z.length xs (insR d (.c (.own q len)) s'.regs),frzH q it.z.length xs (drop q ([(q,Obj.row it.z.length xs b)] ++ s'.heap))⟩:=by
      unfold St.frz;rw [hlq]
     rw [e] at hS2
     refine hS2.forget (fun r av hr => ?_) (fun k o' ho' => ?_)
     ·have hr:look r (insR d (.c (.val (.sl it.z.length xs))) s'.regs) = some av:=hr
      rw [look_ins] at hr
      show look r (frzR q it.z.length xs (insR d (.c (.own q len)) s'.regs)) = _
      rw [look_frzR,look_ins]
      by_cases er:d = r
      ·rw [if_pos er] at hr ⊢
       cases hr
       show some (AV.c (if q = q then AC.val (.sl it.z.length xs) else AC.own q len)) = _
       rw [if_pos rfl]
      ·rw [if_neg er] at hr ⊢
       rw [hr]
       show some (av.frz q it.z.length xs) = _
       rw [AV.frz_id (hq.2.1 r av hr)]
     ·have ho':look k s'.heap = some o':=ho'
      show look k (frzH q it.z.length xs (drop q ((q,Obj.row it.z.length xs b) :: s'.heap))) = _
      have hkq:k ≠ q:=by rintro rfl;rw [hq.1] at ho';cases ho'
      rw [look_frzH,look_drop,if_neg hkq,look,if_neg (fun e => hkq e.symm),ho']
      show some (o'.frz q it.z.length xs) = _
      rw [Obj.frz_id (hq.2.2 k o' ho')]
   ·cases h
  ·cases h
 ·rename_i x hop
  split at h
  ·rename_i hc
   obtain ⟨d,hd,h⟩:=bind_some h
   obtain ⟨v,hv,rfl⟩:=map_some h
   obtain ⟨av,h1,h2⟩:=bind_some hv
   have:av = .c (.val v):=by
    unfold valD at h2
    split at h2
    ·cases h2;rfl
    ·cases h2
   subst this
   exact Does1.asg C hi hop hc.1 hd hc.2 h1
  ·cases h
 ·cases h
def devalF (fz:List Nat) (cfg:Cfg) (T:Tab P) (ops:Array Oper) (o:Oper) (s:St):Option Tel :=
 bif fz.contains (o.dst.getD 0) then devalB cfg ops o s else devalT cfg T ops o s
def drunF (fz:List Nat) (cfg:Cfg) (T:Tab P) (ops:Array Oper):List Oper→St→List Tel × St × List Oper
 | [],s => ([],s,[])
 | o :: l,s => match devalF fz cfg T ops o s with
  | some t => ((t :: (drunF fz cfg T ops l (s.add t.e)).1),(drunF fz cfg T ops l (s.add t.e)).2)
  | Option.none => ([],s,o :: l)
theorem drunF_spec {fz:List Nat} (C:CfgOK P cfg):∀ {l:List Oper} {i:Nat} {s:St},(∀ j,l[j]? = ops[i + j]?)→Tr P cfg ops i s (drunF fz cfg T ops l s).1 ∧
  (drunF fz cfg T ops l s).2.1 = (drunF fz cfg T ops l s).1.foldl (fun s t => s.add t.e) s∧(drunF fz cfg T ops l s).2.2 = l.drop (drunF fz cfg T ops l s).1.length
 | [],i,s,_ => ⟨trivial,rfl,rfl⟩
 | o :: l,i,s,hl => by
  have hi:ops[i]? = some o:=by have:=hl 0;simpa using this.symm
  simp only [drunF]
  cases hd:devalF fz cfg T ops o s with
  | none => exact ⟨trivial,rfl,rfl⟩
  | some t =>
   obtain ⟨h1,h2,h3⟩:=drunF_spec (fz:=fz) C (l:=l) (i:=i + 1) (s:=s.add t.e) (fun j => by have:=hl (j + 1);simpa [Nat.add_assoc,Nat.add_comm 1 j] using this)
   refine ⟨⟨?_,h1⟩,by simpa using h2,by simpa using h3⟩
   unfold devalF at hd
   cases hb:fz.contains (o.dst.getD 0) with
   | true => rw [hb] at hd;exact Does1.lit C hi hd
   | false => rw [hb] at hd;exact Does1.opT C hi hd
def dregF (s:St):List Tel × St × List Oper→Option (List Tel × St × List Oper)
 | (tr,s1,rest) => if tr.all (fun t => t.e.news.all fun p => fresh s p.1) = true then some (tr,s1,rest) else Option.none
theorem dregF_mk (s:St) (tr:List Tel) (s1:St) (rest:List Oper):dregF s (tr,s1,rest) = if tr.all (fun t => t.e.news.all fun p => fresh s p.1) = true then some (tr,s1,rest) else Option.none:=rfl
theorem RunK.wFz (C:CfgOK P cfg) (T:Tab P) (hm:P.follows .mixedOrders = true) (fz:List Nat) {id:Nat} {tr:List Tel} {s1:St} {rest:List Oper} (hr:Work (dregF s (drunF fz cfg T ops ops.toList s)) (some (tr,s1,rest))) (h1:ChkD ops tr)
  (h:ROps P cfg M ops rest (outK P cfg M fs Q .normal) s1):RunK P cfg M (.region id ops true) fs Q s:=by
 have hr:dregF s (drunF fz cfg T ops ops.toList s) = some (tr,s1,rest):=hr
 obtain ⟨⟨tr0,s10,rest0⟩,e⟩:∃ r,r = drunF fz cfg T ops ops.toList s:=⟨_,rfl⟩
 rw [← e,dregF_mk] at hr
 split at hr
 ·rename_i hf
  cases hr
  obtain ⟨k1,k2,k3⟩:=drunF_spec (T:=T) (fz:=fz) C (ops:=ops) (l:=ops.toList) (i:=0) (s:=s) (fun j => by simp)
  rw [← e] at k1 k2 k3
  refine Runs.draw hm k1 h1 hf ?_
  show ROps P cfg M ops (ops.toList.drop tr.length) _ (tr.foldl (fun s t => s.add t.e) s)
  rw [← k2,← k3]
  exact h
 ·cases hr
end
end Go.Proofs.Ytofpjonggpjneaa
namespace Go.Proofs.Ytofpjonggpjneaa
open Go.RowKit
theorem Row.take {w:World} {k n m cap:Nat} {ds:List Value} {og:Option Nat} (h:Row w (slv og n cap) k n ds og) (hm:m ≤ n):Row w (slv og m cap) k m (ds.take (m * k)) og:=by
 refine ⟨by rw [List.length_take,h.1];exact Nat.min_eq_left (Nat.mul_le_mul_right k hm),?_⟩
 rcases h.2 with ⟨h1,h2,h3⟩|⟨g,c,cur,e,h1,h2,h3,h4,h5,h6,h7⟩
 ·subst h3
  exact .inl ⟨rfl,by omega,rfl⟩
 ·subst h2
  have hc:cap = c:=by
   unfold slv at h1
   simp only [Value.slice.injEq] at h1
   exact h1.2.2
  subst hc
  refine .inr ⟨g,cap,cur,e,rfl,rfl,h3,by omega,h5,h6,?_⟩
  rw [← h7,List.take_take,Nat.min_eq_left (Nat.mul_le_mul_right k hm)]
section
variable {P:Program} {cfg:Cfg} {M:Nat→Prop} {w0:W0} {w w':World} {Ok:Nat→Prop} {N:Nat} {σ:Asg} {s:St} {a:Act} {ops:Array Oper}
theorem RunK.regCut (C:CfgOK P cfg) (T:Tab P) {fs:List Fr} {Q:Exit→St→Prop} {id:Nat} (n:Nat) {s1:St} (ha:Work (aopsT cfg T ops (ops.toList.take n) s) (some s1))
  (h:ROps P cfg M ops (ops.toList.drop n) (outK P cfg M fs Q .normal) s1):RunK P cfg M (.region id ops false) fs Q s:=by
 refine Runs.region ?_
 have e:ops.toList = ops.toList.take n ++ ops.toList.drop n:=(List.take_append_drop n _).symm
 have cut:∀ (l m:List Oper) (s:St),aopsT cfg T ops l s = some s1→ROps P cfg M ops m (outK P cfg M fs Q .normal) s1→ROps P cfg M ops (l ++ m) (outK P cfg M fs Q .normal) s:=by
  intro l
  induction l with
  | nil => intro m s h1 h2;simp only [aopsT,Option.some.injEq] at h1;subst h1;exact h2
  | cons o l ih =>
   intro m s h1 h2
   simp only [aopsT] at h1
   obtain ⟨s2,h3,h4⟩:=bind_some h1
   exact ROps.stepT C h3 (ih m s2 h4 h2)
 rw [e]
 exact cut _ _ s ha h
end
end Go.Proofs.Ytofpjonggpjneaa
namespace Go.Proofs.Ytofpjonggpjneaa
open Go.RowKit
section
variable {P:Program} {cfg:Cfg} {w0:W0} {w w':World} {Ok:Nat→Prop} {N:Nat} {σ σ':Asg} {s s':St} {a:Act} {M:Nat→Prop}
theorem relArgs.split {A:Nat→Prop}:∀ {pre:List (List D)} {ds:List (List D)} {vs:List Value},relArgs A w (pre ++ ds) vs→∃ vs1 vs2,vs = vs1 ++ vs2∧relArgs A w pre vs1∧relArgs A w ds vs2
 | [],ds,vs,h => ⟨[],vs,rfl,rfl,h⟩
 | d :: pre,ds,vs,⟨v,us,e,h1,h2⟩ => by
  obtain ⟨us1,us2,e2,h3,h4⟩:=relArgs.split h2
  subst e2;subst e
  exact ⟨v :: us1,us2,rfl,⟨v,us1,rfl,h1,h3⟩,h4⟩
theorem relArgs.join {A:Nat→Prop}:∀ {pre:List (List D)} {ds:List (List D)} {vs1 vs2:List Value},relArgs A w pre vs1→relArgs A w ds vs2→relArgs A w (pre ++ ds) (vs1 ++ vs2)
 | [],ds,vs1,vs2,h,k => by rw [show vs1 = [] from h];exact k
 | d :: pre,ds,vs1,vs2,⟨v,us,e,h1,h2⟩,k => by
  subst e
  exact ⟨v,us ++ vs2,rfl,h1,relArgs.join h2 k⟩
theorem Bel.nil (h:Bel ⟨w,fun b => (none:Option Nat) = some b⟩ w'):Below w.heap.size w w' :=
 ⟨h.os,h.tape,h.output,h.size,fun i hi => h.block i hi (fun e => nomatch e)⟩
theorem AOw.nil {g:FuncId} {pre post:List (List D)} {k:Nat} {Q:List Res→Prop} (h:AOw P g pre k [] post Q) (hk:0 < k):AFn P g (pre ++ [.raw (.slice none 0 0)] :: post) Q:=by
 refine ⟨h.call,fun A w vs hA hr => ?_⟩
 obtain ⟨vs1,vs2,e,h1,v,us,e2,h2,h3⟩:=relArgs.split hr
 subst e2;subst e
 obtain ⟨rfl,_⟩:=rdV_raw.1 (show rdV A w v (.raw (.slice none 0 0)) from h2)
 refine (h.fn A w vs1 us none 0 [] hA h1 h3 ⟨(Nat.zero_mul k).symm,.inl ⟨rfl,rfl,rfl⟩⟩ hk (by first|exact ⟨0,hk,rfl⟩|exact ⟨0,hk,trivial⟩|exact ⟨0,hk,by simp [rdL]⟩) (fun b e => nomatch e)).mono ?_
 rintro e w' ⟨v,rs,rfl,hQ,hb,ho⟩
 have e:(W0.mine ⟨w,fun b => (none:Option Nat) = some b⟩) = fun b => w.heap.size ≤ b:=by funext b;simp [W0.mine]
 rw [e] at ho
 exact ⟨v,rs,rfl,hQ,hb.nil,ho⟩
end
end Go.Proofs.Ytofpjonggpjneaa
namespace Go.Proofs.Ytofpjonggpjneaa
open Go.RowKit
def rowA:Obj→Option (List AC)
 | .lit _ [r] => some r
 | .row _ [r] _ => some (r.map .val)
 | _ => none
section
variable {P:Program} {cfg:Cfg} {M:Nat→Prop} {ops:Array Oper} {s s':St} {w0:W0} {w:World} {Ok:Nat→Prop} {N:Nat} {σ:Asg} {a:Act} {fs:List Fr} {Q:Exit→St→Prop} {T:Tab P} {H:List (Nat × Obj)}
theorem rdCs.toA:∀ {x:List D} {us:List Value},rdCs (Zn σ H w) w us x→relCs σ H w (x.map .val) us
 | [],us,h => List.eq_nil_of_length_eq_zero (by rw [h.len];rfl)
 | y :: x,us,h => by
  obtain ⟨u,us',rfl,h3,h4⟩:=h.cons_inv
  exact ⟨u,us',rfl,h3.one,h3,rdCs.toA h4⟩
theorem relCs.len:∀ {x:List AC} {us:List Value},relCs σ H w x us→us.length = x.length
 | [],_,h => by rw [show _ = [] from h];rfl
 | y :: x,_,⟨u,us',e,_,_,h⟩ => by rw [e,List.length_cons,List.length_cons,relCs.len h]
theorem Sim.rowA (h:Sim w0 Ok N σ s a w) {key:Nat} {o:Obj} (hk:look key s.heap = some o) {r:List AC} (hr:rowA o = some r) :
  o.len = 1∧0 < o.k∧∃ us,us.length = o.k∧Row w (slv (σ.g key) o.len (σ.cap key)) o.k o.len us (σ.g key)∧relCs σ s.heap w r us:=by
 unfold Go.Proofs.Ytofpjonggpjneaa.rowA at hr
 split at hr
 ·rename_i k r'
  cases hr
  obtain ⟨ds,hrow,hkp,hel⟩:=(h.rows key _ hk).row
  obtain ⟨c,d,e,hl,hc,hd⟩:=(show relRs σ s.heap w k [r] ds from hel)
  have hd:d = []:=hd
  subst hd
  rw [List.append_nil] at e
  subst e
  exact ⟨rfl,hkp,ds,hl,hrow,hc⟩
 ·rename_i k r' d
  cases hr
  obtain ⟨ds,hrow,hkp,hel⟩:=RowOK.rd h.ok1 h.rows h.disj hk
  obtain ⟨c,e,e1,hl,hcl,hc,he⟩:=hel.cons_inv
  have he:e = []:=by
   have h1:=hrow.1
   rw [e1,List.length_append,hcl] at h1
   simp only [List.length_cons,List.length_nil] at h1
   exact List.eq_nil_of_length_eq_zero (by omega)
  subst he
  rw [List.append_nil] at e1
  subst e1
  exact ⟨rfl,hkp,ds,hcl,hrow,hc.toA⟩
 ·cases hr
theorem ROps.cut (C:CfgOK P cfg) (T:Tab P) (n:Nat) {l:List Oper} {Q:St→Prop} {s1:St} (ha:Work (aopsT cfg T ops (l.take n) s) (some s1)) (h:ROps P cfg M ops (l.drop n) Q s1):ROps P cfg M ops l Q s:=by
 have ha:aopsT cfg T ops (l.take n) s = some s1:=ha
 have cut:∀ (l m:List Oper) (s:St),aopsT cfg T ops l s = some s1→ROps P cfg M ops m Q s1→ROps P cfg M ops (l ++ m) Q s:=by
  intro l
  induction l with
  | nil => intro m s h1 h2;simp only [aopsT,Option.some.injEq] at h1;subst h1;exact h2
  | cons o l ih =>
   intro m s h1 h2
   simp only [aopsT] at h1
   obtain ⟨s2,h3,h4⟩:=bind_some h1
   exact ROps.stepT C h3 (ih m s2 h4 h2)
 have:=cut _ _ s ha h
 rwa [List.take_append_drop] at this
theorem relCs.toD:∀ {x:List D} {us:List Value},relCs σ H w (x.map .val) us→rdCs (Zn σ H w) w us x
 | [],us,h => by rw [show us = [] from h];exact rdCs.nil
 | y :: x,_,⟨u,us',e,_,h2,h⟩ => by rw [e];exact rdCs.cons h2 (relCs.toD h)
structure AFnS (P:Program) (f:FuncId) (ds:List (List D)) (cs:List D):Prop where
 call:∀ args w,(callFunc f args).run P w = .ok (.enter f args) w
 fn:∀ (A:Nat→Prop) w vs,(∀ b,A b→b < w.heap.size)→relArgs A w ds vs→Calls P f vs.toArray w (fun e w' => ∃ us,e = .returned (.agg us.toArray)∧Below w.heap.size w w'∧rdCs (fun b => A b ∨ w.heap.size ≤ b) w' us cs)
def EndsS (cfg:Cfg) (fn:Func) (cs:List D) (e:Exit) (s:St):Prop :=
 (e = .normal ∨ e = .ret)∧∃ t ty key o z,fn.results = #[.cell t ty]∧look t s.regs = some (.optr key 0 0)∧look key s.heap = some o∧rowA o = some (cs.map .val)∧cfg.ty ty = some (z,true)∧z.length = cs.length
theorem AFnS.of_runs (C:CfgOK P cfg) {f:FuncId} {fn:Func} {c:Code} (hf:P.funcs[f]? = some fn) (hb:fn.body = some c) (hname:(fn.name == "runtime.NumGoroutine") = false) (hN:fn.ntmps = cfg.N) {ds:List (List D)} (hd:ds.length ≤ fn.ntmps) {cs:List D}
  (h:∀ M,Runs P cfg M c (EndsS cfg fn cs) ⟨argRegs 0 ds,[]⟩):AFnS P f ds cs:=by
 refine ⟨enters_of hf hname hb,fun A w vs hA hv => ?_⟩
 have hlen:=hv.len
 refine calls_of_wp hf hb ?_
 have hS:=start_sim (A:=A) (N:=cfg.N) (n:=fn.ntmps - vs.length) hv (by omega)
 refine h _ ⟨w,fun _ => False⟩ A _ _ w _ rfl (by simpa using hS) (fun e s' hE σ' a' w' hS' => ?_)
 obtain ⟨he,t,ty,key,o,z,hres,ht,hk,hr,hty,hzl⟩:=hE
 obtain ⟨zv,ti,d,t1,t2,t3,t4,t5,t6,t7,t8⟩:=C.ty ty z true hty
 obtain ⟨hlen1,hkp,us,hul,hrow,hus⟩:=hS'.rowA hk hr
 obtain ⟨_,b,hg,ep⟩:=hS'.regs t _ ht o hk
 rw [Nat.zero_mul,Nat.zero_add] at ep
 rw [hg] at hrow
 have hrd:=hus.toD
 have hcl:us.length = cs.length:=hrd.len
 have hrange:w'.rangeAt b 0 us:=fun q v hq => by rw [Nat.zero_add];exact hrow.cells q v hq
 have hi:(P.info? ty).map (·.size) = some us.length:=by rw [t1,hcl,← hzl,← t3];rfl
 have hload:(loadVar ty ⟨b,0,none⟩).run P w' = .ok (.agg us.toArray) w':=run_loadVar_mid w' b 0 ty us d hrange t6 t7 hi
 have ep':a'.tmps.getD t undef = .pointer (some ⟨b,0,none⟩):=ep
 have hrun:(results fn a'.tmps).run P w' = .ok (.agg us.toArray) w':=by
  unfold results
  rw [hres,Array.mapM_eq_mapM_toList]
  rw [Array.getD_eq_getD_getElem?] at ep'
  simp [ep',asAddr,hload]
 have hm:∀ b,Zn σ' s'.heap w' b→b < w'.heap.size→A b ∨ w.heap.size ≤ b:=fun b hb _ => by
  rcases hS'.ok2 b hb.2.1 with h1|h1
  ·exact .inl h1
  ·rcases h1 with h1|h1
   ·exact .inr h1
   ·exact h1.elim
 have hfin:a'.defers = []∧∃ v,(results fn a'.tmps).run P w' = .ok v w'∧∃ us,Ending.returned v = .returned (.agg us.toArray)∧Below w.heap.size w w'∧rdCs (fun b => A b ∨ w.heap.size ≤ b) w' us cs:=⟨hS'.defers,_,hrun,us,rfl,hS'.below.below,hrd.mono hm⟩
 rcases he with rfl|rfl <;> exact hfin
end
end Go.Proofs.Ytofpjonggpjneaa
namespace Go.Proofs.Ytofpjonggpjneaa
open Go.RowKit
def nxtH (h:Int):Int:=IntKind.u64.wrap (IntKind.u64.wrap (h * 6364136223846793005) + 1442695040888963407)
def nxtB (h:Int):Int:=wrap64 (bits BinOp.and IntKind.u64 (nxtH h / 8589934592) 16777215)
def nxtX (code:List Int) (i:Nat) (h:Int):Int:=if hi:i < code.length then wrap64 (nxtB h + code[i]) else nxtB h
def nxtF (code:List Int) (s:Nat × Int) (n:Int):Int × Nat × Int:=if n < 1 then (0,s) else ((nxtX code s.1 s.2).tmod n,if s.1 < code.length then s.1 + 1 else s.1,nxtH s.2)
theorem nxtB_bd (h:Int):0 ≤ nxtB h∧nxtB h ≤ 16777215:=by
 have h0:0 ≤ nxtH h∧nxtH h < 18446744073709551616:=by unfold nxtH IntKind.wrap;simp [IntKind.signed,IntKind.bits];omega
 have e:=bits_and_u64_nat (nxtH h / 8589934592).toNat 16777215 (by omega) (by omega)
 have e1:(((nxtH h / 8589934592).toNat:Nat):Int) = nxtH h / 8589934592:=by omega
 rw [e1] at e
 have hle:(nxtH h / 8589934592).toNat &&& 16777215 ≤ 16777215:=Nat.and_le_right
 unfold nxtB
 have e2:((16777215:Nat):Int) = 16777215:=rfl
 rw [e2] at e
 rw [e]
 unfold wrap64
 omega
theorem nxtX_bd {code:List Int} (hc:∀ c ∈ code,0 ≤ c∧c < 256) (i:Nat) (h:Int):0 ≤ nxtX code i h∧nxtX code i h ≤ 16777470:=by
 have h1:=nxtB_bd h
 unfold nxtX
 split
 ·rename_i hi
  have h2:=hc code[i] (List.getElem_mem _)
  unfold wrap64
  omega
 ·omega
theorem nxtF_bd {code:List Int} (hc:∀ c ∈ code,0 ≤ c∧c < 256) (s:Nat × Int) (n:Int):0 ≤ (nxtF code s n).1∧((nxtF code s n).1 < n ∨ (n < 1∧(nxtF code s n).1 = 0)):=by
 unfold nxtF
 split
 ·rename_i h;exact ⟨Int.le_refl _,.inr ⟨h,rfl⟩⟩
 ·rename_i h
  have h1:=nxtX_bd hc s.1 s.2
  show 0 ≤ (nxtX code s.1 s.2).tmod n∧((nxtX code s.1 s.2).tmod n < n ∨ _)
  rw [Int.tmod_eq_emod_of_nonneg h1.1]
  exact ⟨Int.emod_nonneg _ (by omega),.inl (Int.emod_lt_of_pos _ (by omega))⟩
def Byt (w:World) (b:Nat) (oa:Option Addr) (code:List Int):Prop:=(∀ c ∈ code,0 ≤ c∧c < 256)∧(code = [] ∨ ∃ b2 off,oa = some ⟨b2,off,none⟩∧b2 ≠ b∧∀ i (h:i < code.length),w.cell? ⟨b2,off + i,none⟩ = some (.int .u8 code[i]))
theorem row_set {w:World} {b k cap0:Nat} {ds:List Value} (hr:Row w (slv (some b) 1 cap0) k 1 ds (some b)) (j:Nat) (u:Value):Row (w.setCell ⟨b,j,none⟩ u) (slv (some b) 1 cap0) k 1 (ds.set j u) (some b):=(hr.store j u).1
theorem bel_set {w0:World} {w:World} {b:Nat} (h:Bel ⟨w0,fun c => c = b⟩ w) (j:Nat) (u:Value):Bel ⟨w0,fun c => c = b⟩ (w.setCell ⟨b,j,none⟩ u) :=
 ⟨h.os,h.tape,h.output,by simpa using h.size,fun k hk hn => (heap_setCell_other w ⟨b,j,none⟩ k u (fun e => hn e)).trans (h.block k hk hn)⟩
theorem row_drew {w:World} {b k cap0:Nat} {ds:List Value} (hr:Row w (slv (some b) 1 cap0) k 1 ds (some b)) (n:Nat):Row (w.drewN n) (slv (some b) 1 cap0) k 1 ds (some b):=hr
theorem bel_drew {w0:World} {w:World} {b:Nat} (h:Bel ⟨w0,fun c => c = b⟩ w) (n:Nat):Bel ⟨w0,fun c => c = b⟩ (w.drewN n):=⟨h.os,h.tape,h.output,h.size,h.block⟩
theorem bel_refl (w:World) (b:Nat):Bel ⟨w,fun c => c = b⟩ w:=⟨rfl,rfl,rfl,Nat.le_refl _,fun _ _ _ => rfl⟩
def RetN (w:World) (b:Nat) (oa:Option Addr) (cap cap0:Nat) (code:List Int) (r:Int × Nat × Int) (e:Ending) (w':World):Prop :=
 e = .returned (.int .i64 r.1)∧Row w' (slv (some b) 1 cap0) 3 1 [.slice oa code.length cap,.int .i64 r.2.1,.int .u64 r.2.2] (some b)∧Bel ⟨w,fun c => c = b⟩ w'
set_option maxRecDepth 100000 in
set_option maxHeartbeats 1000000 in
theorem c_l01Next (w:World) (b:Nat) (oa:Option Addr) (code:List Int) (cap cap0:Nat) (s:Nat × Int) (n:Int) (hr:Row w (slv (some b) 1 cap0) 3 1 [.slice oa code.length cap,.int .i64 s.1,.int .u64 s.2] (some b)) (hB:Byt w b oa code) (hn:In64 n) (hat:s.1 ≤ code.length) (hl:code.length ≤ 1000000000) :
  Calls Try.prog 108 #[.pointer (some ⟨b,0,none⟩),.int .i64 n] w (RetN w b oa cap cap0 code (nxtF code s n)):=by
 obtain ⟨i,h⟩:=s
 have c0:=hr.cells 0 _ rfl
 have c1:=hr.cells 1 _ rfl
 have c2:=hr.cells 2 _ rfl
 have f0:=hr.frozen 0
 have f1:=hr.frozen 1
 have f2:=hr.frozen 2
 have hlt:=hr.lt b rfl
 simp only at c0 c1 c2 hat
 have HR:=Lib.hid hr
 by_cases hn1:n < 1
 ·have hF:nxtF code (i,h) n = (0,i,h):=if_pos hn1
  rw [hF]
  clear hr hB hF
  go_enter Try.func108,Try.ntmps108
  go_wp2
  go_ret
  exact ⟨rfl,HR.out,bel_refl w b⟩
 ·have hF:nxtF code (i,h) n = ((nxtX code i h).tmod n,if i < code.length then i + 1 else i,nxtH h):=if_neg hn1
  rw [hF]
  by_cases ha:i < code.length
  ·obtain ⟨b2,off,e,hne,hg⟩:=hB.2.resolve_left (fun e => by rw [e] at ha;cases ha)
   have hgi:=hg i ha
   clear hg
   have hc:=hB.1 code[i] (List.getElem_mem _)
   have hX:nxtX code i h = wrap64 (nxtB h + code[i]):=dif_pos ha
   rw [hX,if_pos ha]
   obtain ⟨c,hce⟩:∃ c,c = code[i]:=⟨_,rfl⟩
   rw [← hce] at hgi hc ⊢
   have hwc:wrap64 c = c:=by unfold wrap64;omega
   subst e
   clear hr hB hce hF hX
   go_enter Try.func108,Try.ntmps108
   go_wp2
   go_quiet (fail)
   go_wp2
   go_quiet (fail)
   go_wp2
   go_ret
   exact ⟨rfl,row_set (row_drew (row_set HR.out 2 _) _) 1 _,bel_set (bel_drew (bel_set (bel_refl w b) 2 _) _) 1 _⟩
  ·have hX:nxtX code i h = nxtB h:=dif_neg ha
   rw [hX,if_neg ha]
   clear hr hB hF hX
   go_enter Try.func108,Try.ntmps108
   go_wp2
   go_quiet (fail)
   go_wp2
   go_ret
   exact ⟨rfl,row_drew (row_set HR.out 2 _) _,bel_drew (bel_set (bel_refl w b) 2 _) _⟩
def hshS (m:Int) (h c:Int):Int:=IntKind.u64.wrap (IntKind.u64.wrap (IntKind.u64.wrap (h * 1099511628211) + c) + m)
def hshF (m h0:Int) (code:List Int):Int:=code.foldl (hshS m) h0
theorem hshF_snoc (m h0:Int) (code:List Int) (k:Nat) (h:k < code.length):hshF m h0 (code.take (k + 1)) = hshS m (hshF m h0 (code.take k)) code[k]:=by
 unfold hshF
 rw [List.take_succ_eq_append_getElem h,List.foldl_append];rfl
def RetP (w:World) (oa:Option Addr) (cap:Nat) (code:List Int) (h:Int) (e:Ending) (w':World):Prop :=
 e = .returned (.pointer (some ⟨w.heap.size,0,none⟩))∧Row w' (slv (some w.heap.size) 1 1) 3 1 [.slice oa code.length cap,.int .i64 0,.int .u64 h] (some w.heap.size)∧Below w.heap.size w w'
theorem cell_lt {w:World} {b off:Nat} {v:Value} (h:w.cell? ⟨b,off,none⟩ = some v):b < w.heap.size:=by
 rcases Nat.lt_or_ge b w.heap.size with h1|h1
 ·exact h1
 ·rw [World.cell?] at h
  simp [Array.getElem?_eq_none h1] at h
theorem byt_below {w w':World} {n b off:Nat} {v:Value} (hb:Below n w w') (hlt:b < n) (h:w.cell? ⟨b,off,none⟩ = some v):w'.cell? ⟨b,off,none⟩ = some v:=by
 rw [World.cell?] at h ⊢
 rw [hb.block b hlt]
 exact h
set_option maxRecDepth 100000 in
set_option maxHeartbeats 2000000 in
theorem c_l01From (w:World) (oa:Option Addr) (code:List Int) (cap:Nat) (hB:Byt w w.heap.size oa code) (hcap:code.length ≤ cap) (hnil:oa = none→cap = 0) (hl:code.length ≤ 1000000000) :
  Calls Try.prog 90 #[.slice oa code.length cap] w (RetP w oa cap code (hshF 11 (5381 + code.length) (code.take 4096))):=by
 unfold RetP
 have HB:=Lib.hid hB
 obtain ⟨h0,hh0⟩:∃ h0,h0 = 5381 + (code.length:Int):=⟨_,rfl⟩
 rw [← hh0]
 have HH:=Lib.hid hh0
 clear hB hh0
 go_enter Try.func90,Try.ntmps90
 go_wp2
 go_loopw [4] (fun i wr => ∃ k:Nat,k ≤ code.length∧k ≤ 4096∧i = .int .i64 k∧Row wr (slv (some w.heap.size) 1 1) 3 1 [.slice oa code.length cap,.int .i64 0,.int .u64 (hshF 11 h0 (code.take k))] (some w.heap.size)∧Below w.heap.size w wr) (fun i _ => code.length - (intOf i).toNat)
 case atStart =>
  refine ⟨0,Nat.zero_le _,Nat.zero_le _,rfl,?_,?_⟩
  ·rw [List.take_zero]
   show Row _ _ 3 1 [_,_,.int .u64 h0] _
   rw [HH.out]
   exact Row.lit w #[.slice oa code.length cap,.int .i64 0,.int .u64 _] _ 3 1 (by decide) rfl
  ·exact (Below.refl _ _).alloc (Nat.le_refl _) _
 case round =>
  obtain ⟨k,hk,hk2,rfl,hrow,hbel⟩:=hrel
  have c0:=hrow.cells 0 _ rfl
  have c2:=hrow.cells 2 _ rfl
  have f2:=hrow.frozen 2
  have hlt:=hrow.lt _ rfl
  have HR:=Lib.hid hrow
  have HL:=Lib.hid hbel
  clear hrow hbel
  by_cases hlt1:k < code.length
  ·by_cases hlt2:k < 4096
   ·have hB:=HB.out
    obtain ⟨b2,off,e,hne,hg⟩:=hB.2.resolve_left (fun e => by rw [e] at hlt1;cases hlt1)
    have hgi:=byt_below HL.out (cell_lt (hg k hlt1)) (hg k hlt1)
    have hc:=hB.1 code[k] (List.getElem_mem _)
    have hst:=hshF_snoc 11 h0 code k hlt1
    obtain ⟨c,hce⟩:∃ c,c = code[k]:=⟨_,rfl⟩
    rw [← hce] at hgi hc hst
    subst e
    have HS:=Lib.hid hst
    clear hB hg hce hst
    obtain ⟨h,hh⟩:∃ h,h = hshF 11 h0 (code.take k):=⟨_,rfl⟩
    rw [← hh] at HR HS c2
    clear hh
    go_wp2_with fail
    go_region
    go_wp2_with fail
    go_roundw
    case rel =>
     refine ⟨k + 1,by omega,by omega,by go_num,?_,?_⟩
     ·rw [HS.out]
      exact row_set HR.out 2 _
     ·have hz:Below w.heap.size w (wr.setCell ⟨w.heap.size,2,none⟩ (.int .u64 (hshS 11 h c))):=HL.out.setCell (Nat.le_refl _) _
      exact ⟨hz.os,hz.tape,hz.output,hz.size,hz.block⟩
    case measure => simp [intOf];omega
   ·obtain rfl:k = 4096:=by omega
    go_wp2_with fail
    go_ret
    exact ⟨rfl,HR.out,HL.out⟩
  ·have e:code.take 4096 = code.take k:=by rw [List.take_of_length_le (by omega),List.take_of_length_le (by omega)]
   have HE:=Lib.hid e
   clear e
   go_wp2_with fail
   go_ret
   rw [HE.out]
   exact ⟨rfl,HR.out,HL.out⟩
end Go.Proofs.Ytofpjonggpjneaa
