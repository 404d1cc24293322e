/- Lemmas (3). -/
import Derived.BigQuiet
import Derived.Test.YtofpjonggpjneaaZG0
import Derived.Test.YtofpjonggpjneaaZG2
set_option linter.unusedSimpArgs false
set_option linter.unusedVariables false
namespace Go.Proofs.Ytofpjonggpjneaa
open Go.RowKit
theorem getD_get {t:List Int} {i:Nat} (h:i < t.length):t.getD i 0 = t[i]:=by simp [h]
theorem Below.of_alloc_heap {w W w2:World} {o:Obj} (b:Below W.heap.size W w2) (e:W.heap = (w.alloc o).heap) (e1:W.os = w.os) (e2:W.tape = w.tape) (e3:W.output = w.output):Below w.heap.size w w2 :=
 ⟨b.os.trans e1,b.tape.trans e2,b.output.trans e3,by have:=b.size;rw [e] at this;simp at this;omega,
  fun k hk => (b.block k (by rw [e];simp;omega)).trans (by rw [e];exact Below.heap_alloc w o k hk)⟩
theorem Below.of_heap_eq {w W w2:World} (b:Below W.heap.size W w2) (e:W.heap = w.heap) (e1:W.os = w.os) (e2:W.tape = w.tape) (e3:W.output = w.output):Below w.heap.size w w2:=by
 rw [e] at b
 exact ⟨b.os.trans e1,b.tape.trans e2,b.output.trans e3,by have:=b.size;rw [e] at this;exact this,fun k hk => (b.block k hk).trans (by rw [e])⟩
theorem Rd.two {α:Type} {R:Rep α} {w W:World} {u1 u2:Value} {x y:List α} {E:TypeId} (h1:Rd (RS R) w [u1] x) (h2:Rd (RS R) w [u2] y) (e:W.heap = (w.alloc (.cells #[u1,u2] E)).heap) :
  Rd (RS (RS R)) W [.slice (some ⟨w.heap.size,0,none⟩) 2 2] [x,y]:=by
 refine Rd.of_heap (w:=w.alloc (.cells #[u1,u2] E)) ?_ e
 have hb:Below w.heap.size w (w.alloc (.cells #[u1,u2] E)):=(Below.refl _ _).alloc (Nat.le_refl _) _
 refine ⟨some ⟨w.heap.size,0,none⟩,2,[u1,u2],rfl,Nat.le_refl _,by decide,by simp,⟨[u1],[u2],rfl,h1.below hb (Nat.le_refl _),⟨[u2],[],rfl,h2.below hb (Nat.le_refl _),rfl⟩⟩,.inr ⟨w.heap.size,0,rfl,by simp,fun j u hj => ?_⟩⟩
 rw [Nat.zero_add,World.cell?_alloc_at _ _ _ _ rfl]
 simpa using hj
end Go.Proofs.Ytofpjonggpjneaa
namespace Go.Proofs.Ytofpjonggpjneaa
open Go.RowKit
theorem nearStep_bd {near:List (List Int)} {i:Nat} {k B:Int} (h:∀ x ∈ near,∀ y ∈ x,0 ≤ y∧y < B) (hi:(i:Int) < B) (hk:k < B):∀ x ∈ nearStep near i k,∀ y ∈ x,0 ≤ y∧y < B:=by
 intro x hx y hy
 have h0:∀ (near:List (List Int)) (j:Nat) (z:Int),(∀ x ∈ near,∀ y ∈ x,0 ≤ y∧y < B)→0 ≤ z→z < B→∀ x ∈ near.set j (near.getD j [] ++ [z]),∀ y ∈ x,0 ≤ y∧y < B:=by
  intro near j z h z0 z1 x hx y hy
  rcases List.mem_or_eq_of_mem_set hx with hx|rfl
  ·exact h x hx y hy
  ·rcases List.mem_append.1 hy with hy|hy
   ·by_cases hj:j < near.length
    ·simp only [List.getD_eq_getElem?_getD,List.getElem?_eq_getElem hj,Option.getD_some] at hy
     exact h _ (List.getElem_mem hj) y hy
    ·simp [List.getD_eq_getElem?_getD,List.getElem?_eq_none (Nat.le_of_not_lt hj)] at hy
   ·rw [List.mem_singleton] at hy;subst hy;exact ⟨z0,z1⟩
 unfold nearStep at hx
 split at hx
 ·exact h0 _ _ _ (h0 near i k h ‹_› hk) (by omega) hi x hx y hy
 ·exact h x hx y hy
theorem nearTo_bd (t:List Int):∀ i,i ≤ t.length→∀ x ∈ nearTo t i,∀ y ∈ x,0 ≤ y∧y < t.length
 | 0,_,x,hx,y,hy => by rw [nearTo,List.mem_replicate] at hx;rw [hx.2] at hy;cases hy
 | i + 1,hi,x,hx,y,hy => by
  have:=(parS_lt t (t.getD i 0 - 1) i).2
  exact nearStep_bd (nearTo_bd t i (by omega)) (by omega) (by show parAt t i < _;unfold parAt;omega) x hx y hy
def movedL (base:Nat) (k:Nat) (others:List Int) (nd:Int):List Int:=others.map (fun x => (base:Int) + x) ++ (if k = 0 then [nd] else [])
def addTo (base:Nat) (nvs:List (List Int)) (nd:Int):Nat→List (List Int)
 | 0 => []
 | k + 1 => addTo base nvs nd k ++ [movedL base k (nvs.getD k []) nd]
theorem addTo_len (base:Nat) (nvs:List (List Int)) (nd:Int):∀ k,(addTo base nvs nd k).length = k
 | 0 => rfl
 | k + 1 => by rw [addTo,List.length_append,addTo_len base nvs nd k];rfl
def graft1 (near:List (List Int)) (nd:Int) (v:List Int):List (List Int) :=
 (near ++ addTo near.length (nears v) nd v.length).set nd.toNat ((near ++ addTo near.length (nears v) nd v.length).getD nd.toNat [] ++ [(near.length:Int)])
theorem graft1_len (near:List (List Int)) (nd:Int) (v:List Int):(graft1 near nd v).length = near.length + v.length:=by
 unfold graft1
 rw [List.length_set,List.length_append,addTo_len]
def graftTo (u:List Int) (nodes:List Int) (list:List (List Int)):Nat→List (List Int)
 | 0 => nears u
 | i + 1 => graft1 (graftTo u nodes list i) (nodes.getD i 0) (list.getD i [])
theorem graftTo_len (u:List Int) (nodes:List Int) (list:List (List Int)):∀ i,i ≤ list.length→(graftTo u nodes list i).length = u.length + sumLen (list.take i)
 | 0,_ => by rw [graftTo];unfold nears;rw [nearTo_len];simp [sumLen]
 | i + 1,hi => by
  rw [graftTo,graft1_len,graftTo_len u nodes list i (by omega),sumLen_take_succ list i (by omega)]
  simp [show i < list.length by omega]
  omega
theorem getD_len {near:List (List Int)} {B:Nat} (h:∀ x ∈ near,x.length ≤ B) (i:Nat):(near.getD i []).length ≤ B:=by
 by_cases hi:i < near.length
 ·simp only [List.getD_eq_getElem?_getD,List.getElem?_eq_getElem hi,Option.getD_some];exact h _ (List.getElem_mem hi)
 ·simp [List.getD_eq_getElem?_getD,List.getElem?_eq_none (Nat.le_of_not_lt hi)]
theorem addTo_each {base:Nat} {nvs:List (List Int)} {nd:Int} {B:Nat} (h:∀ x ∈ nvs,x.length ≤ B):∀ k,∀ y ∈ addTo base nvs nd k,y.length ≤ B + 1
 | 0,y,hy => by cases hy
 | k + 1,y,hy => by
  rw [addTo] at hy
  rcases List.mem_append.1 hy with hy|hy
  ·exact addTo_each h k y hy
  ·rw [List.mem_singleton] at hy
   subst hy
   have:=getD_len h k
   generalize nvs.getD k [] = g at this ⊢
   unfold movedL
   rw [List.length_append,List.length_map]
   split
   ·rw [List.length_singleton];omega
   ·rw [List.length_nil];omega
theorem graft1_each {near:List (List Int)} {nd:Int} {v:List Int} {B:Nat} (h:∀ x ∈ near,x.length ≤ B) (hv:v.length ≤ 8) (hB:17 ≤ B):∀ y ∈ graft1 near nd v,y.length ≤ B + 1:=by
 have h1:∀ y ∈ near ++ addTo near.length (nears v) nd v.length,y.length ≤ B:=by
  intro y hy
  rcases List.mem_append.1 hy with hy|hy
  ·exact h y hy
  ·have:=addTo_each (B:=16) (fun x hx => by have:=nearTo_each v v.length x hx;omega) _ y hy
   omega
 intro y hy
 unfold graft1 at hy
 rcases List.mem_or_eq_of_mem_set hy with hy|rfl
 ·have:=h1 y hy;omega
 ·have:=getD_len h1 nd.toNat
  rw [List.length_append,List.length_singleton]
  omega
theorem graftTo_each {u:List Int} {nodes:List Int} {list:List (List Int)} (hu:u.length ≤ 8) (hl:∀ v ∈ list,v.length ≤ 8):∀ i,∀ y ∈ graftTo u nodes list i,y.length ≤ 17 + i
 | 0,y,hy => by have:=nearTo_each u u.length y hy;omega
 | i + 1,y,hy => by
  have:=graft1_each (graftTo_each hu hl i) (getD_len hl i) (by omega) y hy
  omega
def graftN (u:List Int) (nodes:List Int) (list:List (List Int)):List Int:=treeF 9 (graftTo u nodes list list.length) 0 (-1)
def graftOk (u:List Int) (nodes:List Int) (list:List (List Int)):Bool :=
 treeOk 9 (graftTo u nodes list list.length) 0 (-1) && Nat.ble (treeSm 9 (graftTo u nodes list list.length) 0 (-1)) 13
section
variable {α:Type} {R:Rep α}
theorem OwnF.snoc {w w':World} {v v':Value} {xs:List α} {x:α} {c:List Value} {ds:List Value} {og og':Option Nat} {F G:List Nat}
  (hel:ownL R w ds xs F) (hF:(og.toList ++ F).Nodup) (hlt:∀ b,b ∈ og.toList ++ F→b < w.heap.size) (hx:OwnF R G w c x) (hd:∀ b,b ∈ G→b ∉ og.toList ++ F)
  (h:Appended w w' v' R.k (xs.length + 1) (ds ++ c) og og') :
  OwnF (RS R) (og'.toList ++ (F ++ G)) w' [v'] (xs ++ [x])∧(∀ b,b ∈ og'.toList ++ (F ++ G)→b ∈ og.toList ++ F ∨ b ∈ G ∨ w.heap.size ≤ b)∧ChgF (og.toList ++ F) w w':=by
 obtain ⟨h1,h2,h3⟩:=h
 have hGl:=hx.lt
 have hFx:∀ b,b ∈ F ++ G→w'.heap[b]? = w.heap[b]?:=by
  intro b hb
  refine h2.block b ?_ ?_
  ·rcases List.mem_append.1 hb with hb|hb
   ·exact hlt b (by simp [hb])
   ·exact hGl b hb
  ·intro e
   rcases List.mem_append.1 hb with hb|hb
   ·exact (List.nodup_append.1 hF).2.2 b (by simp [← e]) b hb rfl
   ·exact hd b hb (by simp [← e])
 have hel':ownL R w' (ds ++ c) (xs ++ [x]) (F ++ G):=(hel.append (ownL.single hx.1)).frame hFx
 refine ⟨⟨⟨v',og',ds ++ c,F ++ G,rfl,by simpa using h1,hel',rfl⟩,?_⟩,?_,?_⟩
 ·have hFG:(F ++ G).Nodup:=List.nodup_append.2 ⟨(List.nodup_append.1 hF).2.1,hx.2,fun b hb b' hb' e => by subst e;exact hd b hb' (by simp [hb])⟩
  refine List.nodup_append.2 ⟨by cases og' <;> simp,hFG,fun b hb b' hb' e => ?_⟩
  subst e
  have hbo:og' = some b:=by simpa using hb
  rcases h3 with h3|⟨g,h3,hg⟩
  ·rcases List.mem_append.1 hb' with hb'|hb'
   ·exact (List.nodup_append.1 hF).2.2 b (by simp [← h3,hbo]) b hb' rfl
   ·exact hd b hb' (by simp [← h3,hbo])
  ·rw [hbo] at h3
   cases h3
   rcases List.mem_append.1 hb' with hb'|hb'
   ·have:=hlt b (by simp [hb']);omega
   ·have:=hGl b hb';omega
 ·intro b hb
  simp only [List.mem_append,Option.mem_toList] at hb
  rcases hb with hb|hb|hb
  ·rcases h3 with h3|⟨g,h3,hg⟩
   ·exact .inl (by simp [← h3,hb])
   ·rw [hb] at h3;cases h3;exact .inr (.inr hg)
  ·exact .inl (by simp [hb])
  ·exact .inr (.inl hb)
 ·exact (ChgF.of_grown h2).mono (fun b hb => by simp [Option.mem_toList.1 hb])
theorem wpList_snocF {P:Program} {w:World} {ops:Array Oper} {rest:List Oper} {o:Oper} {a:Act} {Q:Exit→Act→World→Prop} (hgd:o.guard = none) (s x:Operand) (t:TypeId)
  (ho:o.op = .call { callee:=.builtin .append,args:=#[s,x],argTypes:=#[t,t] })
  (e:TypeId) (z:Value) (k bytes:Nat) (T:ST P t e z k bytes) (hk:R.k = k)
  (v:Value) (xs:List α) (y:α) (c:List Value) (F G:List Nat) (hs:a.eval s = v) (hv:OwnF (RS R) F w [v] xs) (hy:OwnF R G w c y) (hd:∀ b,b ∈ G→b ∉ F) (E:TypeId)
  {H:Nat} (hx:a.eval x = .slice (some ⟨H,0,none⟩) 1 1) (hH:H = w.heap.size)
  (hbytes:(xs.length + 1) * bytes ≤ 140737488355328) (h63:xs.length + 1 ≤ 140737488355328)
  (h:∀ oa cap w' F',OwnF (RS R) F' w' [.slice oa (xs.length + 1) cap] (xs ++ [y])→xs.length + 1 ≤ cap→cap ≤ 9223372036854775807→(∀ b,b ∈ F'→b ∈ F ∨ b ∈ G ∨ w.heap.size ≤ b)→ChgF F w w'→wpList P ops Q rest (a.put o.dst (.slice oa (xs.length + 1) cap)) w') :
  wpList P ops Q (o :: rest) a (w.alloc (.cells c.toArray E)):=by
 subst hk
 have hlt:=hv.lt
 obtain ⟨⟨v',og,ds,F0,h1,hrow,hel,rfl⟩,hn⟩:=hv
 simp only [List.cons.injEq,and_true] at h1
 subst h1
 refine wpList_append1 (w:=w) hgd s x t ho e z R.k bytes T v xs.length ds og hs hrow E c hx hH (R.rd_len (R.own_rd hy.1)) (R.rd_one (R.own_rd hy.1)) hbytes (by unfold maxLen;omega) ?_
 intro v1 w1 og1 happ
 obtain ⟨k1,k2,k3⟩:=OwnF.snoc (v:=v) hel hn hlt hy hd happ
 obtain ⟨oa,cap,e1,q1,q2⟩:=(OwnF.rd k1).val
 subst e1
 rw [List.length_append,List.length_singleton] at *
 unfold maxLen at q2
 exact h oa cap w1 _ k1 q1 (by omega) k2 k3
theorem OwnF.setRow {w:World} {v:Value} {xs:List α} {F:List Nat} (h:OwnF (RS R) F w [v] xs) (hk:R.k = 1) (i:Nat) (hi:i < xs.length) :
  ∃ g cap a,v = .slice (some ⟨g,0,none⟩) xs.length cap∧xs.length ≤ cap∧cap ≤ 9223372036854775807∧g < w.heap.size∧g ∈ F∧w.cell? ⟨g,i,none⟩ = some a∧Rd R w [a] xs[i] ∧
   ∀ (w1:World) (y:α) (u:Value) (G:List Nat),Below w.heap.size w w1→OwnF R G w1 [u] y→(∀ b,b ∈ G→w.heap.size ≤ b) →
    w1.cell? ⟨g,i,none⟩ = some a∧w1.frozen? ⟨g,i,none⟩ = false∧∃ F',OwnF (RS R) F' (w1.setCell ⟨g,i,none⟩ u) [v] (xs.set i y)∧(∀ b,b ∈ F'→b ∈ F ∨ w.heap.size ≤ b)∧ChgF F w (w1.setCell ⟨g,i,none⟩ u):=by
 have hlt:=h.lt
 have hnd:=h.2
 obtain ⟨g,cap,d1,c,d2,F1,G0,F2,hv,hc1,hc2,rfl,hcl,hd1,hx,hrow,hK⟩:=h.lens i hi
 rw [hk] at hcl hd1
 rw [Nat.mul_one] at hd1
 match c,hcl with
 | [a],_ =>
 have hcell:w.cell? ⟨g,i,none⟩ = some a:=hrow.cells i a (by rw [List.getElem?_append_right (by omega),hd1];simp)
 have hgl:=hlt g (by simp)
 refine ⟨g,cap,a,hv,hc1,hc2,hgl,by simp,hcell,Rd.of (R.own_rd hx),?_⟩
 intro w1 y u G hbel hy hGl
 have hn1:=List.nodup_cons.1 hnd
 have hrow1:Row w1 v R.k xs.length (d1 ++ ([a] ++ d2)) (some g):=hrow.frame (fun g' hg' => by cases hg';exact hbel.block g hgl)
 obtain ⟨hst,hgr⟩:=hrow1.store i u
 have hset:(d1 ++ ([a] ++ d2)).set i u = d1 ++ ([u] ++ d2):=by
  rw [List.set_append_right _ _ (by omega),hd1,Nat.sub_self];rfl
 rw [hset] at hst
 have hsub:∀ b,b ∈ F1 ++ F2→b ≠ g:=fun b hm e => hn1.1 (by
  subst e
  rcases List.mem_append.1 hm with hm|hm
  ·simp [hm]
  ·simp [hm])
 have hfr:∀ b,b ∈ F1 ++ F2→(w1.setCell ⟨g,i,none⟩ u).heap[b]? = w.heap[b]?:=by
  intro b hm
  rw [heap_setCell_other w1 ⟨g,i,none⟩ b u (hsub b hm)]
  refine hbel.block b (hlt b ?_)
  rcases List.mem_append.1 hm with hm|hm
  ·simp [hm]
  ·simp [hm]
 have hy':R.own (w1.setCell ⟨g,i,none⟩ u) [u] y G:=R.own_frame hy.1 (fun b hb => heap_setCell_other w1 ⟨g,i,none⟩ b u (by have:=hGl b hb;show b ≠ g;omega))
 have hG:∀ b,b ∈ G→b ∉ g :: (F1 ++ F2):=fun b hb hm => by
  have h1:=hGl b hb
  have:b < w.heap.size:=by
   rcases List.mem_cons.1 hm with rfl|hm
   ·exact hgl
   ·rcases List.mem_append.1 hm with hm|hm
    ·exact hlt b (by simp [hm])
    ·exact hlt b (by simp [hm])
  omega
 have hnd':(g :: (F1 ++ (G ++ F2))).Nodup:=by
  have h2:=List.nodup_append.1 hn1.2
  have h3:=List.nodup_append.1 h2.2.1
  refine List.nodup_cons.2 ⟨?_,?_⟩
  ·intro hm
   simp only [List.mem_append] at hm
   rcases hm with hm|hm|hm
   ·exact hsub g (by simp [hm]) rfl
   ·exact hG g hm (by simp)
   ·exact hsub g (by simp [hm]) rfl
  ·refine List.nodup_append.2 ⟨h2.1,List.nodup_append.2 ⟨hy.2,h3.2.1,fun b hb b' hb' e => ?_⟩,fun b hb b' hb' e => ?_⟩
   ·subst e;exact hG b hb (by simp [hb'])
   ·subst e
    rcases List.mem_append.1 hb' with hb'|hb'
    ·exact hG b hb' (by simp [hb])
    ·exact h2.2.2 b hb b (by simp [hb']) rfl
 refine ⟨hrow1.cells i a (by rw [List.getElem?_append_right (by omega),hd1];simp),hrow1.frozen i,_,hK _ [u] y G (by rw [hk];rfl) hy' hfr hst hnd',?_,?_⟩
 ·intro b hb
  simp only [List.mem_cons,List.mem_append] at hb
  rcases hb with hb|hb|hb|hb
  ·exact .inl (by simp [hb])
  ·exact .inl (by simp [hb])
  ·exact .inr (hGl b hb)
  ·exact .inl (by simp [hb])
 ·refine (Below.chgF hbel).trans ((ChgF.of_grown hgr).mono (fun b hb => ?_))
  simp at hb
  simp [hb]
end
end Go.Proofs.Ytofpjonggpjneaa
namespace Go.Proofs.Ytofpjonggpjneaa
open Go.RowKit
def putC:List (List Int × Int)→List Int→Int→List (List Int × Int)
 | [],t,n => [(t,n)]
 | (x,c) :: s,t,n => if cmpT x t < 0 then (x,c) :: putC s t n else if x = t then (x,c + n) :: s else (t,n) :: (x,c) :: s
def RiseC (s:List (List Int × Int)):Prop:=s.Pairwise fun a b => cmpT a.1 b.1 < 0
theorem putC_mem:∀ (s:List (List Int × Int)) (t:List Int) (n:Int) (z:List Int × Int),z ∈ putC s t n→z.1 = t ∨ z ∈ s
 | [],t,n,z,h => by simp [putC] at h;simp [h]
 | (x,c) :: s,t,n,z,h => by
  unfold putC at h
  split at h
  ·rcases List.mem_cons.1 h with rfl|h
   ·exact .inr (by simp)
   ·rcases putC_mem s t n z h with h|h
    ·exact .inl h
    ·exact .inr (by simp [h])
  ·split at h
   ·rename_i e;subst e
    rcases List.mem_cons.1 h with rfl|h
    ·exact .inl rfl
    ·exact .inr (by simp [h])
   ·rcases List.mem_cons.1 h with rfl|h
    ·exact .inl rfl
    ·exact .inr h
theorem cmpT_eq_of {x t:List Int} (h1:¬ cmpT x t < 0) (h2:¬ x = t):cmpT t x < 0:=by
 have hz:=cmpT_cmp.zero x t
 have ha:=cmpT_cmp.anti t x
 by_cases h:cmpT x t = 0
 ·exact absurd (hz h) h2
 ·exact ha.2 (by omega)
theorem cmpT_lt_trans {a b d:List Int} (h1:cmpT a b < 0) (h2:cmpT b d < 0):cmpT a d < 0:=by
 have h3:=cmpT_cmp.trans a b d (by omega) (by omega)
 by_cases h:cmpT a d = 0
 ·have e:=cmpT_cmp.zero a d h
  subst e
  have:=(cmpT_cmp.anti a b).1 h1
  omega
 ·omega
theorem putC_rise:∀ (s:List (List Int × Int)) (t:List Int) (n:Int),RiseC s→RiseC (putC s t n)
 | [],t,n,_ => by simp [putC,RiseC]
 | (x,c) :: s,t,n,h => by
  have h':=List.pairwise_cons.1 h
  unfold putC
  split
  ·rename_i hlt
   refine List.pairwise_cons.2 ⟨fun z hz => ?_,putC_rise s t n h'.2⟩
   rcases putC_mem s t n z hz with e|e
   ·rw [e];exact hlt
   ·exact h'.1 z e
  ·split
   ·exact List.pairwise_cons.2 ⟨h'.1,h'.2⟩
   ·rename_i h1 h2
    refine List.pairwise_cons.2 ⟨fun z hz => ?_,h⟩
    have hx:=cmpT_eq_of h1 h2
    rcases List.mem_cons.1 hz with rfl|hz
    ·exact hx
    ·exact cmpT_lt_trans hx (h'.1 z hz)
theorem putC_len:∀ (s:List (List Int × Int)) (t:List Int) (n:Int),(putC s t n).length ≤ s.length + 1
 | [],t,n => by simp [putC]
 | (x,c) :: s,t,n => by
  have:=putC_len s t n
  unfold putC
  split
  ·simp;omega
  ·split <;> simp
def sumOf (ts:List (List Int)):List (List Int × Int):=ts.foldl (fun s t => putC s t 1) []
theorem sumOf_snoc (ts:List (List Int)) (t:List Int):sumOf (ts ++ [t]) = putC (sumOf ts) t 1:=by simp [sumOf,List.foldl_append]
theorem foldl_putC_len:∀ (ts:List (List Int)) (s:List (List Int × Int)),(ts.foldl (fun s t => putC s t 1) s).length ≤ s.length + ts.length
 | [],s => by simp
 | t :: ts,s => by
  have h1:=foldl_putC_len ts (putC s t 1)
  have h2:=putC_len s t 1
  simp only [List.foldl_cons,List.length_cons]
  omega
theorem sumOf_len (ts:List (List Int)):(sumOf ts).length ≤ ts.length:=by simpa [sumOf] using foldl_putC_len ts []
theorem foldl_putC_rise:∀ (ts:List (List Int)) (s:List (List Int × Int)),RiseC s→RiseC (ts.foldl (fun s t => putC s t 1) s)
 | [],_,h => h
 | t :: ts,s,h => foldl_putC_rise ts _ (putC_rise s t 1 h)
theorem sumOf_rise (ts:List (List Int)):RiseC (sumOf ts):=foldl_putC_rise ts [] List.Pairwise.nil
end Go.Proofs.Ytofpjonggpjneaa
namespace Go.Proofs.Ytofpjonggpjneaa
open Go.RowKit
def putEl (t:List Int) (n:Int) (z:List Int × Int):List Int × Int:=(z.1,if z.1 = t then z.2 + n else z.2)
def putTo (s:List (List Int × Int)) (t:List Int) (n:Int) (k:Nat):Nat→List (List Int × Int)
 | 0 => []
 | i + 1 => (if i = k∧(s.getD i ([],0)).1 ≠ t then putTo s t n k i ++ [(t,n)] else putTo s t n k i) ++ [putEl t n (s.getD i ([],0))]
theorem putTo_len (s:List (List Int × Int)) (t:List Int) (n:Int) (k:Nat):∀ i,(putTo s t n k i).length ≤ i + (if k < i then 1 else 0)
 | 0 => by simp [putTo]
 | i + 1 => by
  have:=putTo_len s t n k i
  unfold putTo
  split
  ·rename_i h
   rw [if_pos (by omega)]
   rw [if_neg (by omega)] at this
   simp;omega
  ·simp only [List.length_append,List.length_singleton]
   split at this <;> split <;> omega
theorem putC_app:∀ (p q:List (List Int × Int)) (t:List Int) (n:Int),(∀ z ∈ p,cmpT z.1 t < 0)→putC (p ++ q) t n = p ++ putC q t n
 | [],_,_,_,_ => rfl
 | (x,c) :: p,q,t,n,h => by
  rw [List.cons_append,List.cons_append,← putC_app p q t n (fun z hz => h z (by simp [hz])),putC,if_pos (h (x,c) (by simp))]
theorem putEl_ne {t:List Int} {n:Int} {z:List Int × Int} (h:z.1 ≠ t):putEl t n z = z:=by unfold putEl;rw [if_neg h]
theorem cmpT_ne {x t:List Int} (h:cmpT x t < 0):x ≠ t:=fun e => by rw [e,cmpT_cmp.refl] at h;omega
theorem putTo_low (p q:List (List Int × Int)) (t:List Int) (n:Int) (h:∀ z ∈ p,cmpT z.1 t < 0):∀ i,i ≤ p.length→putTo (p ++ q) t n p.length i = p.take i
 | 0,_ => by simp [putTo]
 | i + 1,hi => by
  have hg:(p ++ q).getD i ([],0) = p[i]'(by omega):=by
   simp only [List.getD]
   rw [List.getElem?_append_left (by omega),List.getElem?_eq_getElem (by omega)];rfl
  unfold putTo
  rw [if_neg (by omega),putTo_low p q t n h i (by omega),hg,putEl_ne (cmpT_ne (h _ (List.getElem_mem _))),List.take_succ_eq_append_getElem (by omega)]
theorem putTo_high (p r:List (List Int × Int)) (x:List Int) (c:Int) (t:List Int) (n:Int) (h:∀ z ∈ p,cmpT z.1 t < 0) (hr:∀ z ∈ r,z.1 ≠ t) :
  ∀ j,j ≤ r.length→putTo (p ++ (x,c) :: r) t n p.length (p.length + 1 + j) = p ++ (if x = t then [(x,c + n)] else [(t,n),(x,c)]) ++ r.take j
 | 0,_ => by
  show putTo (p ++ (x,c) :: r) t n p.length (p.length + 1) = _
  have hg:(p ++ (x,c) :: r).getD p.length ([],0) = (x,c):=by simp [List.getD]
  unfold putTo
  rw [hg,putTo_low p _ t n h p.length (Nat.le_refl _),List.take_length]
  by_cases e:x = t
  ·rw [if_neg (by simp [e]),if_pos e];simp [putEl,e]
  ·rw [if_pos ⟨rfl,e⟩,if_neg e];simp [putEl,e]
 | j + 1,hj => by
  have hg:(p ++ (x,c) :: r).getD (p.length + 1 + j) ([],0) = r[j]:=by
   have e:p.length + 1 + j - p.length = j + 1:=by omega
   simp only [List.getD]
   rw [List.getElem?_append_right (by omega),e,List.getElem?_cons_succ,List.getElem?_eq_getElem (by omega)];rfl
  show putTo (p ++ (x,c) :: r) t n p.length ((p.length + 1 + j) + 1) = _
  unfold putTo
  rw [if_neg (by omega),putTo_high p r x c t n h hr j (by omega),hg,putEl_ne (hr _ (List.getElem_mem _)),List.take_succ_eq_append_getElem (by omega),List.append_assoc]
theorem putTo_all (p q:List (List Int × Int)) (t:List Int) (n:Int) (hr:RiseC (p ++ q)) (h:∀ z ∈ p,cmpT z.1 t < 0) (hq:∀ z ∈ q.head?,¬ cmpT z.1 t < 0) :
  putTo (p ++ q) t n p.length (p ++ q).length ++ (if p.length = (p ++ q).length then [(t,n)] else []) = putC (p ++ q) t n:=by
 rw [putC_app p q t n h]
 rcases q with _|⟨⟨x,c⟩,r⟩
 ·rw [if_pos (by simp),putTo_low p [] t n h _ (by simp)]
  simp [putC]
 ·have hx:¬ cmpT x t < 0:=hq (x,c) (by simp)
  have hp:RiseC ((x,c) :: r):=(List.pairwise_append.1 hr).2.1
  have hrn:∀ z ∈ r,z.1 ≠ t:=by
   intro z hz e
   have h1:cmpT x z.1 < 0:=(List.pairwise_cons.1 hp).1 z hz
   rw [e] at h1
   exact hx h1
  have e:(p ++ (x,c) :: r).length = p.length + 1 + r.length:=by simp;omega
  rw [e,if_neg (by omega),putTo_high p r x c t n h hrn r.length (Nat.le_refl _),List.take_length]
  unfold putC
  rw [if_neg hx]
  split
  ·simp
  ·simp
end Go.Proofs.Ytofpjonggpjneaa
namespace Go.Proofs.Ytofpjonggpjneaa
def stepC {α:Type} (f:α→List Int) (out:List (α × Int)) (x:α):List (α × Int) :=
 match out.getLast? with
 | some z => if f z.1 = f x then out.dropLast ++ [(z.1,z.2 + 1)] else out ++ [(x,1)]
 | none => [(x,1)]
def runsF {α:Type} (f:α→List Int) (xs:List α):List (α × Int):=xs.foldl (stepC f) []
theorem runsF_snoc {α:Type} (f:α→List Int) (xs:List α) (x:α):runsF f (xs ++ [x]) = stepC f (runsF f xs) x:=by unfold runsF;rw [List.foldl_append];rfl
theorem stepC_nil {α:Type} (f:α→List Int) (x:α):stepC f [] x = [(x,1)]:=rfl
theorem stepC_eq {α:Type} (f:α→List Int) (out:List (α × Int)) (z:α × Int) (x:α) (h:f z.1 = f x):stepC f (out ++ [z]) x = out ++ [(z.1,z.2 + 1)]:=by
 unfold stepC;simp [h]
theorem stepC_ne {α:Type} (f:α→List Int) (out:List (α × Int)) (z:α × Int) (x:α) (h:¬ f z.1 = f x):stepC f (out ++ [z]) x = out ++ [z] ++ [(x,1)]:=by
 unfold stepC;simp [h]
theorem snoc_of {α:Type} {l:List α} (h:l ≠ []):∃ p z,l = p ++ [z]:=⟨l.dropLast,l.getLast h,(List.dropLast_concat_getLast h).symm⟩
theorem runsF_sub {α:Type} (f:α→List Int):∀ (n:Nat) (xs:List α),xs.length = n→((runsF f xs).map (·.1)).Sublist xs∧∀ z ∈ runsF f xs,1 ≤ z.2∧z.2 ≤ (n:Int)
 | 0,xs,h => by
  rw [List.eq_nil_of_length_eq_zero h]
  exact ⟨List.Sublist.slnil,fun z hz => by cases hz⟩
 | n + 1,xs,h => by
  obtain ⟨ys,x,rfl⟩:=snoc_of (l:=xs) (by intro e;rw [e] at h;simp at h)
  have hl:ys.length = n:=by simpa using h
  obtain ⟨h1,h2⟩:=runsF_sub f n ys hl
  rw [runsF_snoc]
  by_cases h0:runsF f ys = []
  ·rw [h0,stepC_nil]
   exact ⟨by simp,fun z hz => by simp at hz;subst hz;simp;omega⟩
  ·obtain ⟨out,z,e⟩:=snoc_of h0
   rw [e] at h1 h2 ⊢
   by_cases he:f z.1 = f x
   ·rw [stepC_eq f out z x he]
    refine ⟨?_,fun q hq => ?_⟩
    ·simp only [List.map_append,List.map_cons,List.map_nil] at h1 ⊢
     exact h1.trans (List.sublist_append_left _ _)
    ·rcases List.mem_append.1 hq with hq|hq
     ·have:=h2 q (by simp [hq]);omega
     ·have:=h2 z (by simp)
      simp at hq;subst hq
      simp only;omega
   ·rw [stepC_ne f out z x he]
    refine ⟨?_,fun q hq => ?_⟩
    ·rw [List.map_append]
     exact List.Sublist.append h1 (List.Sublist.refl _)
    ·rcases List.mem_append.1 hq with hq|hq
     ·have:=h2 q hq;omega
     ·simp at hq;subst hq;simp only;omega
theorem runsF_map {α:Type} (f:α→List Int):∀ (n:Nat) (xs:List α),xs.length = n→(runsF f xs).map (fun z => (f z.1,z.2)) = runsF id (xs.map f)
 | 0,xs,h => by rw [List.eq_nil_of_length_eq_zero h];rfl
 | n + 1,xs,h => by
  obtain ⟨ys,x,rfl⟩:=snoc_of (l:=xs) (by intro e;rw [e] at h;simp at h)
  have hl:ys.length = n:=by simpa using h
  have ih:=runsF_map f n ys hl
  rw [List.map_append,List.map_cons,List.map_nil,runsF_snoc,runsF_snoc,← ih]
  by_cases h0:runsF f ys = []
  ·rw [h0];rfl
  ·obtain ⟨out,z,e⟩:=snoc_of h0
   rw [e,List.map_append,List.map_cons,List.map_nil]
   by_cases he:f z.1 = f x
   ·rw [stepC_eq f out z x he,stepC_eq id _ (f z.1,z.2) (f x) he];simp
   ·rw [stepC_ne f out z x he,stepC_ne id _ (f z.1,z.2) (f x) he];simp
def cntOf (ts:List (List Int)):List (List Int × Int):=runsF id (sortC cmpT ts)
end Go.Proofs.Ytofpjonggpjneaa
