/- Lemmas (8). -/
import Derived.Test.YtgngidchldajhaaZA6
import Derived.Test.YtgngidchldajhaaZA7
set_option linter.unusedSimpArgs false
set_option linter.unusedVariables false
namespace Go.Proofs.Ytgngidchldajhaa
open Go.RowKit
def parS (t:List Int) (l:Int):Nat→Int
 | 0 => -1
 | k + 1 => if t.getD k 0 = l then (k:Int) else parS t l k
theorem parS_lt (t:List Int) (l:Int):∀ k,-1 ≤ parS t l k∧parS t l k < k
 | 0 => by simp [parS]
 | k + 1 => by
  have:=parS_lt t l k
  unfold parS
  split <;> omega
theorem parS_skip (t:List Int) (l:Int) (q:Nat):∀ k,q ≤ k→(∀ p,q ≤ p→p < k→t.getD p 0 ≠ l)→parS t l k = parS t l q
 | 0,h,_ => by rw [Nat.le_zero.1 h]
 | k + 1,h,hn => by
  by_cases hq:q = k + 1
  ·rw [hq]
  ·have h1:=hn k (by omega) (by omega)
   unfold parS
   rw [if_neg h1,parS_skip t l q k (by omega) (fun p a b => hn p a (by omega))]
   cases q <;> rfl
def parAt (t:List Int) (i:Nat):Int:=parS t (t.getD i 0 - 1) i
def parents (t:List Int):List Int:=(List.range t.length).map (parAt t)
theorem parents_len (t:List Int):(parents t).length = t.length:=by simp [parents]
theorem parents_get (t:List Int) (i:Nat) (h:i < t.length):(parents t)[i]'(by rw [parents_len];exact h) = parAt t i:=by simp [parents]
def nearStep (near:List (List Int)) (i:Nat) (k:Int):List (List Int) :=
 if 0 ≤ k then (near.set i (near.getD i [] ++ [k])).set k.toNat ((near.set i (near.getD i [] ++ [k])).getD k.toNat [] ++ [(i:Int)]) else near
def nearTo (t:List Int):Nat→List (List Int)
 | 0 => List.replicate t.length []
 | i + 1 => nearStep (nearTo t i) i (parAt t i)
def nears (t:List Int):List (List Int):=nearTo t t.length
theorem nearStep_len (near:List (List Int)) (i:Nat) (k:Int):(nearStep near i k).length = near.length:=by
 unfold nearStep
 split <;> simp
theorem nearTo_len (t:List Int):∀ i,(nearTo t i).length = t.length
 | 0 => by simp [nearTo]
 | i + 1 => by rw [nearTo,nearStep_len,nearTo_len t i]
theorem nearStep_each {near:List (List Int)} {i:Nat} {k:Int} {B:Nat} (h:∀ x ∈ near,x.length ≤ B):∀ x ∈ nearStep near i k,x.length ≤ B + 2:=by
 intro x hx
 unfold nearStep at hx
 have h0:∀ (near:List (List Int)) (i B:Nat),(∀ x ∈ near,x.length ≤ B)→(near.getD i []).length ≤ B:=by
  intro near i B h
  by_cases hi:i < near.length
  ·simp only [List.getD_eq_getElem?_getD,List.getElem?_eq_getElem hi,Option.getD_some];exact h _ (List.getElem_mem hi)
  ·simp [List.getD_eq_getElem?_getD,List.getElem?_eq_none (Nat.le_of_not_lt hi)]
 have h1:∀ (near:List (List Int)) (i B:Nat) (z:Int),(∀ x ∈ near,x.length ≤ B)→∀ x ∈ near.set i (near.getD i [] ++ [z]),x.length ≤ B + 1:=by
  intro near i B z h x hx
  rcases List.mem_or_eq_of_mem_set hx with hx|rfl
  ·have:=h x hx;omega
  ·have:=h0 near i B h;simp only [List.length_append,List.length_singleton];omega
 split at hx
 ·exact h1 _ _ _ _ (h1 near i B k h) x hx
 ·have:=h x hx;omega
theorem nearTo_each (t:List Int):∀ i,∀ x ∈ nearTo t i,x.length ≤ 2 * i
 | 0,x,hx => by rw [nearTo,List.mem_replicate] at hx;rw [hx.2];simp
 | i + 1,x,hx => by
  have:=nearStep_each (nearTo_each t i) x hx
  omega
def treeF:Nat→List (List Int)→Int→Int→List Int
 | 0,_,_,_ => [0]
 | f + 1,near,root,from' => canon (rootOn (((near.getD root.toNat []).filter fun x => decide (x ≠ from')).map fun x => treeF f near x root))
def nodeCount (bs:List (List Int)):Nat:=bs.foldl (fun a b => a + b.length) 1
theorem nodeCount_eq (bs:List (List Int)):nodeCount bs = (rootOn bs).length:=by
 rw [rootOn_len]
 have:∀ (bs:List (List Int)) (n:Nat),bs.foldl (fun a b => a + b.length) n = n + sumLen bs:=by
  intro bs
  induction bs with
  | nil => intro n;simp [sumLen]
  | cons b bs ih => intro n;rw [List.foldl_cons,ih];simp [sumLen];omega
 unfold nodeCount
 rw [this];omega
def treeOk:Nat→List (List Int)→Int→Int→Bool
 | 0,_,_,_ => false
 | f + 1,near,root,from' => decide (0 ≤ root) && (decide (root < near.length) && (((near.getD root.toNat []).all fun x => decide (x = from') || treeOk f near x root)))
def treeSm:Nat→List (List Int)→Int→Int→Nat
 | 0,_,_,_ => 1
 | f + 1,near,root,from' => ((near.getD root.toNat []).filter fun x => decide (x ≠ from')).foldl (fun a x => a + treeSm f near x root) 1
theorem treeF_both:∀ (f:Nat) (near:List (List Int)) (root from':Int),LevP (treeF f near root from')∧(treeF f near root from').length = treeSm f near root from'
 | 0,_,_,_ => ⟨by rw [treeF];exact (LevP_iff _).2 ⟨[],rfl,trivial⟩,rfl⟩
 | f + 1,near,root,from' => by
  have hl:LevP (rootOn (((near.getD root.toNat []).filter fun x => decide (x ≠ from')).map fun x => treeF f near x root)):=by
   refine rootOn_lev fun b hb => ?_
   obtain ⟨x,_,rfl⟩:=List.mem_map.1 hb
   exact (treeF_both f near x root).1
  refine ⟨canon_lev hl,?_⟩
  rw [treeF,canon_len hl,← nodeCount_eq]
  unfold nodeCount treeSm
  rw [List.foldl_map]
  congr 1
  funext a x
  rw [(treeF_both f near x root).2]
end Go.Proofs.Ytgngidchldajhaa
namespace Go.Proofs.Ytgngidchldajhaa
open Go.RowKit
def turnF:Nat→List Int→Nat→List Int
 | 0,t,_ => canon t
 | f + 1,t,n => if n = 0 then canon t else canon (cutB t n ++ (turnF f (cutT t n) (parAt t n).toNat).map (· + 1))
def trees8:List (List Int):=lists8.filter fun t => decide (canon t = t)
theorem mem_trees8 {t:List Int} (h:lev8 t = true) (hc:canon t = t):t ∈ trees8:=List.mem_filter.2 ⟨mem_lists8 h,by simp [hc]⟩
theorem trees8_all {p:List Int→Bool} (h:trees8.all p = true) {t:List Int} (ht:lev8 t = true):p (canon t) = true :=
 List.all_eq_true.1 h _ (mem_trees8 (lev8_canon ht) (canon_idem (lev8_lev ht)))
def roots (t:List Int):List (List Int):=(List.range t.length).map fun n => turnF 8 t n
end Go.Proofs.Ytgngidchldajhaa
namespace Go.Proofs.Ytgngidchldajhaa
open Go.RowKit
def minT:List (List Int)→List Int
 | [] => []
 | t :: ts => ts.foldl (fun m x => if cmpT x m < 0 then x else m) t
def putC:List (List Int × Int)→List Int→Int→List (List Int × Int)
 | [],t,n => [(t,n)]
 | (x,c) :: s,t,n => if cmpT x t < 0 then (x,c) :: putC s t n else if x = t then (x,c + n) :: s else (t,n) :: (x,c) :: s
def RiseC (s:List (List Int × Int)):Prop:=s.Pairwise fun a b => cmpT a.1 b.1 < 0
theorem putC_mem:∀ (s:List (List Int × Int)) (t:List Int) (n:Int) (z:List Int × Int),z ∈ putC s t n→z.1 = t ∨ z ∈ s
 | [],t,n,z,h => by simp [putC] at h;simp [h]
 | (x,c) :: s,t,n,z,h => by
  unfold putC at h
  split at h
  ·rcases List.mem_cons.1 h with rfl|h
   ·exact .inr (by simp)
   ·rcases putC_mem s t n z h with h|h
    ·exact .inl h
    ·exact .inr (by simp [h])
  ·split at h
   ·rename_i e;subst e
    rcases List.mem_cons.1 h with rfl|h
    ·exact .inl rfl
    ·exact .inr (by simp [h])
   ·rcases List.mem_cons.1 h with rfl|h
    ·exact .inl rfl
    ·exact .inr h
theorem cmpT_eq_of {x t:List Int} (h1:¬ cmpT x t < 0) (h2:¬ x = t):cmpT t x < 0:=by
 have hz:=cmpT_cmp.zero x t
 have ha:=cmpT_cmp.anti t x
 by_cases h:cmpT x t = 0
 ·exact absurd (hz h) h2
 ·exact ha.2 (by omega)
theorem cmpT_lt_trans {a b d:List Int} (h1:cmpT a b < 0) (h2:cmpT b d < 0):cmpT a d < 0:=by
 have h3:=cmpT_cmp.trans a b d (by omega) (by omega)
 by_cases h:cmpT a d = 0
 ·have e:=cmpT_cmp.zero a d h
  subst e
  have:=(cmpT_cmp.anti a b).1 h1
  omega
 ·omega
theorem putC_rise:∀ (s:List (List Int × Int)) (t:List Int) (n:Int),RiseC s→RiseC (putC s t n)
 | [],t,n,_ => by simp [putC,RiseC]
 | (x,c) :: s,t,n,h => by
  have h':=List.pairwise_cons.1 h
  unfold putC
  split
  ·rename_i hlt
   refine List.pairwise_cons.2 ⟨fun z hz => ?_,putC_rise s t n h'.2⟩
   rcases putC_mem s t n z hz with e|e
   ·rw [e];exact hlt
   ·exact h'.1 z e
  ·split
   ·exact List.pairwise_cons.2 ⟨h'.1,h'.2⟩
   ·rename_i h1 h2
    refine List.pairwise_cons.2 ⟨fun z hz => ?_,h⟩
    have hx:=cmpT_eq_of h1 h2
    rcases List.mem_cons.1 hz with rfl|hz
    ·exact hx
    ·exact cmpT_lt_trans hx (h'.1 z hz)
theorem putC_len:∀ (s:List (List Int × Int)) (t:List Int) (n:Int),(putC s t n).length ≤ s.length + 1
 | [],t,n => by simp [putC]
 | (x,c) :: s,t,n => by
  have:=putC_len s t n
  unfold putC
  split
  ·simp;omega
  ·split <;> simp
def sumOf (ts:List (List Int)):List (List Int × Int):=ts.foldl (fun s t => putC s t 1) []
theorem sumOf_snoc (ts:List (List Int)) (t:List Int):sumOf (ts ++ [t]) = putC (sumOf ts) t 1:=by simp [sumOf,List.foldl_append]
theorem foldl_putC_len:∀ (ts:List (List Int)) (s:List (List Int × Int)),(ts.foldl (fun s t => putC s t 1) s).length ≤ s.length + ts.length
 | [],s => by simp
 | t :: ts,s => by
  have h1:=foldl_putC_len ts (putC s t 1)
  have h2:=putC_len s t 1
  simp only [List.foldl_cons,List.length_cons]
  omega
theorem sumOf_len (ts:List (List Int)):(sumOf ts).length ≤ ts.length:=by simpa [sumOf] using foldl_putC_len ts []
theorem foldl_putC_rise:∀ (ts:List (List Int)) (s:List (List Int × Int)),RiseC s→RiseC (ts.foldl (fun s t => putC s t 1) s)
 | [],_,h => h
 | t :: ts,s,h => foldl_putC_rise ts _ (putC_rise s t 1 h)
theorem sumOf_rise (ts:List (List Int)):RiseC (sumOf ts):=foldl_putC_rise ts [] List.Pairwise.nil
end Go.Proofs.Ytgngidchldajhaa
namespace Go.Proofs.Ytgngidchldajhaa
open Go.RowKit
def putEl (t:List Int) (n:Int) (z:List Int × Int):List Int × Int:=(z.1,if z.1 = t then z.2 + n else z.2)
def putTo (s:List (List Int × Int)) (t:List Int) (n:Int) (k:Nat):Nat→List (List Int × Int)
 | 0 => []
 | i + 1 => (if i = k∧(s.getD i ([],0)).1 ≠ t then putTo s t n k i ++ [(t,n)] else putTo s t n k i) ++ [putEl t n (s.getD i ([],0))]
theorem putTo_len (s:List (List Int × Int)) (t:List Int) (n:Int) (k:Nat):∀ i,(putTo s t n k i).length ≤ i + (if k < i then 1 else 0)
 | 0 => by simp [putTo]
 | i + 1 => by
  have:=putTo_len s t n k i
  unfold putTo
  split
  ·rename_i h
   rw [if_pos (by omega)]
   rw [if_neg (by omega)] at this
   simp;omega
  ·simp only [List.length_append,List.length_singleton]
   split at this <;> split <;> omega
theorem putC_app:∀ (p q:List (List Int × Int)) (t:List Int) (n:Int),(∀ z ∈ p,cmpT z.1 t < 0)→putC (p ++ q) t n = p ++ putC q t n
 | [],_,_,_,_ => rfl
 | (x,c) :: p,q,t,n,h => by
  rw [List.cons_append,List.cons_append,← putC_app p q t n (fun z hz => h z (by simp [hz])),putC,if_pos (h (x,c) (by simp))]
theorem putEl_ne {t:List Int} {n:Int} {z:List Int × Int} (h:z.1 ≠ t):putEl t n z = z:=by unfold putEl;rw [if_neg h]
theorem cmpT_ne {x t:List Int} (h:cmpT x t < 0):x ≠ t:=fun e => by rw [e,cmpT_cmp.refl] at h;omega
theorem putTo_low (p q:List (List Int × Int)) (t:List Int) (n:Int) (h:∀ z ∈ p,cmpT z.1 t < 0):∀ i,i ≤ p.length→putTo (p ++ q) t n p.length i = p.take i
 | 0,_ => by simp [putTo]
 | i + 1,hi => by
  have hg:(p ++ q).getD i ([],0) = p[i]'(by omega):=by
   simp only [List.getD]
   rw [List.getElem?_append_left (by omega),List.getElem?_eq_getElem (by omega)];rfl
  unfold putTo
  rw [if_neg (by omega),putTo_low p q t n h i (by omega),hg,putEl_ne (cmpT_ne (h _ (List.getElem_mem _))),List.take_succ_eq_append_getElem (by omega)]
theorem putTo_high (p r:List (List Int × Int)) (x:List Int) (c:Int) (t:List Int) (n:Int) (h:∀ z ∈ p,cmpT z.1 t < 0) (hr:∀ z ∈ r,z.1 ≠ t) :
  ∀ j,j ≤ r.length→putTo (p ++ (x,c) :: r) t n p.length (p.length + 1 + j) = p ++ (if x = t then [(x,c + n)] else [(t,n),(x,c)]) ++ r.take j
 | 0,_ => by
  show putTo (p ++ (x,c) :: r) t n p.length (p.length + 1) = _
  have hg:(p ++ (x,c) :: r).getD p.length ([],0) = (x,c):=by simp [List.getD]
  unfold putTo
  rw [hg,putTo_low p _ t n h p.length (Nat.le_refl _),List.take_length]
  by_cases e:x = t
  ·rw [if_neg (by simp [e]),if_pos e];simp [putEl,e]
  ·rw [if_pos ⟨rfl,e⟩,if_neg e];simp [putEl,e]
 | j + 1,hj => by
  have hg:(p ++ (x,c) :: r).getD (p.length + 1 + j) ([],0) = r[j]:=by
   have e:p.length + 1 + j - p.length = j + 1:=by omega
   simp only [List.getD]
   rw [List.getElem?_append_right (by omega),e,List.getElem?_cons_succ,List.getElem?_eq_getElem (by omega)];rfl
  show putTo (p ++ (x,c) :: r) t n p.length ((p.length + 1 + j) + 1) = _
  unfold putTo
  rw [if_neg (by omega),putTo_high p r x c t n h hr j (by omega),hg,putEl_ne (hr _ (List.getElem_mem _)),List.take_succ_eq_append_getElem (by omega),List.append_assoc]
theorem putTo_all (p q:List (List Int × Int)) (t:List Int) (n:Int) (hr:RiseC (p ++ q)) (h:∀ z ∈ p,cmpT z.1 t < 0) (hq:∀ z ∈ q.head?,¬ cmpT z.1 t < 0) :
  putTo (p ++ q) t n p.length (p ++ q).length ++ (if p.length = (p ++ q).length then [(t,n)] else []) = putC (p ++ q) t n:=by
 rw [putC_app p q t n h]
 rcases q with _|⟨⟨x,c⟩,r⟩
 ·rw [if_pos (by simp),putTo_low p [] t n h _ (by simp)]
  simp [putC]
 ·have hx:¬ cmpT x t < 0:=hq (x,c) (by simp)
  have hp:RiseC ((x,c) :: r):=(List.pairwise_append.1 hr).2.1
  have hrn:∀ z ∈ r,z.1 ≠ t:=by
   intro z hz e
   have h1:cmpT x z.1 < 0:=(List.pairwise_cons.1 hp).1 z hz
   rw [e] at h1
   exact hx h1
  have e:(p ++ (x,c) :: r).length = p.length + 1 + r.length:=by simp;omega
  rw [e,if_neg (by omega),putTo_high p r x c t n h hrn r.length (Nat.le_refl _),List.take_length]
  unfold putC
  rw [if_neg hx]
  split
  ·simp
  ·simp
end Go.Proofs.Ytgngidchldajhaa
namespace Go.Proofs.Ytgngidchldajhaa
def stepC {α:Type} (f:α→List Int) (out:List (α × Int)) (x:α):List (α × Int) :=
 match out.getLast? with
 | some z => if f z.1 = f x then out.dropLast ++ [(z.1,z.2 + 1)] else out ++ [(x,1)]
 | none => [(x,1)]
def runsF {α:Type} (f:α→List Int) (xs:List α):List (α × Int):=xs.foldl (stepC f) []
theorem runsF_snoc {α:Type} (f:α→List Int) (xs:List α) (x:α):runsF f (xs ++ [x]) = stepC f (runsF f xs) x:=by unfold runsF;rw [List.foldl_append];rfl
theorem stepC_nil {α:Type} (f:α→List Int) (x:α):stepC f [] x = [(x,1)]:=rfl
theorem stepC_eq {α:Type} (f:α→List Int) (out:List (α × Int)) (z:α × Int) (x:α) (h:f z.1 = f x):stepC f (out ++ [z]) x = out ++ [(z.1,z.2 + 1)]:=by
 unfold stepC;simp [h]
theorem stepC_ne {α:Type} (f:α→List Int) (out:List (α × Int)) (z:α × Int) (x:α) (h:¬ f z.1 = f x):stepC f (out ++ [z]) x = out ++ [z] ++ [(x,1)]:=by
 unfold stepC;simp [h]
theorem snoc_of {α:Type} {l:List α} (h:l ≠ []):∃ p z,l = p ++ [z]:=⟨l.dropLast,l.getLast h,(List.dropLast_concat_getLast h).symm⟩
theorem runsF_sub {α:Type} (f:α→List Int):∀ (n:Nat) (xs:List α),xs.length = n→((runsF f xs).map (·.1)).Sublist xs∧∀ z ∈ runsF f xs,1 ≤ z.2∧z.2 ≤ (n:Int)
 | 0,xs,h => by
  rw [List.eq_nil_of_length_eq_zero h]
  exact ⟨List.Sublist.slnil,fun z hz => by cases hz⟩
 | n + 1,xs,h => by
  obtain ⟨ys,x,rfl⟩:=snoc_of (l:=xs) (by intro e;rw [e] at h;simp at h)
  have hl:ys.length = n:=by simpa using h
  obtain ⟨h1,h2⟩:=runsF_sub f n ys hl
  rw [runsF_snoc]
  by_cases h0:runsF f ys = []
  ·rw [h0,stepC_nil]
   exact ⟨by simp,fun z hz => by simp at hz;subst hz;simp;omega⟩
  ·obtain ⟨out,z,e⟩:=snoc_of h0
   rw [e] at h1 h2 ⊢
   by_cases he:f z.1 = f x
   ·rw [stepC_eq f out z x he]
    refine ⟨?_,fun q hq => ?_⟩
    ·simp only [List.map_append,List.map_cons,List.map_nil] at h1 ⊢
     exact h1.trans (List.sublist_append_left _ _)
    ·rcases List.mem_append.1 hq with hq|hq
     ·have:=h2 q (by simp [hq]);omega
     ·have:=h2 z (by simp)
      simp at hq;subst hq
      simp only;omega
   ·rw [stepC_ne f out z x he]
    refine ⟨?_,fun q hq => ?_⟩
    ·rw [List.map_append]
     exact List.Sublist.append h1 (List.Sublist.refl _)
    ·rcases List.mem_append.1 hq with hq|hq
     ·have:=h2 q hq;omega
     ·simp at hq;subst hq;simp only;omega
theorem runsF_map {α:Type} (f:α→List Int):∀ (n:Nat) (xs:List α),xs.length = n→(runsF f xs).map (fun z => (f z.1,z.2)) = runsF id (xs.map f)
 | 0,xs,h => by rw [List.eq_nil_of_length_eq_zero h];rfl
 | n + 1,xs,h => by
  obtain ⟨ys,x,rfl⟩:=snoc_of (l:=xs) (by intro e;rw [e] at h;simp at h)
  have hl:ys.length = n:=by simpa using h
  have ih:=runsF_map f n ys hl
  rw [List.map_append,List.map_cons,List.map_nil,runsF_snoc,runsF_snoc,← ih]
  by_cases h0:runsF f ys = []
  ·rw [h0];rfl
  ·obtain ⟨out,z,e⟩:=snoc_of h0
   rw [e,List.map_append,List.map_cons,List.map_nil]
   by_cases he:f z.1 = f x
   ·rw [stepC_eq f out z x he,stepC_eq id _ (f z.1,z.2) (f x) he];simp
   ·rw [stepC_ne f out z x he,stepC_ne id _ (f z.1,z.2) (f x) he];simp
def cntOf (ts:List (List Int)):List (List Int × Int):=runsF id (sortC cmpT ts)
end Go.Proofs.Ytgngidchldajhaa
namespace Go.Proofs.Ytgngidchldajhaa
open Go.RowKit
def graftL (u:List Int) (n:Nat) (v:List Int):List Int:=u.take (endOf u n) ++ (v.map (· + (u.getD n 0 + 1)) ++ u.drop (endOf u n))
end Go.Proofs.Ytgngidchldajhaa
namespace Go.Proofs.Ytgngidchldajhaa
open Go.RowKit
end Go.Proofs.Ytgngidchldajhaa
namespace Go.Proofs.Ytgngidchldajhaa
open Go.RowKit
theorem parents_take_succ (t:List Int) (k:Nat) (h:k < t.length):(parents t).take (k + 1) = (parents t).take k ++ [parAt t k]:=by
 rw [List.take_succ_eq_append_getElem (by rw [parents_len];exact h),parents_get t k h]
set_option maxRecDepth 100000 in
set_option maxHeartbeats 1000000 in
theorem c_impl_parentsOf (v:Value) (t:List Int) (w:World) (h:Rd (RS RI) w [v] t) (h8:lev8 t = true) :
  Calls Try.prog 118 #[v] w (RetO (RS RI) w (parents t)):=by
 have hl8:=lev8_len h8
 have hbd:=(lev8_lev h8).bd
 obtain ⟨oa,c1,I1⟩:=h.ints
 obtain rfl:=I1.val
 have m1:=I1.le;have m2:=I1.capLe
 unfold maxLen at m2
 have HI:=Lib.hid I1
 have HB:=Lib.hid hbd
 clear I1 h hbd h8
 go_enter Try.func118,Try.ntmps118
 go_wp2_with fail
 go_loopw [3,10] (fun o i wr => ∃ (k:Nat) (z:List Int),k ≤ t.length∧i = .int .i64 k∧Hid (z = (parents t).take k)∧Hid (z.length = k)∧(∃ oa cap,o = .slice oa z.length cap)∧Hid (Own (RS RI) w.heap.size wr.heap.size wr [o] z)∧Below w.heap.size w wr) (fun _ i _ => t.length - (intOf i).toNat)
 case atStart => exact ⟨0,[],Nat.zero_le _,rfl,Lib.hid rfl,Lib.hid rfl,⟨_,_,rfl⟩,Lib.hid ((Own.empty (R:=RI) (w:=w) 3 w.heap.size (Nat.le_refl _)).top _ (by simp)),(Below.refl _ _).alloc (Nat.le_refl _) _⟩
 case round =>
  obtain ⟨k,z,hk,rfl,hz,hzl,⟨o1,cap1,rfl⟩,hown,hbel⟩:=hrel
  have hsz1:=hbel.size
  obtain ⟨wo,hwo⟩:∃ wo:World,wo = wr:=⟨_,rfl⟩
  subst hwo
  by_cases hlt:k < t.length
  ·obtain ⟨b,off,rfl,hb,hc⟩:=HI.out.get hlt
   have HC:Hid (∀ j (h:j < t.length),wo.cell? ⟨b,off + j,none⟩ = some (.int .i64 t[j])):=Lib.hid (fun j hj => (hbel.cell (p:=⟨b,off + j,none⟩) hb).trans (hc j hj))
   have gk:=HC.out k hlt
   obtain ⟨x,hx⟩:∃ x:Int,x = t[k]'hlt:=⟨_,rfl⟩
   have hxb:=HB.out k hlt
   rw [← hx] at gk hxb
   obtain ⟨x1,x2⟩:=hxb
   have hnx:=parents_take_succ t k hlt
   have hpa:parAt t k = parS t (x - 1) k:=by unfold parAt;rw [getD_get hlt,← hx]
   rw [hpa,← hz.out] at hnx
   have HN:=Lib.hid hnx
   have hwk:IntKind.i64.wrap ((k:Int) - 1) = (k:Int) - 1:=IntWalk.i64_in _ (by omega)
   have hwx:IntKind.i64.wrap (x - 1) = x - 1:=IntWalk.i64_in _ (by omega)
   have HW:Hid (wo.heap.size = wo.heap.size):=Lib.hid rfl
   clear hc hx hnx hpa
   go_wp2_with fail
   go_loopw [6] (fun i wr => ∃ (q:Nat),q ≤ k∧i = .int .i64 ((q:Int) - 1)∧Hid (∀ p,q ≤ p→p < k→t.getD p 0 ≠ x - 1)∧wr = wo) (fun i _ => (intOf i + 1).toNat)
   case atStart => exact ⟨k,Nat.le_refl _,rfl,Lib.hid (fun p a b => by omega),rfl⟩
   case round =>
    obtain ⟨q,hq,rfl,hall,rfl⟩:=hrel
    by_cases hgo:0 < q∧t.getD (q - 1) 0 ≠ x - 1
    ·obtain ⟨hq0,hne⟩:=hgo
     obtain ⟨p,rfl⟩:∃ p,q = p + 1:=⟨q - 1,by omega⟩
     have hpt:p < t.length:=by omega
     have gp:=HC.out p hpt
     rw [Nat.add_sub_cancel,getD_get hpt] at hne
     obtain ⟨y,hy⟩:∃ y:Int,y = t[p]'hpt:=⟨_,rfl⟩
     rw [← hy] at gp hne
     have HALL:Hid (∀ r,p ≤ r→r < k→t.getD r 0 ≠ x - 1):=Lib.hid (by
      intro r a b'
      by_cases hr:r = p
      ·subst hr;rw [getD_get hpt,← hy];exact hne
      ·exact hall.out r (by omega) b')
     have e1:(((p + 1:Nat):Int) - 1) = (p:Int):=by omega
     have e2:(y != x - 1) = true:=by simp [hne]
     have i1:(0:Int) ≤ (p:Int):=by omega
     have i2:(p:Int) < (t.length:Int):=by omega
     have hwp:IntKind.i64.wrap ((p:Int) - 1) = (p:Int) - 1:=IntWalk.i64_in _ (by omega)
     rw [e1]
     clear hy e1 hne
     go_wp2_with fail
     go_roundw
     case rel => exact ⟨p,by omega,by go_num,HALL,by first|rfl|trivial⟩
     case measure => simp [intOf] <;> omega
    ·have hfin:Hid (parS t (x - 1) k = (q:Int) - 1):=Lib.hid (by
      rw [parS_skip t (x - 1) q k hq hall.out]
      cases q with
      | zero => simp [parS]
      | succ p =>
       have:t.getD p 0 = x - 1:=by
        refine Decidable.byContradiction fun h => hgo ⟨by omega,by simpa using h⟩
       unfold parS
       rw [if_pos this];omega)
     have hcase:(q = 0 ∨ ∃ p,q = p + 1∧∃ hp:p < t.length,t[p] = x - 1):=by
      cases q with
      | zero => exact .inl rfl
      | succ p =>
       have hpt:p < t.length:=by omega
       refine .inr ⟨p,rfl,hpt,?_⟩
       have:t.getD p 0 = x - 1:=by
        refine Decidable.byContradiction fun h => hgo ⟨by omega,by simpa using h⟩
       rwa [getD_get hpt] at this
     have hzb:z.length ≤ 8:=by rw [hzl.out];omega
     obtain ⟨r,hr⟩:∃ r:Int,r = (q:Int) - 1:=⟨_,rfl⟩
     have hrb:-1 ≤ r∧r ≤ 8:=by omega
     obtain ⟨r1,r2⟩:=hrb
     have HR:Hid (parS t (x - 1) k = r):=Lib.hid (by rw [hfin.out,hr])
     have gcase:(r = -1 ∨ ∃ p:Nat,r = p∧p < t.length∧wr.cell? ⟨b,off + p,none⟩ = some (.int .i64 (x - 1))):=by
      rcases hcase with h|⟨p,h1,h2,h3⟩
      ·exact .inl (by omega)
      ·exact .inr ⟨p,by omega,h2,by rw [HC.out p h2,h3]⟩
     rw [← hr]
     clear hgo hfin hcase hr
     rcases gcase with rfl|⟨p,rfl,hpt,gp⟩
     case' inr =>
      have i1:(0:Int) ≤ (p:Int):=by omega
      have i2:(p:Int) < (t.length:Int):=by omega
      have e2:(x - 1 != x - 1) = false:=by simp
     all_goals
      go_wp2_with (at_builtin;refine StopAt (o:=⟨some 33,_,_,_,_,_⟩) ?_)
      refine Stop.go ?_
      refine wpList_snoc (w:=wr) (R:=RI) rfl _ _ 98 rfl 3 (.int .i64 0) 1 8 tInt rfl (.slice o1 z.length cap1) z _ [.int .i64 _] w.heap.size wr.heap.size wr.heap.size rfl hown.out (Own.int ⟨by omega,by omega⟩) (Nat.le_refl _) hsz1 3 rfl rfl (by omega) (by omega) ?_
      intro oa1 cap1' w1 hown1 c1a c1b hbel1
      have hb3:=hbel.trans hbel1
      rw [← HR.out] at hown1
      obtain ⟨z',hz'⟩:∃ z',z' = z ++ [parS t (x - 1) k]:=⟨_,rfl⟩
      have HZ:Hid (z' = (parents t).take (k + 1)):=Lib.hid (by rw [hz',HN.out])
      have e1:z.length + 1 = z'.length:=by rw [hz'];simp
      have HZL:Hid (z'.length = k + 1):=Lib.hid (by rw [← e1,hzl.out])
      rw [← hz',e1] at hown1
      have HO1:Hid (Own (RS RI) w.heap.size w1.heap.size w1 [.slice oa1 z'.length cap1'] z'):=hown1
      rw [e1]
      clear hown1 hbel1 hown e1 hz'
      go_wp2_with fail
      go_roundw
      case rel => exact ⟨k + 1,z',by omega,by go_num,HZ,HZL,⟨_,_,rfl⟩,HO1,hb3⟩
      case measure => simp [intOf];omega
  ·have hfin:Hid (z = parents t):=Lib.hid (by rw [hz.out,List.take_of_length_le (by rw [parents_len];omega)])
   go_wp2_with fail
   go_ret
   exact ⟨_,rfl,hfin.out ▸ hown.out,hbel⟩
set_option maxRecDepth 100000 in
set_option maxHeartbeats 2000000 in
theorem c_impl_nearOf (v:Value) (t:List Int) (w:World) (h:Rd (RS RI) w [v] t) (h8:lev8 t = true) :
  Calls Try.prog 109 #[v] w (RetO (RS (RS RI)) w (nears t)):=by
 have hl8:=lev8_len h8
 have hpo:=fun (W:World) (hb:Below w.heap.size w W) => c_impl_parentsOf v t W (h.below hb (Nat.le_refl _)) h8
 obtain ⟨oa,c1,rfl,m1,m2⟩:=h.val
 unfold maxLen at m2
 have HP:=Lib.hid hpo
 have hpos:=(lev8_lev h8).pos
 clear h hpo h8
 go_enter Try.func109,Try.ntmps109
 go_wp2_with (at_make;refine wpList_makeRow rfl _ _ 118 rfl 98 (.slice none 0 0) 1 24 tIntS _ _ _ _ t.length rfl rfl rfl rfl (by omega) (by unfold maxLen;omega) ?_;rintro v1 w1 hrow0 hgr0 rfl)
 rw [madeCells_nils] at hrow0
 have hb0:Below w.heap.size w w1:=Below.of_grown hgr0 (Nat.le_refl _) (fun g hg => by cases hg)
 have HO:Hid (OwnF (RS (RS RI)) [w.heap.size] w1 [.slice (some ⟨w.heap.size,0,none⟩) t.length t.length] (List.replicate t.length [])):=Lib.hid ⟨⟨_,some w.heap.size,List.replicate t.length (.slice none 0 0),[],rfl,by rw [List.length_replicate];exact hrow0,ownL_nils t.length,rfl⟩,by simp⟩
 have hg1:=hrow0.lt w.heap.size rfl
 clear hrow0 hgr0
 go_wp2_with fail
 refine (HP.out w1 hb0).mono ?_
 rintro e w2 ⟨u,rfl,o2,b2⟩
 have hpl:=parents_len t
 obtain ⟨og,ds,Gp,hrowp,help,_,hlp⟩:=o2.open
 obtain ⟨rfl,rfl,hpb⟩:=ownL_ints help
 obtain ⟨gp,rfl⟩:=hrowp.some_of (j:=0) (by rw [hpl];exact hpos)
 obtain ⟨cp,rfl,n1,n2⟩:=hrowp.slice
 have hgp:=hlp gp (by simp)
 unfold maxLen at n2
 have hb2:=hb0.trans (b2.mono hb0.size)
 have HO2:Hid (OwnF (RS (RS RI)) [w.heap.size] w2 [.slice (some ⟨w.heap.size,0,none⟩) t.length t.length] (List.replicate t.length [])):=Lib.hid (HO.out.frame (fun b hb => b2.block b (by simp at hb;omega)))
 obtain ⟨pl,hpl'⟩:∃ pl,pl = (parents t).length:=⟨_,rfl⟩
 rw [← hpl'] at n1 hrowp
 rw [← hpl']
 have HROW:=Lib.hid hrowp
 have hpt:pl = t.length:=by rw [hpl',hpl]
 have HPT:=Lib.hid hpt
 have s1:=hb0.size
 have s2:=b2.size
 obtain ⟨q1,q2⟩:=hgp
 have HPB:=Lib.hid hpb
 have HPOS:=Lib.hid hpos
 clear HO o2 hpl hpl' hrowp help hlp hpt hpb
 go_wp2_with fail
 go_loopw [12] (fun i wr => ∃ (k:Nat) (F:List Nat),k ≤ pl∧i = .int .i64 k∧Hid (OwnF (RS (RS RI)) F wr [.slice (some ⟨w.heap.size,0,none⟩) t.length t.length] (nearTo t k))∧Hid (∀ b,b ∈ F→b = w.heap.size ∨ w2.heap.size ≤ b)∧Hid (ChgF [w.heap.size] w2 wr)) (fun i _ => pl - (intOf i).toNat)
 case atStart => exact ⟨0,_,Nat.zero_le _,rfl,HO2,Lib.hid (fun b hb => .inl (by simpa using hb)),Lib.hid (ChgF.refl _ _)⟩
 case round =>
  obtain ⟨k,F,hk,rfl,hown,hF,hch⟩:=hrel
  clear HO2
  have hszr:=hch.out.size
  by_cases hlt:k < pl
  ·have hlt2:k < t.length:=by rw [← HPT.out];exact hlt
   have hrw:Row wr (.slice (some ⟨gp,0,none⟩) pl cp) 1 pl ((parents t).map (Value.int .i64)) (some gp):=HROW.out.frame (fun g hg => by cases hg;exact hch.out.block gp q2 (by simp;omega))
   have gpc:wr.cell? ⟨gp,k,none⟩ = some (.int .i64 (parAt t k)):=hrw.cells k _ (by rw [List.getElem?_map,List.getElem?_eq_getElem (by rw [parents_len];exact hlt2),parents_get t k hlt2];rfl)
   have hpr:=parS_lt t (t.getD k 0 - 1) k
   have hst:nearTo t (k + 1) = nearStep (nearTo t k) k (parAt t k):=rfl
   obtain ⟨p,hp⟩:∃ p,p = parAt t k:=⟨_,rfl⟩
   have hpr2:-1 ≤ p∧p < k:=by rw [hp];exact hpr
   obtain ⟨p1,p2⟩:=hpr2
   rw [← hp] at gpc hst
   have hnl:=nearTo_len t k
   have hne:=nearTo_each t k
   obtain ⟨near,hnear⟩:∃ near,near = nearTo t k:=⟨_,rfl⟩
   have HST:=Lib.hid hst
   have i1:(0:Int) ≤ (k:Int):=by omega
   have i2:(k:Int) < (pl:Int):=by omega
   have i3:(k:Int) < (t.length:Int):=by omega
   rw [← hnear] at hnl hne
   have HN:=Lib.hid hnear
   have hown2:=hown.out
   rw [← hnear] at hown2
   clear hpr hp hst hnear hrw
   by_cases h0:0 ≤ p
   ·obtain ⟨q,rfl⟩:∃ q:Nat,p = q:=⟨p.toNat,by omega⟩
    obtain ⟨g,cap,hh,og1,hv,_,_,hgl,hcell,hrow1,hK⟩:=hown2.innerApp k (by omega)
    simp only [Value.slice.injEq,Option.some.injEq,Addr.mk.injEq,and_true] at hv
    obtain ⟨rfl,hv2⟩:=hv
    clear hv2
    obtain ⟨oh,ch,rfl,k1,k2⟩:=hrow1.val
    unfold maxLen at k2
    have hxl:near[k].length ≤ 16:=by have:=hne _ (List.getElem_mem (by omega:k < near.length));omega
    have HK:=Lib.hid hK
    have hq2:q < near.length:=by omega
    have j1:(0:Int) ≤ (q:Int):=by omega
    have j2:(q:Int) < (t.length:Int):=by omega
    obtain ⟨xk,hxk⟩:∃ xk,xk = near[k]'(by omega):=⟨_,rfl⟩
    have hxk2:near.set k (near.getD k [] ++ [(q:Int)]) = near.set k (xk ++ [(q:Int)]):=by rw [hxk];simp [List.getD_eq_getElem?_getD,show k < near.length by omega]
    rw [← hxk] at hrow1 hcell hxl HK k1
    have HR1:=Lib.hid hrow1
    have HXK:=Lib.hid hxk2
    have HNL:=Lib.hid hnl
    have HNE:=Lib.hid hne
    clear hK hrow1 hxk hxk2 hown2 hne hnl
    go_wp2_with (at_builtin;refine StopAt (o:=⟨some 27,_,_,_,_,_⟩) ?_)
    refine Stop.go ?_
    refine wpList_append1 (w:=wr) rfl _ _ 98 rfl 3 (.int .i64 0) 1 8 tInt (.slice oh xk.length ch) xk.length _ og1 rfl HR1.out 3 [.int .i64 (q:Int)] rfl rfl rfl (by simp [Value.oneCell']) (by omega) (by unfold maxLen;omega) ?_
    intro h1 wa oga happ
    obtain ⟨f1,f2,F1,hF1,hs1,hc1⟩:=HK.out (q:Int) h1 wa oga (by unfold In64;omega) happ
    obtain ⟨o1,ca1,rfl,_⟩:=happ.1.val
    have e1:(near.set k (xk ++ [(q:Int)])).length = t.length:=by rw [List.length_set];exact HNL.out
    obtain ⟨near1,hn1⟩:∃ near1,near1 = near.set k (xk ++ [(q:Int)]):=⟨_,rfl⟩
    rw [← hn1] at hF1 e1
    obtain ⟨W3,hW3⟩:∃ W3,W3 = wa.setCell ⟨w.heap.size,k,none⟩ (.slice o1 (xk.length + 1) ca1):=⟨_,rfl⟩
    have hx1:∀ x ∈ near1,x.length ≤ 17:=by
     intro x hx
     rw [hn1] at hx
     rcases List.mem_or_eq_of_mem_set hx with hx|rfl
     ·have:=HNE.out x hx;omega
     ·rw [List.length_append,List.length_singleton];omega
    rw [← hW3] at hF1 hc1
    obtain ⟨g,cap,hh,og2,hv,_,_,hgl2,hcell2,hrow2,hK2⟩:=hF1.innerApp q (by omega)
    simp only [Value.slice.injEq,Option.some.injEq,Addr.mk.injEq,and_true] at hv
    obtain ⟨rfl,hv2⟩:=hv
    clear hv2
    obtain ⟨oy,cy,rfl,y1,y2⟩:=hrow2.val
    unfold maxLen at y2
    have hyl:near1[q].length ≤ 17:=by have:=hx1 _ (List.getElem_mem (by omega:q < near1.length));omega
    obtain ⟨xq,hxq⟩:∃ xq,xq = near1[q]'(by omega):=⟨_,rfl⟩
    have hxq2:near1.set q (near1.getD q [] ++ [(k:Int)]) = near1.set q (xq ++ [(k:Int)]):=by rw [hxq];simp [List.getD_eq_getElem?_getD,show q < near1.length by omega]
    rw [← hxq] at hrow2 hcell2 hyl hK2 y1
    have HK2:=Lib.hid hK2
    have HR2:=Lib.hid hrow2
    have HXQ:=Lib.hid hxq2
    have HN1:=Lib.hid hn1
    have HS1:=Lib.hid hs1
    have HC1:=Lib.hid hc1
    have hqk:¬ q = k:=by omega
    have hcell3:wa.cell? ⟨w.heap.size,q,none⟩ = some (.slice oy xq.length cy):=by
     rw [hW3] at hcell2
     have hne':(⟨w.heap.size,k,none⟩:Addr) ≠ ⟨w.heap.size,q,none⟩:=by intro h;injection h;omega
     exact (World.cell?_setCell_other wa _ _ _ hne').symm.trans hcell2
    have HW3:=Lib.hid hW3
    clear happ hF1 hs1 hc1 hK2 hrow2 hxq hxq2 hn1 e1 hx1 hW3
    go_wp2_with (at_builtin;refine StopAt (o:=⟨some 37,_,_,_,_,_⟩) ?_)
    refine Stop.go ?_
    obtain rfl:=HW3.out
    refine wpList_append1 (w:=wa.setCell ⟨w.heap.size,k,none⟩ (.slice o1 (xk.length + 1) ca1)) rfl _ _ 98 rfl 3 (.int .i64 0) 1 8 tInt (.slice oy xq.length cy) xq.length _ og2 rfl HR2.out 3 [.int .i64 (k:Int)] (H:=wa.heap.size) rfl (World.size_setCell ..).symm rfl (by simp [Value.oneCell']) (by omega) (by unfold maxLen;omega) ?_
    intro h2 wb ogb happ2
    obtain ⟨f3,f4,F2,hF2,hs2,hc2⟩:=HK2.out (k:Int) h2 wb ogb (by unfold In64;omega) happ2
    obtain ⟨o2,ca2,rfl,_⟩:=happ2.1.val
    have HFB:Hid (∀ b,b ∈ F2→b = w.heap.size ∨ w2.heap.size ≤ b):=Lib.hid (fun b hb => by
     rcases hs2 b hb with hb|hb
     ·rcases HS1.out b hb with hb|hb
      ·exact hF.out b hb
      ·right;omega
     ·have:=HC1.out.size;right;omega)
    have HCH:Hid (ChgF [w.heap.size] w2 (wb.setCell ⟨w.heap.size,q,none⟩ (.slice o2 (xq.length + 1) ca2))):=Lib.hid ((hch.out.trans' HC1.out (fun x hx => by
      rcases hF.out x hx with h|h
      ·exact .inl (by simp [h])
      ·exact .inr h)).trans' hc2 (fun x hx => by
      rcases HS1.out x hx with h|h
      ·rcases hF.out x h with h|h
       ·exact .inl (by simp [h])
       ·exact .inr h
      ·exact .inr (by omega)))
    have HFIN:Hid (OwnF (RS (RS RI)) F2 (wb.setCell ⟨w.heap.size,q,none⟩ (.slice o2 (xq.length + 1) ca2)) [.slice (some ⟨w.heap.size,0,none⟩) t.length t.length] (nearTo t (k + 1))):=Lib.hid (by
     rw [HST.out]
     unfold nearStep
     rw [if_pos j1,← HN.out,HXK.out,← HN1.out,Int.toNat_natCast,HXQ.out]
     exact hF2)
    clear happ2 hF2 hs2 hc2
    go_wp2_with fail
    go_roundw
    case rel => exact ⟨k + 1,F2,by omega,by go_num,HFIN,HFB,HCH⟩
    case measure => simp [intOf] <;> omega
   ·obtain rfl:p = -1:=by omega
    have HFIN:Hid (OwnF (RS (RS RI)) F wr [.slice (some ⟨w.heap.size,0,none⟩) t.length t.length] (nearTo t (k + 1))):=Lib.hid (by
     rw [HST.out]
     unfold nearStep
     rw [if_neg (by omega)]
     exact hown.out)
    clear h0 hown2 hnl hne
    go_wp2_with fail
    go_roundw
    case rel => exact ⟨k + 1,F,by omega,by go_num,HFIN,hF,hch⟩
    case measure => simp [intOf] <;> omega
  ·have HFIN:Hid (Own (RS (RS RI)) w.heap.size wr.heap.size wr [.slice (some ⟨w.heap.size,0,none⟩) t.length t.length] (nears t)):=Lib.hid (by
    have h1:=hown.out
    rw [show k = t.length by have:=HPT.out;omega] at h1
    refine OwnF.to h1 (fun b hb => ⟨?_,h1.lt b hb⟩)
    rcases hF.out b hb with h|h <;> omega)
   have hbf:Below w.heap.size w wr:=hb2.trans (hch.out.below (by omega) (fun b hb => by simp at hb;omega))
   go_wp2_with fail
   go_ret
   exact ⟨_,rfl,HFIN.out,hbf⟩
end Go.Proofs.Ytgngidchldajhaa
namespace Go.Proofs.Ytgngidchldajhaa
open Go.RowKit
theorem sumLen_sublist {l m:List (List Int)} (h:l.Sublist m):sumLen l ≤ sumLen m:=by
 induction h with
 | slnil => exact Nat.le_refl _
 | cons a _ ih => simp only [sumLen,List.map_cons,List.sum_cons] at *;omega
 | cons_cons a _ ih => simp only [sumLen,List.map_cons,List.sum_cons] at *;omega
theorem len_le_sumLen:∀ bs:List (List Int),(∀ b ∈ bs,LevP b)→bs.length ≤ sumLen bs:=by
 intro bs
 induction bs with
 | nil => intro _;simp [sumLen]
 | cons b bs ih =>
  intro hb
  have:=ih (fun c hc => hb c (by simp [hc]))
  have:=(hb b (by simp)).pos
  simp only [sumLen,List.map_cons,List.sum_cons,List.length_cons] at *
  omega
def seen (f:Nat) (near:List (List Int)) (root from':Int) (xs:List Int):List (List Int):=(xs.filter fun x => decide (x ≠ from')).map fun x => treeF f near x root
theorem seen_lev (f:Nat) (near:List (List Int)) (root from':Int) (xs:List Int):∀ b ∈ seen f near root from' xs,LevP b:=by
 intro b hb
 obtain ⟨x,_,rfl⟩:=List.mem_map.1 hb
 exact (treeF_both f near x root).1
theorem seen_take (f:Nat) (near:List (List Int)) (root from':Int) (xs:List Int) (k:Nat):(seen f near root from' (xs.take k)).Sublist (seen f near root from' xs) :=
 (((List.take_sublist k xs).filter _).map _)
theorem seen_succ (f:Nat) (near:List (List Int)) (root from':Int) (xs:List Int) (k:Nat) (h:k < xs.length) :
  seen f near root from' (xs.take (k + 1)) = seen f near root from' (xs.take k) ++ (if xs[k] = from' then [] else [treeF f near xs[k] root]):=by
 unfold seen
 rw [List.take_succ_eq_append_getElem h,List.filter_append,List.map_append]
 congr 1
 by_cases e:xs[k] = from'
 ·simp [e]
 ·simp [e]
theorem treeF_succ (f:Nat) (near:List (List Int)) (root from':Int):treeF (f + 1) near root from' = canon (rootOn (seen f near root from' (near.getD root.toNat []))):=rfl
theorem treeSm_succ (f:Nat) (near:List (List Int)) (root from':Int):treeSm (f + 1) near root from' = sumLen (seen f near root from' (near.getD root.toNat [])) + 1:=by
 rw [← (treeF_both (f + 1) near root from').2,treeF_succ,canon_len (rootOn_lev (seen_lev _ _ _ _ _)),rootOn_len]
theorem treeSm_sub {f:Nat} {near:List (List Int)} {root from':Int} {x:Int} (hx:x ∈ near.getD root.toNat []) (hne:x ≠ from'):treeSm f near x root + 1 ≤ treeSm (f + 1) near root from':=by
 rw [treeSm_succ,← (treeF_both f near x root).2]
 have:treeF f near x root ∈ seen f near root from' (near.getD root.toNat []):=List.mem_map.2 ⟨x,List.mem_filter.2 ⟨hx,by simp [hne]⟩,rfl⟩
 have:=sumLen_mem this
 omega
set_option maxRecDepth 100000 in
set_option maxHeartbeats 2000000 in
theorem c_impl_treeFrom:∀ (f:Nat) (v:Value) (near:List (List Int)) (root from':Int) (w:World),Rd (RS (RS RI)) w [v] near→treeOk f near root from' = true→treeSm f near root from' ≤ 13 →
  Calls Try.prog 110 #[v,.int .i64 root,.int .i64 from'] w (RetO (RS RI) w (treeF f near root from')):=by
 intro f
 induction f with
 | zero => intro v near root from' w _ h;cases h
 | succ f ih =>
 intro v near root from' w h hok hsm
 simp only [treeOk,Bool.and_eq_true,decide_eq_true_eq] at hok
 obtain ⟨hr0,hr1,hall⟩:=hok
 obtain ⟨r,rfl⟩:∃ r:Nat,root = r:=⟨root.toNat,by omega⟩
 have hrl:r < near.length:=by omega
 have hnr:near.getD (r:Int).toNat [] = near[r]:=by rw [Int.toNat_natCast];simp [hrl]
 have hsub:=fun x (hx:x ∈ near[r]) (hne:x ≠ from') => treeSm_sub (f:=f) (near:=near) (root:=(r:Int)) (from':=from') (x:=x) (by rw [hnr];exact hx) hne
 rw [treeF_succ]
 rw [treeSm_succ] at hsm
 rw [hnr] at hsm hall
 rw [hnr]
 have hrdn:=h
 obtain ⟨oa,cap,L⟩:=h.lists
 obtain rfl:=L.val
 have m1:=L.le;have m2:=L.capLe
 obtain ⟨b,off,rfl,hb,hc⟩:=L.get hrl
 obtain ⟨oi,ci,g1,hrd,q1,q2⟩:=hc r hrl
 obtain ⟨xs,hxs⟩:∃ xs,xs = near[r]:=⟨_,rfl⟩
 rw [← hxs] at g1 hrd q1 hsm hall hsub
 rw [← hxs]
 obtain ⟨oa2,c2,I⟩:=hrd.ints
 have hval:=I.val
 simp only [Value.slice.injEq,true_and] at hval
 obtain ⟨rfl,rfl⟩:=hval
 have HI:=Lib.hid I
 have HSM:=Lib.hid hsm
 have HIH:Hid (∀ x ∈ xs,x ≠ from'→∀ W,Below w.heap.size w W→Calls Try.prog 110 #[.slice (some ⟨b,off,none⟩) near.length cap,.int .i64 x,.int .i64 (r:Int)] W (RetO (RS RI) W (treeF f near x r))):=Lib.hid (by
  intro x hx hne W hbW
  refine ih _ near x r W (hrdn.below hbW (Nat.le_refl _)) ?_ (by have:=hsub x hx hne;rw [treeSm_succ,hnr,← hxs] at this;omega)
  have:=List.all_eq_true.1 hall x hx
  simp only [Bool.or_eq_true,decide_eq_true_eq] at this
  exact this.resolve_left hne)
 have i1:(0:Int) ≤ (r:Int):=by omega
 have i2:(r:Int) < (near.length:Int):=by omega
 obtain ⟨nl,hnl⟩:∃ nl,nl = near.length:=⟨_,rfl⟩
 rw [← hnl] at m1 HIH i2
 rw [← hnl]
 have hrnl:r < nl:=by omega
 clear L hc hrd hxs I hsm hall hsub ih hrdn hnr hr0 hr1 hnl hrl
 go_enter Try.func110,Try.ntmps110
 go_wp2_with fail
 go_loopw [7,16] (fun o i wr => ∃ (k:Nat) (z:List (List Int)),k ≤ xs.length∧i = .int .i64 k∧Hid (z = seen f near r from' (xs.take k))∧Hid (z.length ≤ 12)∧(∃ oa cap,o = .slice oa z.length cap)∧Hid (Own (RS (RS RI)) w.heap.size wr.heap.size wr [o] z)∧Below w.heap.size w wr) (fun _ i _ => xs.length - (intOf i).toNat)
 case atStart => exact ⟨0,[],Nat.zero_le _,rfl,Lib.hid rfl,Lib.hid (by simp),⟨_,_,rfl⟩,Lib.hid ((Own.empty (R:=RS RI) (w:=w) 27 w.heap.size (Nat.le_refl _)).top _ (by simp)),(Below.refl _ _).alloc (Nat.le_refl _) _⟩
 case round =>
  obtain ⟨k,z,hk,rfl,hz,hzl,⟨o1,cap1,rfl⟩,hown,hbel⟩:=hrel
  have hsz1:=hbel.size
  by_cases hlt:k < xs.length
  ·obtain ⟨b2,off2,rfl,hb2,hc2⟩:=HI.out.get hlt
   have g2:wr.cell? ⟨b2,off2 + k,none⟩ = some (.int .i64 xs[k]):=(hbel.cell (p:=⟨b2,off2 + k,none⟩) hb2).trans (hc2 k hlt)
   have hbx:=HI.out.b hlt
   unfold In64 at hbx
   have hsc:=seen_succ f near r from' xs k hlt
   rw [← hz.out] at hsc
   have hzl2:(seen f near r from' (xs.take (k + 1))).length ≤ 12:=by
    have h1:=len_le_sumLen _ (seen_lev f near r from' (xs.take (k + 1)))
    have h2:=sumLen_sublist (seen_take f near r from' xs (k + 1))
    have:=HSM.out
    omega
   have hih:=HIH.out xs[k] (List.getElem_mem hlt)
   obtain ⟨x,hx⟩:∃ x:Int,x = xs[k]'hlt:=⟨_,rfl⟩
   rw [← hx] at g2 hsc hih hbx
   obtain ⟨x1,x2⟩:=hbx
   clear hc2 hx
   by_cases hne:x = from'
   ·have hnb:(x != from') = false:=by simp [hne]
    have HZ:Hid (z = seen f near r from' (xs.take (k + 1))):=Lib.hid (by rw [hsc,if_pos hne,List.append_nil])
    clear hsc hih hzl2 hne
    go_wp2_with fail
    go_roundw
    case rel => exact ⟨k + 1,z,by omega,by go_num,HZ,hzl,⟨_,_,rfl⟩,hown,hbel⟩
    case measure => simp [intOf] <;> omega
   ·have hnb:(x != from') = true:=by simp [hne]
    have hcl:=hih hne wr hbel
    rw [if_neg hne] at hsc
    obtain ⟨y,hy⟩:∃ y,y = treeF f near x r:=⟨_,rfl⟩
    rw [← hy] at hsc hcl
    have HN:=Lib.hid hsc
    have HZL2:=Lib.hid hzl2
    have hzb:z.length ≤ 12:=hzl.out
    clear hsc hih hzl2 hne hy
    go_wp2_with fail
    refine hcl.mono ?_
    rintro e w2 ⟨u,rfl,o2,b2'⟩
    obtain ⟨ou,cu,rfl,lu1,lu2⟩:=o2.val
    go_wp2_with (at_builtin;refine StopAt (o:=⟨some 29,_,_,_,_,_⟩) ?_)
    refine Stop.go ?_
    have hb2'':=b2'.size
    refine wpList_snoc (w:=w2) (R:=RS RI) rfl _ _ 34 rfl 27 (.slice none 0 0) 1 24 tI64S rfl (.slice o1 z.length cap1) z y [.slice ou y.length cu] w.heap.size wr.heap.size w2.heap.size rfl (hown.out.below b2' (Nat.le_refl _)) o2 hb2'' hsz1 27 rfl rfl (by omega) (by omega) ?_
    intro oa1 cap1' w1 hown1 c1a c1b hbel1
    have hb3:=(hbel.trans (b2'.mono hsz1)).trans hbel1
    obtain ⟨z',hz'⟩:∃ z',z' = z ++ [y]:=⟨_,rfl⟩
    have HZ:Hid (z' = seen f near r from' (xs.take (k + 1))):=Lib.hid (by rw [hz',HN.out])
    have e1:z.length + 1 = z'.length:=by rw [hz'];simp
    have HZL:Hid (z'.length ≤ 12):=Lib.hid (by rw [HZ.out];exact HZL2.out)
    rw [← hz',e1] at hown1
    have HO:Hid (Own (RS (RS RI)) w.heap.size w1.heap.size w1 [.slice oa1 z'.length cap1'] z'):=hown1
    rw [e1]
    clear hown1 hbel1 hown e1 hz' o2 hcl
    go_wp2_with fail
    go_roundw
    case rel => exact ⟨k + 1,z',by omega,by go_num,HZ,HZL,⟨_,_,rfl⟩,HO,hb3⟩
    case measure => simp [intOf] <;> omega
  ·have hfin:Hid (z = seen f near r from' xs):=Lib.hid (by rw [hz.out,List.take_of_length_le (by omega)])
   have hlv:∀ b ∈ z,LevP b:=by rw [hfin.out];exact seen_lev _ _ _ _ _
   have hsl:sumLen z + 1 ≤ 13:=by rw [hfin.out];exact HSM.out
   have hro:=c_impl_rootOn _ z wr hown.out.rd (Small.of_lev hlv (by omega)) (by omega)
   have HCN:Hid (∀ W v,Rd (RS RI) W [v] (rootOn z)→Calls Try.prog 49 #[v] W (RetO (RS RI) W (canon (rootOn z)))):=Lib.hid (fun W v r => c_impl_canonical 13 v _ W r (rootOn_lev hlv) (by rw [rootOn_len];omega) (by rw [rootOn_len];omega))
   clear hlv hsl
   go_wp2_with fail
   refine hro.mono ?_
   rintro e w2 ⟨u,rfl,o2,b2'⟩
   go_wp2_with fail
   refine (HCN.out _ _ o2.rd).mono ?_
   rintro e w3 ⟨u3,rfl,o3,b3⟩
   go_wp2_with fail
   go_ret
   have s2:=b2'.size
   exact ⟨_,rfl,by rw [← hfin.out];exact o3.mono (by omega) (Nat.le_refl _),hbel.trans ((b2'.trans (b3.mono s2)).mono hsz1)⟩
end Go.Proofs.Ytgngidchldajhaa
namespace Go.Proofs.Ytgngidchldajhaa
open Go.RowKit
def runTo (bs:List (List Int)):Nat→Int
 | 0 => 0
 | k + 1 => if k = 0 ∨ bs.getD (k - 1) [] = bs.getD k [] then runTo bs k + 1 else 1
def symTo (s:List Int→Int) (bs:List (List Int)):Nat→Int
 | 0 => 1
 | k + 1 => wrap64 (symTo s bs k * (runTo bs (k + 1) * s (bs.getD k [])))
def symF:Nat→List Int→Int
 | 0,_ => 0
 | f + 1,t => symTo (symF f) (forest (brs (canon t))) (forest (brs (canon t))).length
end Go.Proofs.Ytgngidchldajhaa
namespace Go.Proofs.Ytgngidchldajhaa
open Go.RowKit
noncomputable def T0:Tab Try.prog :=
 ((Tab.none.add 65 (tab2 codL codL fun xs ys => some [.val (.bool (decide (cmpT xs ys < 0)))]) (tab2_ok fun xs ys rs h => by cases h;exact a_l03Before xs ys)).add
   98 (tab2 codL codL fun xs ys => some [.val (.bool (decide (xs = ys)))]) (tab2_ok fun xs ys rs h => by cases h;exact a_l01Same xs ys)).add
   99 (tab1 codL fun xs => if xs.length ≤ 1000000000 then some [.own 1 (xs.map eI) true] else none) (tab1_ok fun xs rs h => by split at h;cases h;exact a_l01Own xs ‹_›;cases h)
set_option maxHeartbeats 2000000 in
theorem a_l04Put (s:List (List Int × Int)) (t:List Int) (n:Int) (hr:RiseC s) (hsz:s.length ≤ 1000) (htz:t.length ≤ 1000) (hadd:∀ z ∈ s,In64 (z.2 + n)):AFn Try.prog 59 [[.sl 2 (s.map eCt)],eL t,eI n] (· = [.own 2 ((putC s t n).map eCt) false]):=by
 refine AFn.of_runs (cfg_ok 92) Try.func59 rfl rfl rfl (by simp only [List.length_cons,List.length_nil];decide) ?_
 have hres:Try.f59.results.toList = [.tmp 6]:=rfl
 have hrts:Try.f59.resultTypes.toList = [31]:=rfl
 simp only [argRegs,argAV1,eL,eI,eLL,eB,Nat.zero_add,Nat.reduceAdd]
 intro M
 refine RunK.of ?_
 repeat' (first|with_reducible (first|refine Q1 ?_|refine Q2 ?_|refine Q3 ?_|refine Q4 ?_|refine Q5 ?_|refine Q6 ?_|refine Q7 ?_|refine Q8 ?_|refine Q9 ?_|refine Qa ?_|refine Qb ?_|refine Qc ?_|refine Qd ?_|refine Qe ?_|refine Qf ?_)|((with_reducible refine Qo ?_ ?_);focus rfl)|((with_reducible first|refine QT 11 (l:=?_) ?_ ?_|refine QF 11 (l:=?_) ?_ ?_);rotate_left 1;focus (simp only [Zu,Nat.reduceSub,Nat.reduceBEq];with_reducible rfl))|((with_reducible first|refine QS (cfg_ok 92) T0 (s':=?_) ?_ ?_|refine QC (b:=?_) ?_ ?_);rotate_left 1;focus ((with_reducible refine QW ?_);simp only [Zg,seval,if_true,if_false,reduceCtorEq,Nat.reduceEqDiff,T0];with_reducible rfl))|((with_reducible refine QD (cfg_ok 92) T0 mixed_ok (tr:=?_) (s':=?_) ?_ ?_ ?_);rotate_left 2;(focus ((with_reducible refine QW ?_);simp only [Zg,Zd,seval,if_true,if_false,reduceCtorEq,Nat.reduceEqDiff,T0];with_reducible rfl));focus ((with_reducible refine QK ?_);simp only [Zk];kernel_rfl)))
 refine RunK.loop (β:=Nat) (γ:=Nat) (fun i => ⟨[(0,.c (.val (.sl 2 (s.map eCt)))),(1,.c (.val (.sl 1 (t.map eI)))),(2,.c (.val (.int n))),(7,.c (.val (.int i)))],[]⟩) (fun i => i ≤ s.length∧∀ z ∈ s.take i,cmpT z.1 t < 0) (fun i => s.length - i)
  (fun i => ⟨[(0,.c (.val (.sl 2 (s.map eCt)))),(1,.c (.val (.sl 1 (t.map eI)))),(2,.c (.val (.int n))),(7,.c (.val (.int i)))],[]⟩) (fun i => i ≤ s.length∧(∀ z ∈ s.take i,cmpT z.1 t < 0)∧∀ h:i < s.length,¬ cmpT s[i].1 t < 0) 0 ⟨Nat.zero_le _,by simp⟩ ?_ ?_ ?_
 ·(repeat' (first|with_reducible refine Qn|((with_reducible refine Qr ?_ ?_);focus (first|with_reducible rfl|(simp only [Zz,Nat.reduceBEq];done)|rfl))|((with_reducible refine Qj (o':=?_) ?_ ?_ ?_);rotate_left 1;focus rfl)|((with_reducible refine Qw ?_ ?_);(focus (first|with_reducible rfl|(simp only [Zv];done)));focus (first|exact id|exact (fun h => nomatch h)|exact (fun _ => rfl)))))
 ·rintro i ⟨hi,hlow⟩
  have hw:=w64_succ (n:=i) (by omega)
  by_cases h:i < s.length
  ·by_cases hc:cmpT s[i].1 t < 0
   ·repeat' (first|with_reducible (first|refine Q1 ?_|refine Q2 ?_|refine Q3 ?_|refine Q4 ?_|refine Q5 ?_|refine Q6 ?_|refine Q7 ?_|refine Q8 ?_|refine Q9 ?_|refine Qa ?_|refine Qb ?_|refine Qc ?_|refine Qd ?_|refine Qe ?_|refine Qf ?_)|((with_reducible refine Qo ?_ ?_);focus rfl)|((with_reducible first|refine QT 11 (l:=?_) ?_ ?_|refine QF 11 (l:=?_) ?_ ?_);rotate_left 1;focus (simp only [Zu,Nat.reduceSub,Nat.reduceBEq];with_reducible rfl))|((with_reducible first|refine QS (cfg_ok 92) T0 (s':=?_) ?_ ?_|refine QC (b:=?_) ?_ ?_);rotate_left 1;focus ((with_reducible refine QW ?_);simp only [Zg,seval,if_true,if_false,reduceCtorEq,Nat.reduceEqDiff,T0,List.length_map,Int.ofNat_lt,h,hc,Int.natCast_nonneg,Int.toNat_natCast,List.getElem?_map,List.getElem?_eq_getElem h,eCt,hw];with_reducible rfl))|((with_reducible refine QD (cfg_ok 92) T0 mixed_ok (tr:=?_) (s':=?_) ?_ ?_ ?_);rotate_left 2;(focus ((with_reducible refine QW ?_);simp only [Zg,Zd,seval,if_true,if_false,reduceCtorEq,Nat.reduceEqDiff,T0,List.length_map,Int.ofNat_lt,h,hc,Int.natCast_nonneg,Int.toNat_natCast,List.getElem?_map,List.getElem?_eq_getElem h,eCt,hw];with_reducible rfl));focus ((with_reducible refine QK ?_);simp only [Zk];kernel_rfl)))
    refine roundK.on (i + 1) ⟨⟨h,?_⟩,by omega⟩ ?_
    ·intro z hz
     rw [List.take_succ_eq_append_getElem h,List.mem_append,List.mem_singleton] at hz
     rcases hz with hz|rfl
     ·exact hlow z hz
     ·exact hc
    ·(repeat' (first|with_reducible refine Qn|((with_reducible refine Qr ?_ ?_);focus (first|with_reducible rfl|(simp only [Zz,Nat.reduceBEq];done)|rfl))|((with_reducible refine Qj (o':=?_) ?_ ?_ ?_);rotate_left 1;focus rfl)|((with_reducible refine Qw ?_ ?_);(focus (first|with_reducible rfl|(simp only [Zv];done)));focus (first|exact id|exact (fun h => nomatch h)|exact (fun _ => rfl)))))
   ·repeat' (first|with_reducible (first|refine Q1 ?_|refine Q2 ?_|refine Q3 ?_|refine Q4 ?_|refine Q5 ?_|refine Q6 ?_|refine Q7 ?_|refine Q8 ?_|refine Q9 ?_|refine Qa ?_|refine Qb ?_|refine Qc ?_|refine Qd ?_|refine Qe ?_|refine Qf ?_)|((with_reducible refine Qo ?_ ?_);focus rfl)|((with_reducible first|refine QT 11 (l:=?_) ?_ ?_|refine QF 11 (l:=?_) ?_ ?_);rotate_left 1;focus (simp only [Zu,Nat.reduceSub,Nat.reduceBEq];with_reducible rfl))|((with_reducible first|refine QS (cfg_ok 92) T0 (s':=?_) ?_ ?_|refine QC (b:=?_) ?_ ?_);rotate_left 1;focus ((with_reducible refine QW ?_);simp only [Zg,seval,if_true,if_false,reduceCtorEq,Nat.reduceEqDiff,T0,List.length_map,Int.ofNat_lt,h,hc,Int.natCast_nonneg,Int.toNat_natCast,List.getElem?_map,List.getElem?_eq_getElem h,eCt,hw];with_reducible rfl))|((with_reducible refine QD (cfg_ok 92) T0 mixed_ok (tr:=?_) (s':=?_) ?_ ?_ ?_);rotate_left 2;(focus ((with_reducible refine QW ?_);simp only [Zg,Zd,seval,if_true,if_false,reduceCtorEq,Nat.reduceEqDiff,T0,List.length_map,Int.ofNat_lt,h,hc,Int.natCast_nonneg,Int.toNat_natCast,List.getElem?_map,List.getElem?_eq_getElem h,eCt,hw];with_reducible rfl));focus ((with_reducible refine QK ?_);simp only [Zk];kernel_rfl)))
    refine roundK.out i ⟨hi,hlow,fun _ => hc⟩ ?_
    (repeat' (first|with_reducible refine Qn|((with_reducible refine Qr ?_ ?_);focus (first|with_reducible rfl|(simp only [Zz,Nat.reduceBEq];done)|rfl))|((with_reducible refine Qj (o':=?_) ?_ ?_ ?_);rotate_left 1;focus rfl)|((with_reducible refine Qw ?_ ?_);(focus (first|with_reducible rfl|(simp only [Zv];done)));focus (first|exact id|exact (fun h => nomatch h)|exact (fun _ => rfl)))))
  ·repeat' (first|with_reducible (first|refine Q1 ?_|refine Q2 ?_|refine Q3 ?_|refine Q4 ?_|refine Q5 ?_|refine Q6 ?_|refine Q7 ?_|refine Q8 ?_|refine Q9 ?_|refine Qa ?_|refine Qb ?_|refine Qc ?_|refine Qd ?_|refine Qe ?_|refine Qf ?_)|((with_reducible refine Qo ?_ ?_);focus rfl)|((with_reducible first|refine QT 11 (l:=?_) ?_ ?_|refine QF 11 (l:=?_) ?_ ?_);rotate_left 1;focus (simp only [Zu,Nat.reduceSub,Nat.reduceBEq];with_reducible rfl))|((with_reducible first|refine QS (cfg_ok 92) T0 (s':=?_) ?_ ?_|refine QC (b:=?_) ?_ ?_);rotate_left 1;focus ((with_reducible refine QW ?_);simp only [Zg,seval,if_true,if_false,reduceCtorEq,Nat.reduceEqDiff,T0,List.length_map,Int.ofNat_lt,h,Int.natCast_nonneg,Int.toNat_natCast,List.getElem?_map,eCt,hw];with_reducible rfl))|((with_reducible refine QD (cfg_ok 92) T0 mixed_ok (tr:=?_) (s':=?_) ?_ ?_ ?_);rotate_left 2;(focus ((with_reducible refine QW ?_);simp only [Zg,Zd,seval,if_true,if_false,reduceCtorEq,Nat.reduceEqDiff,T0,List.length_map,Int.ofNat_lt,h,Int.natCast_nonneg,Int.toNat_natCast,List.getElem?_map,eCt,hw];with_reducible rfl));focus ((with_reducible refine QK ?_);simp only [Zk];kernel_rfl)))
   refine roundK.out i ⟨hi,hlow,fun h' => absurd h' h⟩ ?_
   (repeat' (first|with_reducible refine Qn|((with_reducible refine Qr ?_ ?_);focus (first|with_reducible rfl|(simp only [Zz,Nat.reduceBEq];done)|rfl))|((with_reducible refine Qj (o':=?_) ?_ ?_ ?_);rotate_left 1;focus rfl)|((with_reducible refine Qw ?_ ?_);(focus (first|with_reducible rfl|(simp only [Zv];done)));focus (first|exact id|exact (fun h => nomatch h)|exact (fun _ => rfl)))))
 ·rintro k ⟨hk,hlow,hhigh⟩
  repeat' (first|with_reducible (first|refine Q1 ?_|refine Q2 ?_|refine Q3 ?_|refine Q4 ?_|refine Q5 ?_|refine Q6 ?_|refine Q7 ?_|refine Q8 ?_|refine Q9 ?_|refine Qa ?_|refine Qb ?_|refine Qc ?_|refine Qd ?_|refine Qe ?_|refine Qf ?_)|((with_reducible refine Qo ?_ ?_);focus rfl)|((with_reducible first|refine QT 11 (l:=?_) ?_ ?_|refine QF 11 (l:=?_) ?_ ?_);rotate_left 1;focus (simp only [Zu,Nat.reduceSub,Nat.reduceBEq];with_reducible rfl))|((with_reducible first|refine QS (cfg_ok 92) T0 (s':=?_) ?_ ?_|refine QC (b:=?_) ?_ ?_);rotate_left 1;focus ((with_reducible refine QW ?_);simp only [Zg,seval,if_true,if_false,reduceCtorEq,Nat.reduceEqDiff,T0];with_reducible rfl))|((with_reducible refine QD (cfg_ok 92) T0 mixed_ok (tr:=?_) (s':=?_) ?_ ?_ ?_);rotate_left 2;(focus ((with_reducible refine QW ?_);simp only [Zg,Zd,seval,if_true,if_false,reduceCtorEq,Nat.reduceEqDiff,T0];with_reducible rfl));focus ((with_reducible refine QK ?_);simp only [Zk];kernel_rfl)))
  refine RunK.loop (β:=Nat) (γ:=Nat) (fun i => ⟨[(0,.c (.val (.sl 2 (s.map eCt)))),(1,.c (.val (.sl 1 (t.map eI)))),(2,.c (.val (.int n))),(7,.c (.val (.int k))),(8,.c (.own 8 (putTo s t n k i).length)),(9,.c (.val (.int i)))],[(8,.row 2 ((putTo s t n k i).map eCt) false)]⟩) (fun i => i ≤ s.length) (fun i => s.length - i)
   (fun i => ⟨[(0,.c (.val (.sl 2 (s.map eCt)))),(1,.c (.val (.sl 1 (t.map eI)))),(2,.c (.val (.int n))),(7,.c (.val (.int k))),(8,.c (.own 8 (putTo s t n k i).length)),(9,.c (.val (.int i)))],[(8,.row 2 ((putTo s t n k i).map eCt) false)]⟩) (fun i => i = s.length) 0 (Nat.zero_le _) ?_ ?_ ?_
  ·(repeat' (first|with_reducible refine Qn|((with_reducible refine Qr ?_ ?_);focus (first|with_reducible rfl|(simp only [Zz,Nat.reduceBEq,putTo];done)|rfl))|((with_reducible refine Qj (o':=?_) ?_ ?_ ?_);rotate_left 1;focus rfl)|((with_reducible refine Qw ?_ ?_);(focus (first|with_reducible rfl|(simp only [Zv,putTo];done)));focus (first|exact id|exact (fun h => nomatch h)|exact (fun _ => rfl)))))
  ·rintro i hi
   have hw:=w64_succ (n:=i) (by omega)
   have hpl:=putTo_len s t n k i
   have hpl':(putTo s t n k i).length ≤ 2000:=by split at hpl <;> omega
   have q1:=big_le (n:=(putTo s t n k i).length + 1) (by omega)
   have q2:=big_mul (n:=(putTo s t n k i).length + 1) (c:=32) (by omega) (by omega)
   have q3:=big_le (n:=(putTo s t n k i).length + 1 + 1) (by omega)
   have q4:=big_mul (n:=(putTo s t n k i).length + 1 + 1) (c:=32) (by omega) (by omega)
   have ht1:=eq_true (show t.length ≤ 1000000000 by omega)
   by_cases h:i < s.length
   ·have hg:s.getD i ([],0) = s[i]:=by simp [List.getD,h]
    have hn:=hadd s[i] (List.getElem_mem _)
    have hn2:=w64_eq hn
    have hs1:putTo s t n k (i + 1) = (if i = k∧s[i].1 ≠ t then putTo s t n k i ++ [(t,n)] else putTo s t n k i) ++ [putEl t n s[i]]:=by rw [← hg];rfl
    by_cases he:s[i].1 = t
    ·have hs2:putTo s t n k (i + 1) = putTo s t n k i ++ [(t,s[i].2 + n)]:=by
      rw [hs1,if_neg (fun h => h.2 he)];unfold putEl;rw [if_pos he,he]
     by_cases hk2:i = k
     ·subst hk2
      repeat' (first|with_reducible (first|refine Q1 ?_|refine Q2 ?_|refine Q3 ?_|refine Q4 ?_|refine Q5 ?_|refine Q6 ?_|refine Q7 ?_|refine Q8 ?_|refine Q9 ?_|refine Qa ?_|refine Qb ?_|refine Qc ?_|refine Qd ?_|refine Qe ?_|refine Qf ?_)|((with_reducible refine Qo ?_ ?_);focus rfl)|((with_reducible first|refine QT 11 (l:=?_) ?_ ?_|refine QF 11 (l:=?_) ?_ ?_);rotate_left 1;focus (simp only [Zu,Nat.reduceSub,Nat.reduceBEq];with_reducible rfl))|((with_reducible first|refine QS (cfg_ok 92) T0 (s':=?_) ?_ ?_|refine QC (b:=?_) ?_ ?_);rotate_left 1;focus ((with_reducible refine QW ?_);simp only [Zg,seval,if_true,if_false,reduceCtorEq,Nat.reduceEqDiff,T0,List.length_map,Int.ofNat_lt,h,Int.natCast_nonneg,Int.toNat_natCast,map_get h,eCt,hw,he,hn2,q1,q2,ht1];with_reducible rfl))|((with_reducible refine QD (cfg_ok 92) T0 mixed_ok (tr:=?_) (s':=?_) ?_ ?_ ?_);rotate_left 2;(focus ((with_reducible refine QW ?_);simp only [Zg,Zd,seval,if_true,if_false,reduceCtorEq,Nat.reduceEqDiff,T0,List.length_map,Int.ofNat_lt,h,Int.natCast_nonneg,Int.toNat_natCast,map_get h,eCt,hw,he,hn2,q1,q2,ht1];with_reducible rfl));focus ((with_reducible refine QK ?_);simp only [Zk];kernel_rfl)))
      refine roundK.on (i + 1) ⟨h,by omega⟩ ?_
      rw [hs2]
      (repeat' (first|with_reducible refine Qn|((with_reducible refine Qr ?_ ?_);focus (first|with_reducible rfl|(simp only [Zz,Nat.reduceBEq,eCt];done)|rfl))|((with_reducible refine Qj (o':=?_) ?_ ?_ ?_);rotate_left 1;focus rfl)|((with_reducible refine Qw ?_ ?_);(focus (first|with_reducible rfl|(simp only [Zv,eCt];done)));focus (first|exact id|exact (fun h => nomatch h)|exact (fun _ => rfl)))))
     ·have hb:((i:Int) == (k:Int)) = false:=beq_eq_false_iff_ne.2 (by omega)
      repeat' (first|with_reducible (first|refine Q1 ?_|refine Q2 ?_|refine Q3 ?_|refine Q4 ?_|refine Q5 ?_|refine Q6 ?_|refine Q7 ?_|refine Q8 ?_|refine Q9 ?_|refine Qa ?_|refine Qb ?_|refine Qc ?_|refine Qd ?_|refine Qe ?_|refine Qf ?_)|((with_reducible refine Qo ?_ ?_);focus rfl)|((with_reducible first|refine QT 11 (l:=?_) ?_ ?_|refine QF 11 (l:=?_) ?_ ?_);rotate_left 1;focus (simp only [Zu,Nat.reduceSub,Nat.reduceBEq];with_reducible rfl))|((with_reducible first|refine QS (cfg_ok 92) T0 (s':=?_) ?_ ?_|refine QC (b:=?_) ?_ ?_);rotate_left 1;focus ((with_reducible refine QW ?_);simp only [Zg,seval,if_true,if_false,reduceCtorEq,Nat.reduceEqDiff,T0,List.length_map,Int.ofNat_lt,h,Int.natCast_nonneg,Int.toNat_natCast,map_get h,eCt,hw,he,hb,hn2,q1,q2,ht1];with_reducible rfl))|((with_reducible refine QD (cfg_ok 92) T0 mixed_ok (tr:=?_) (s':=?_) ?_ ?_ ?_);rotate_left 2;(focus ((with_reducible refine QW ?_);simp only [Zg,Zd,seval,if_true,if_false,reduceCtorEq,Nat.reduceEqDiff,T0,List.length_map,Int.ofNat_lt,h,Int.natCast_nonneg,Int.toNat_natCast,map_get h,eCt,hw,he,hb,hn2,q1,q2,ht1];with_reducible rfl));focus ((with_reducible refine QK ?_);simp only [Zk];kernel_rfl)))
      refine roundK.on (i + 1) ⟨h,by omega⟩ ?_
      rw [hs2]
      (repeat' (first|with_reducible refine Qn|((with_reducible refine Qr ?_ ?_);focus (first|with_reducible rfl|(simp only [Zz,Nat.reduceBEq,eCt];done)|rfl))|((with_reducible refine Qj (o':=?_) ?_ ?_ ?_);rotate_left 1;focus rfl)|((with_reducible refine Qw ?_ ?_);(focus (first|with_reducible rfl|(simp only [Zv,eCt];done)));focus (first|exact id|exact (fun h => nomatch h)|exact (fun _ => rfl)))))
    ·by_cases hk2:i = k
     ·subst hk2
      repeat' (first|with_reducible (first|refine Q1 ?_|refine Q2 ?_|refine Q3 ?_|refine Q4 ?_|refine Q5 ?_|refine Q6 ?_|refine Q7 ?_|refine Q8 ?_|refine Q9 ?_|refine Qa ?_|refine Qb ?_|refine Qc ?_|refine Qd ?_|refine Qe ?_|refine Qf ?_)|((with_reducible refine Qo ?_ ?_);focus rfl)|((with_reducible first|refine QT 11 (l:=?_) ?_ ?_|refine QF 11 (l:=?_) ?_ ?_);rotate_left 1;focus (simp only [Zu,Nat.reduceSub,Nat.reduceBEq];with_reducible rfl))|((with_reducible first|refine QS (cfg_ok 92) T0 (s':=?_) ?_ ?_|refine QC (b:=?_) ?_ ?_);rotate_left 1;focus ((with_reducible refine QW ?_);simp only [Zg,seval,if_true,if_false,reduceCtorEq,Nat.reduceEqDiff,T0,List.length_map,List.length_append,Int.ofNat_lt,h,Int.natCast_nonneg,Int.toNat_natCast,map_get h,eCt,hw,he,hn2,q1,q2,q3,q4,ht1];with_reducible rfl))|((with_reducible refine QD (cfg_ok 92) T0 mixed_ok (tr:=?_) (s':=?_) ?_ ?_ ?_);rotate_left 2;(focus ((with_reducible refine QW ?_);simp only [Zg,Zd,seval,if_true,if_false,reduceCtorEq,Nat.reduceEqDiff,T0,List.length_map,List.length_append,Int.ofNat_lt,h,Int.natCast_nonneg,Int.toNat_natCast,map_get h,eCt,hw,he,hn2,q1,q2,q3,q4,ht1];with_reducible rfl));focus ((with_reducible refine QK ?_);simp only [Zk];kernel_rfl)))
      refine roundK.on (i + 1) ⟨h,by omega⟩ ?_
      rw [hs1,if_pos ⟨rfl,he⟩,putEl_ne he]
      (repeat' (first|with_reducible refine Qn|((with_reducible refine Qr ?_ ?_);focus (first|with_reducible rfl|(simp only [Zz,Nat.reduceBEq,eCt];done)|rfl))|((with_reducible refine Qj (o':=?_) ?_ ?_ ?_);rotate_left 1;focus rfl)|((with_reducible refine Qw ?_ ?_);(focus (first|with_reducible rfl|(simp only [Zv,eCt];done)));focus (first|exact id|exact (fun h => nomatch h)|exact (fun _ => rfl)))))
     ·have hb:((i:Int) == (k:Int)) = false:=beq_eq_false_iff_ne.2 (by omega)
      repeat' (first|with_reducible (first|refine Q1 ?_|refine Q2 ?_|refine Q3 ?_|refine Q4 ?_|refine Q5 ?_|refine Q6 ?_|refine Q7 ?_|refine Q8 ?_|refine Q9 ?_|refine Qa ?_|refine Qb ?_|refine Qc ?_|refine Qd ?_|refine Qe ?_|refine Qf ?_)|((with_reducible refine Qo ?_ ?_);focus rfl)|((with_reducible first|refine QT 11 (l:=?_) ?_ ?_|refine QF 11 (l:=?_) ?_ ?_);rotate_left 1;focus (simp only [Zu,Nat.reduceSub,Nat.reduceBEq];with_reducible rfl))|((with_reducible first|refine QS (cfg_ok 92) T0 (s':=?_) ?_ ?_|refine QC (b:=?_) ?_ ?_);rotate_left 1;focus ((with_reducible refine QW ?_);simp only [Zg,seval,if_true,if_false,reduceCtorEq,Nat.reduceEqDiff,T0,List.length_map,Int.ofNat_lt,h,Int.natCast_nonneg,Int.toNat_natCast,map_get h,eCt,hw,he,hb,hn2,q1,q2,ht1];with_reducible rfl))|((with_reducible refine QD (cfg_ok 92) T0 mixed_ok (tr:=?_) (s':=?_) ?_ ?_ ?_);rotate_left 2;(focus ((with_reducible refine QW ?_);simp only [Zg,Zd,seval,if_true,if_false,reduceCtorEq,Nat.reduceEqDiff,T0,List.length_map,Int.ofNat_lt,h,Int.natCast_nonneg,Int.toNat_natCast,map_get h,eCt,hw,he,hb,hn2,q1,q2,ht1];with_reducible rfl));focus ((with_reducible refine QK ?_);simp only [Zk];kernel_rfl)))
      refine roundK.on (i + 1) ⟨h,by omega⟩ ?_
      rw [hs1,if_neg (fun h => hk2 h.1),putEl_ne he]
      (repeat' (first|with_reducible refine Qn|((with_reducible refine Qr ?_ ?_);focus (first|with_reducible rfl|(simp only [Zz,Nat.reduceBEq,eCt];done)|rfl))|((with_reducible refine Qj (o':=?_) ?_ ?_ ?_);rotate_left 1;focus rfl)|((with_reducible refine Qw ?_ ?_);(focus (first|with_reducible rfl|(simp only [Zv,eCt];done)));focus (first|exact id|exact (fun h => nomatch h)|exact (fun _ => rfl)))))
   ·repeat' (first|with_reducible (first|refine Q1 ?_|refine Q2 ?_|refine Q3 ?_|refine Q4 ?_|refine Q5 ?_|refine Q6 ?_|refine Q7 ?_|refine Q8 ?_|refine Q9 ?_|refine Qa ?_|refine Qb ?_|refine Qc ?_|refine Qd ?_|refine Qe ?_|refine Qf ?_)|((with_reducible refine Qo ?_ ?_);focus rfl)|((with_reducible first|refine QT 11 (l:=?_) ?_ ?_|refine QF 11 (l:=?_) ?_ ?_);rotate_left 1;focus (simp only [Zu,Nat.reduceSub,Nat.reduceBEq];with_reducible rfl))|((with_reducible first|refine QS (cfg_ok 92) T0 (s':=?_) ?_ ?_|refine QC (b:=?_) ?_ ?_);rotate_left 1;focus ((with_reducible refine QW ?_);simp only [Zg,seval,if_true,if_false,reduceCtorEq,Nat.reduceEqDiff,T0,List.length_map,Int.ofNat_lt,h,Int.natCast_nonneg,Int.toNat_natCast,eCt,hw,ht1];with_reducible rfl))|((with_reducible refine QD (cfg_ok 92) T0 mixed_ok (tr:=?_) (s':=?_) ?_ ?_ ?_);rotate_left 2;(focus ((with_reducible refine QW ?_);simp only [Zg,Zd,seval,if_true,if_false,reduceCtorEq,Nat.reduceEqDiff,T0,List.length_map,Int.ofNat_lt,h,Int.natCast_nonneg,Int.toNat_natCast,eCt,hw,ht1];with_reducible rfl));focus ((with_reducible refine QK ?_);simp only [Zk];kernel_rfl)))
    refine roundK.out i (by omega) ?_
    (repeat' (first|with_reducible refine Qn|((with_reducible refine Qr ?_ ?_);focus (first|with_reducible rfl|(simp only [Zz,Nat.reduceBEq];done)|rfl))|((with_reducible refine Qj (o':=?_) ?_ ?_ ?_);rotate_left 1;focus rfl)|((with_reducible refine Qw ?_ ?_);(focus (first|with_reducible rfl|(simp only [Zv];done)));focus (first|exact id|exact (fun h => nomatch h)|exact (fun _ => rfl)))))
  ·rintro i rfl
   have hsum:putC s t n = if k = s.length then putTo s t n k s.length ++ [(t,n)] else putTo s t n k s.length:=by
    have h1:=putTo_all (s.take k) (s.drop k) t n (by rw [List.take_append_drop];exact hr) hlow (fun z hz => by
     rw [List.head?_drop] at hz
     obtain ⟨h2,e⟩:=List.getElem?_eq_some_iff.1 hz
     rw [← e];exact hhigh h2)
    rw [List.take_append_drop,List.length_take,Nat.min_eq_left hk] at h1
    rw [← h1]
    split <;> simp
   have hpl:=putTo_len s t n k s.length
   have hpl':(putTo s t n k s.length).length ≤ 2000:=by split at hpl <;> omega
   have q1:=big_le (n:=(putTo s t n k s.length).length + 1) (by omega)
   have q2:=big_mul (n:=(putTo s t n k s.length).length + 1) (c:=32) (by omega) (by omega)
   have ht1:=eq_true (show t.length ≤ 1000000000 by omega)
   by_cases hk2:k = s.length
   ·rw [if_pos hk2] at hsum
    rw [hsum]
    subst hk2
    repeat' (first|with_reducible (first|refine Q1 ?_|refine Q2 ?_|refine Q3 ?_|refine Q4 ?_|refine Q5 ?_|refine Q6 ?_|refine Q7 ?_|refine Q8 ?_|refine Q9 ?_|refine Qa ?_|refine Qb ?_|refine Qc ?_|refine Qd ?_|refine Qe ?_|refine Qf ?_)|((with_reducible refine Qo ?_ ?_);focus rfl)|((with_reducible first|refine QT 11 (l:=?_) ?_ ?_|refine QF 11 (l:=?_) ?_ ?_);rotate_left 1;focus (simp only [Zu,Nat.reduceSub,Nat.reduceBEq];with_reducible rfl))|((with_reducible first|refine QS (cfg_ok 92) T0 (s':=?_) ?_ ?_|refine QC (b:=?_) ?_ ?_);rotate_left 1;focus ((with_reducible refine QW ?_);simp only [Zg,seval,if_true,if_false,reduceCtorEq,Nat.reduceEqDiff,T0,List.length_map,eCt,q1,q2,ht1];with_reducible rfl))|((with_reducible refine QD (cfg_ok 92) T0 mixed_ok (tr:=?_) (s':=?_) ?_ ?_ ?_);rotate_left 2;(focus ((with_reducible refine QW ?_);simp only [Zg,Zd,seval,if_true,if_false,reduceCtorEq,Nat.reduceEqDiff,T0,List.length_map,eCt,q1,q2,ht1];with_reducible rfl));focus ((with_reducible refine QK ?_);simp only [Zk];kernel_rfl)))
    (refine Ends.mk (by simp) (rs:=?_) (ks:=?_) hres hrts ?_ ?_ ?_;rotate_left 2;(focus (simp only [Ze,Zg,seval,if_true,if_false,reduceCtorEq,Nat.reduceEqDiff,eCt];with_reducible rfl));(focus simp);focus (first|with_reducible rfl|(simp only [Zv,eCt];done)))
   ·rw [if_neg hk2] at hsum
    rw [hsum]
    have hb:((k:Int) == (s.length:Int)) = false:=beq_eq_false_iff_ne.2 (by omega)
    repeat' (first|with_reducible (first|refine Q1 ?_|refine Q2 ?_|refine Q3 ?_|refine Q4 ?_|refine Q5 ?_|refine Q6 ?_|refine Q7 ?_|refine Q8 ?_|refine Q9 ?_|refine Qa ?_|refine Qb ?_|refine Qc ?_|refine Qd ?_|refine Qe ?_|refine Qf ?_)|((with_reducible refine Qo ?_ ?_);focus rfl)|((with_reducible first|refine QT 11 (l:=?_) ?_ ?_|refine QF 11 (l:=?_) ?_ ?_);rotate_left 1;focus (simp only [Zu,Nat.reduceSub,Nat.reduceBEq];with_reducible rfl))|((with_reducible first|refine QS (cfg_ok 92) T0 (s':=?_) ?_ ?_|refine QC (b:=?_) ?_ ?_);rotate_left 1;focus ((with_reducible refine QW ?_);simp only [Zg,seval,if_true,if_false,reduceCtorEq,Nat.reduceEqDiff,T0,List.length_map,eCt,hb];with_reducible rfl))|((with_reducible refine QD (cfg_ok 92) T0 mixed_ok (tr:=?_) (s':=?_) ?_ ?_ ?_);rotate_left 2;(focus ((with_reducible refine QW ?_);simp only [Zg,Zd,seval,if_true,if_false,reduceCtorEq,Nat.reduceEqDiff,T0,List.length_map,eCt,hb];with_reducible rfl));focus ((with_reducible refine QK ?_);simp only [Zk];kernel_rfl)))
    (refine Ends.mk (by simp) (rs:=?_) (ks:=?_) hres hrts ?_ ?_ ?_;rotate_left 2;(focus (simp only [Ze,Zg,seval,if_true,if_false,reduceCtorEq,Nat.reduceEqDiff,eCt];with_reducible rfl));(focus simp);focus (first|with_reducible rfl|(simp only [Zv,eCt];done)))
end Go.Proofs.Ytgngidchldajhaa
