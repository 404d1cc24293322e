/- Lemmas (1). -/
import Derived.Deep.LoopGhost
import Derived.Lib.FrozenHead
import Derived.Shelf.Abstract
import Derived.Shelf.RegionOpenPlain
import Derived.Test.YtedgfkpfhonlpaaZF0
set_option linter.unusedSimpArgs false
set_option linter.unusedVariables false
namespace Go.Proofs.Ytedgfkpfhonlpaa
open Go.RowKit
def levOk:Int→List Int→Prop
 | _,[] => True
 | p,x :: xs => 1 ≤ x∧x ≤ p + 1∧levOk x xs
theorem levOk_iff:∀ (xs:List Int) (p:Int),levOk p xs ↔ ∀ i,i < xs.length→1 ≤ (p :: xs).getD (i + 1) 0∧(p :: xs).getD (i + 1) 0 ≤ (p :: xs).getD i 0 + 1
 | [],p => by simp [levOk]
 | x :: xs,p => by
  unfold levOk
  rw [levOk_iff xs x]
  constructor
  ·rintro ⟨h1,h2,h3⟩ i hi
   cases i with
   | zero => simpa using ⟨h1,h2⟩
   | succ i => simpa using h3 i (by simpa using hi)
  ·intro h
   refine ⟨?_,?_,fun i hi => ?_⟩
   ·simpa using (h 0 (by simp)).1
   ·simpa using (h 0 (by simp)).2
   ·simpa using h (i + 1) (by simpa using hi)
theorem LevP_iff (t:List Int):LevP t ↔ ∃ xs,t = 0 :: xs∧levOk 0 xs:=by
 constructor
 ·intro h
  cases t with
  | nil => have:=h.pos;simp at this
  | cons x xs =>
   have h0:=h.zero h.pos
   simp at h0;subst h0
   refine ⟨xs,rfl,(levOk_iff xs 0).2 fun i hi => ?_⟩
   exact h.2 i (by simp;omega) (by simpa using hi)
 ·rintro ⟨xs,rfl,h⟩
  refine ⟨by simp,fun i _ hi => ?_⟩
  exact (levOk_iff xs 0).1 h i (by simpa using hi)
theorem levOk_append:∀ (xs ys:List Int) (p:Int),0 ≤ p→levOk p xs→(∀ q,0 ≤ q→levOk q ys)→levOk p (xs ++ ys)
 | [],ys,p,hp,_,h => h p hp
 | x :: xs,ys,p,hp,⟨h1,h2,h3⟩,h => ⟨h1,h2,levOk_append xs ys x (by omega) h3 h⟩
theorem levOk_shift:∀ (xs:List Int) (p:Int),levOk p xs→levOk (p + 1) (xs.map (· + 1))
 | [],_,_ => trivial
 | x :: xs,p,⟨h1,h2,h3⟩ => ⟨by show 1 ≤ x + 1;omega,by show x + 1 ≤ p + 1 + 1;omega,levOk_shift xs x h3⟩
def rootOn (bs:List (List Int)):List Int:=0 :: bs.flatMap (·.map (· + 1))
theorem rootOn_lev {bs:List (List Int)} (h:∀ b ∈ bs,LevP b):LevP (rootOn bs):=by
 rw [LevP_iff]
 refine ⟨_,rfl,?_⟩
 have:∀ q,0 ≤ q→levOk q (bs.flatMap (·.map (· + 1))):=by
  induction bs with
  | nil => intro q _;trivial
  | cons b bs ih =>
   intro q hq
   rw [List.flatMap_cons]
   obtain ⟨xs,rfl,hx⟩:=(LevP_iff b).1 (h b (by simp))
   refine levOk_append _ _ q hq ⟨by simp,by simp;omega,?_⟩ (ih fun b hb => h b (by simp [hb]))
   exact levOk_shift xs 0 hx
 exact this 0 (Int.le_refl 0)
def sumLen (bs:List (List Int)):Nat:=(bs.map List.length).sum
theorem rootOn_len (bs:List (List Int)):(rootOn bs).length = sumLen bs + 1:=by
 unfold rootOn sumLen
 induction bs with
 | nil => rfl
 | cons b bs ih => simp only [List.flatMap_cons,List.length_cons,List.length_append,List.length_map,List.map_cons,List.sum_cons] at *;omega
theorem rootOn_snoc (bs:List (List Int)) (b:List Int):rootOn (bs ++ [b]) = rootOn bs ++ b.map (· + 1):=by
 simp [rootOn,List.flatMap_append]
theorem sumLen_perm {l m:List (List Int)} (h:l.Perm m):sumLen l = sumLen m:=(h.map List.length).sum_nat
theorem sumLen_append (l m:List (List Int)):sumLen (l ++ m) = sumLen l + sumLen m:=by simp [sumLen]
theorem sumLen_mem {l:List (List Int)} {b:List Int} (h:b ∈ l):b.length ≤ sumLen l:=by
 unfold sumLen
 induction l with
 | nil => simp at h
 | cons a l ih =>
  rw [List.map_cons,List.sum_cons]
  rcases List.mem_cons.1 h with rfl|h
  ·omega
  ·have:=ih h;omega
theorem brStep_root (acc:List (List Int)) (l:Int) (h:l = 1 ∨ 0 < acc.length):rootOn (brStep acc l) = rootOn acc ++ [l]:=by
 by_cases e:l = 1
 ·subst e
  rw [brStep_one,rootOn_snoc];rfl
 ·have hp:=h.resolve_left e
  rw [brStep_more acc l e hp]
  obtain ⟨bs,b,rfl⟩:∃ bs b,acc = bs ++ [b]:=⟨acc.dropLast,acc.getLast (by intro e;rw [e] at hp;simp at hp),(List.dropLast_concat_getLast _).symm⟩
  simp only [List.length_append,List.length_singleton,Nat.add_sub_cancel,List.getElem_append_right (Nat.le_refl _),Nat.sub_self,List.getElem_singleton]
  rw [List.set_append_right _ _ (Nat.le_refl _),Nat.sub_self]
  show rootOn (bs ++ [b ++ [l - 1]]) = _
  rw [rootOn_snoc,rootOn_snoc,List.append_assoc,List.map_append]
  congr 2
  simp
theorem brTo_root {t:List Int} (h:LevP t):∀ k,k + 1 ≤ t.length→rootOn (brTo t k) = t.take (k + 1)
 | 0,hk => by
  have h0:=h.zero h.pos
  obtain ⟨xs,rfl,_⟩:=(LevP_iff t).1 h
  simp [brTo,rootOn]
 | k + 1,hk => by
  rw [brTo_succ t k hk,brStep_root,brTo_root h k (by omega)]
  ·rw [List.take_succ_eq_append_getElem (i:=k + 1) hk]
  ·cases k with
   | zero =>
    left
    have h1:=h.succ hk
    have h0:=h.zero h.pos
    simp at h1 ⊢;omega
   | succ k => right;exact brTo_pos h k (by omega)
theorem rootOn_brs {t:List Int} (h:LevP t):rootOn (brs t) = t:=by
 rw [← brTo_all t (t.length - 1) (by omega),brTo_root h (t.length - 1) (by have:=h.pos;omega)]
 rw [List.take_of_length_le (by omega)]
theorem sumLen_brs {t:List Int} (h:LevP t):sumLen (brs t) + 1 = t.length:=by
 have:=rootOn_len (brs t)
 rw [rootOn_brs h] at this
 omega
theorem foldl_brStep_more:∀ (ys:List Int) (acc:List (List Int)) (b:List Int),(∀ y ∈ ys,y ≠ 1)→ys.foldl brStep (acc ++ [b]) = acc ++ [b ++ ys.map (· - 1)]
 | [],acc,b,_ => by simp
 | y :: ys,acc,b,h => by
  rw [List.foldl_cons,brStep_more _ _ (h y (by simp)) (by simp)]
  simp only [List.length_append,List.length_singleton,Nat.add_sub_cancel,List.getElem_append_right (Nat.le_refl _),Nat.sub_self,List.getElem_singleton]
  rw [List.set_append_right _ _ (Nat.le_refl _),Nat.sub_self]
  show ys.foldl brStep (acc ++ [b ++ [y - 1]]) = _
  rw [foldl_brStep_more ys acc _ (fun y hy => h y (by simp [hy]))]
  simp
theorem levOk_ge:∀ (xs:List Int) (p:Int),levOk p xs→∀ x ∈ xs,1 ≤ x
 | x :: xs,p,⟨h1,_,h3⟩,y,hy => by
  rcases List.mem_cons.1 hy with rfl|hy
  ·exact h1
  ·exact levOk_ge xs x h3 y hy
theorem brs_rootOn {bs:List (List Int)} (h:∀ b ∈ bs,LevP b):brs (rootOn bs) = bs:=by
 unfold brs rootOn
 rw [List.drop_one,List.tail_cons]
 have:∀ (cs:List (List Int)),(∀ b ∈ cs,LevP b)→∀ acc,(cs.flatMap (·.map (· + 1))).foldl brStep acc = acc ++ cs:=by
  intro cs
  induction cs with
  | nil => intro _ acc;simp
  | cons b cs ih =>
   intro hc acc
   obtain ⟨xs,rfl,hx⟩:=(LevP_iff b).1 (hc b (by simp))
   rw [List.flatMap_cons,List.foldl_append,List.map_cons,List.foldl_cons]
   rw [show (0:Int) + 1 = 1 from rfl,brStep_one,foldl_brStep_more]
   ·rw [ih (fun b hb => hc b (by simp [hb]))]
    simp [Function.comp_def]
   ·intro y hy
    obtain ⟨x,hx',rfl⟩:=List.mem_map.1 hy
    have:=levOk_ge xs 0 hx x hx'
    omega
 simpa using this bs h []
def canonF:Nat→List Int→List Int
 | 0,_ => [0]
 | f + 1,t => rootOn (sortC cmpD ((brs t).map (canonF f)))
def canon (t:List Int):List Int:=canonF t.length t
theorem canonF_eq:∀ (f:Nat) {t:List Int},LevP t→t.length ≤ f→canonF f t = canon t:=by
 have key:∀ (n f g:Nat) (t:List Int),LevP t→t.length ≤ n→t.length ≤ f→t.length ≤ g→canonF f t = canonF g t:=by
  intro n
  induction n with
  | zero => intro f g t h hn;have:=h.pos;omega
  | succ n ih =>
   intro f g t h hn hf hg
   have hp:=h.pos
   obtain ⟨f,rfl⟩:∃ f',f = f' + 1:=⟨f - 1,by omega⟩
   obtain ⟨g,rfl⟩:∃ g',g = g' + 1:=⟨g - 1,by omega⟩
   simp only [canonF]
   congr 2
   apply List.map_congr_left
   intro b hb
   have:=brs_short h b hb
   exact ih f g b (brs_lev h b hb) (by omega) (by omega) (by omega)
 intro f t h hf
 exact key t.length f t.length t h (Nat.le_refl _) hf (Nat.le_refl _)
theorem canon_eq {t:List Int} (h:LevP t):canon t = rootOn (sortC cmpD ((brs t).map canon)):=by
 have hp:=h.pos
 obtain ⟨n,hn⟩:∃ n,t.length = n + 1:=⟨t.length - 1,by omega⟩
 unfold canon
 rw [hn]
 simp only [canonF]
 congr 2
 apply List.map_congr_left
 intro b hb
 have:=brs_short h b hb
 exact canonF_eq n (brs_lev h b hb) (by omega)
theorem canon_both {t:List Int}:LevP t→LevP (canon t)∧(canon t).length = t.length:=by
 have key:∀ (n:Nat) (t:List Int),LevP t→t.length ≤ n→LevP (canon t)∧(canon t).length = t.length:=by
  intro n
  induction n with
  | zero => intro t h hn;have:=h.pos;omega
  | succ n ih =>
   intro t h hn
   rw [canon_eq h]
   have hb:∀ b ∈ brs t,LevP (canon b)∧(canon b).length = b.length:=fun b hb => ih b (brs_lev h b hb) (by have:=brs_short h b hb;omega)
   refine ⟨rootOn_lev fun c hc => ?_,?_⟩
   ·rw [sortC_mem,List.mem_map] at hc
    obtain ⟨b,hb',rfl⟩:=hc
    exact (hb b hb').1
   ·rw [rootOn_len,sumLen_perm (sortC_perm _),← sumLen_brs h]
    congr 1
    unfold sumLen
    rw [List.map_map]
    congr 1
    apply List.map_congr_left
    intro b hb'
    exact (hb b hb').2
 exact fun h => key t.length t h (Nat.le_refl _)
theorem canon_lev {t:List Int} (h:LevP t):LevP (canon t):=(canon_both h).1
theorem canon_len {t:List Int} (h:LevP t):(canon t).length = t.length:=(canon_both h).2
theorem canon_idem {t:List Int}:LevP t→canon (canon t) = canon t:=by
 have key:∀ (n:Nat) (t:List Int),LevP t→t.length ≤ n→canon (canon t) = canon t:=by
  intro n
  induction n with
  | zero => intro t h hn;have:=h.pos;omega
  | succ n ih =>
   intro t h hn
   have hc:=canon_lev h
   have e:=canon_eq h
   have hbs:∀ c ∈ sortC cmpD ((brs t).map canon),LevP c:=by
    intro c hc
    rw [sortC_mem,List.mem_map] at hc
    obtain ⟨b,hb',rfl⟩:=hc
    exact canon_lev (brs_lev h b hb')
   rw [canon_eq hc,e,brs_rootOn hbs]
   congr 1
   have:(sortC cmpD ((brs t).map canon)).map canon = sortC cmpD ((brs t).map canon):=by
    rw [List.map_congr_left (g:=id),List.map_id]
    intro c hc
    rw [sortC_mem,List.mem_map] at hc
    obtain ⟨b,hb',rfl⟩:=hc
    exact ih b (brs_lev h b hb') (by have:=brs_short h b hb';omega)
   rw [this]
   exact sortC_of_sorted cmpD_cmp (sortC_sorted cmpD_cmp _)
 exact fun h => key t.length t h (Nat.le_refl _)
theorem lev8_lev {t:List Int} (h:lev8 t = true):LevP t:=by
 unfold lev8 levB at h
 simp at h
 exact h.2
theorem lev8_len {t:List Int} (h:lev8 t = true):t.length ≤ 8:=by
 unfold lev8 at h
 simp at h
 exact h.1
theorem lev8_mk {t:List Int} (h:LevP t) (h8:t.length ≤ 8):lev8 t = true:=by
 unfold lev8 levB
 simp [h,h8]
end Go.Proofs.Ytedgfkpfhonlpaa
namespace Go.Proofs.Ytedgfkpfhonlpaa
open Go.RowKit
section
variable {α:Type}
def swpL (xs:List α) (i j:Nat):List α:=match xs[i]?,xs[j]? with
 | some a,some b => (xs.set i b).set j a
 | _,_ => xs
theorem swpL_eq (xs:List α) (i j:Nat) (hi:i < xs.length) (hj:j < xs.length):swpL xs i j = (xs.set i xs[j]).set j xs[i]:=by
 unfold swpL
 rw [List.getElem?_eq_getElem hi,List.getElem?_eq_getElem hj]
theorem swpL_length (xs:List α) (i j:Nat):(swpL xs i j).length = xs.length:=by
 unfold swpL
 split <;> simp
theorem split2 (xs:List α) (i j:Nat) (hij:i < j) (hj:j < xs.length):∃ p a q b r,xs = p ++ (a :: (q ++ (b :: r)))∧p.length = i∧i + q.length + 1 = j∧xs[i] = a∧xs[j] = b:=by
 refine ⟨xs.take i,xs[i],(xs.take j).drop (i + 1),xs[j],xs.drop (j + 1),?_,by simp;omega,by simp;omega,rfl,rfl⟩
 have h1:xs = xs.take j ++ (xs[j] :: xs.drop (j + 1)):=by rw [← List.drop_eq_getElem_cons hj,List.take_append_drop]
 have h2:xs.take j = xs.take i ++ (xs[i] :: (xs.take j).drop (i + 1)):=by
  have e:(xs.take j)[i]'(by simp;omega) = xs[i]:=by simp
  rw [← e,← List.drop_eq_getElem_cons (by simp;omega)]
  have e2:(xs.take j).take i = xs.take i:=by rw [List.take_take,Nat.min_eq_left (by omega)]
  rw [← e2,List.take_append_drop]
 conv => lhs;rw [h1,h2]
 simp
theorem swpL_split (p q r:List α) (a b:α) (i j:Nat) (hi:p.length = i) (hj:i + q.length + 1 = j):swpL (p ++ (a :: (q ++ (b :: r)))) i j = p ++ (b :: (q ++ (a :: r))):=by
 subst hi
 subst hj
 have h1:(p ++ (a :: (q ++ (b :: r))))[p.length]? = some a:=by simp
 have h2:(p ++ (a :: (q ++ (b :: r))))[p.length + q.length + 1]? = some b:=by
  rw [List.getElem?_append_right (by omega),show p.length + q.length + 1 - p.length = q.length + 1 by omega]
  simp
 unfold swpL
 rw [h1,h2]
 simp only
 rw [List.set_append_right _ _ (Nat.le_refl _),Nat.sub_self,List.set_cons_zero,List.set_append_right _ _ (by omega),show p.length + q.length + 1 - p.length = q.length + 1 by omega,List.set_cons_succ,List.set_append_right _ _ (Nat.le_refl _),Nat.sub_self,List.set_cons_zero]
theorem swpL_perm (xs:List α) (i j:Nat) (hij:i < j) (hj:j < xs.length):(swpL xs i j).Perm xs:=by
 obtain ⟨p,a,q,b,r,e,h1,h2,_,_⟩:=split2 xs i j hij hj
 subst e
 rw [swpL_split p q r a b i j h1 h2]
 refine List.Perm.append_left p ?_
 refine ((List.perm_middle (l₁:=q) (a:=a) (l₂:=r)).cons b).trans ?_
 refine (List.Perm.swap a b _).trans ?_
 exact ((List.perm_middle (l₁:=q) (a:=b) (l₂:=r)).symm).cons a
theorem swpL_get (xs:List α) (i j:Nat) (hi:i < xs.length) (hj:j < xs.length) (k:Nat) (hk:k < xs.length):(swpL xs i j)[k]'(by rw [swpL_length];exact hk) = if k = j then xs[i] else if k = i then xs[j] else xs[k]:=by
 have e:=swpL_eq xs i j hi hj
 simp only [e,List.getElem_set]
 by_cases h1:j = k
 ·subst h1;simp
 ·by_cases h2:i = k
  ·subst h2;simp [h1,Ne.symm h1]
  ·simp [h1,h2,Ne.symm h1,Ne.symm h2]
theorem swpL_out (xs:List α) (i j k:Nat) (h1:k ≠ i) (h2:k ≠ j):(swpL xs i j)[k]? = xs[k]?:=by
 unfold swpL
 split
 ·rw [List.getElem?_set_ne (Ne.symm h2),List.getElem?_set_ne (Ne.symm h1)]
 ·rfl
variable {c:α→α→Int}
def SegOk (c:α→α→Int) (a i:Nat) (ys:List α):Prop:=∀ p q (hp:p < ys.length) (hq:q < ys.length),a ≤ p→p < q→q < i→c ys[p] ys[q] ≤ 0
def SinkOk (c:α→α→Int) (a i j:Nat) (ys:List α):Prop:=∀ p q (hp:p < ys.length) (hq:q < ys.length),a ≤ p→p < q→q < i + 1→q ≠ j→c ys[p] ys[q] ≤ 0
theorem SegOk.sink {a i:Nat} {ys:List α} (h:SegOk c a i ys):SinkOk c a i i ys:=fun p q hp hq h1 h2 h3 h4 => h p q hp hq h1 h2 (by omega)
theorem SinkOk.swap {a i j:Nat} {ys:List α} (h:SinkOk c a i j ys) (hj0:a < j) (hji:j ≤ i) (hj:j < ys.length) (hlt:c ys[j] (ys[j - 1]'(by omega)) < 0):SinkOk c a i (j - 1) (swpL ys (j - 1) j):=by
 intro p q hp hq h1 h2 h3 h4
 have hp':p < ys.length:=by rw [swpL_length] at hp;exact hp
 have hq':q < ys.length:=by rw [swpL_length] at hq;exact hq
 rw [swpL_get ys (j - 1) j (by omega) hj p hp',swpL_get ys (j - 1) j (by omega) hj q hq']
 by_cases hqj:q = j
 ·subst hqj
  rw [if_pos rfl,if_neg (by omega)]
  by_cases hp1:p = q - 1
  ·rw [if_pos hp1];omega
  ·rw [if_neg hp1];exact h p (q - 1) hp' (by omega) h1 (by omega) (by omega) (by omega)
 ·rw [if_neg hqj,if_neg h4]
  by_cases hpj:p = j
  ·subst hpj
   rw [if_pos rfl]
   exact h (p - 1) q (by omega) hq' (by omega) (by omega) h3 hqj
  ·rw [if_neg hpj]
   by_cases hp1:p = j - 1
   ·rw [if_pos hp1]
    exact h j q hj hq' (by omega) (by omega) h3 hqj
   ·rw [if_neg hp1]
    exact h p q hp' hq' h1 h2 h3 hqj
theorem SinkOk.done (hc:Cmp c) {a i j:Nat} {ys:List α} (h:SinkOk c a i j ys) (hj:j < ys.length) (hs:j ≤ a ∨ ¬ c ys[j] (ys[j - 1]'(by omega)) < 0) (_hji:j ≤ i):SegOk c a (i + 1) ys:=by
 intro p q hp hq h1 h2 h3
 by_cases hqj:q = j
 ·subst hqj
  rcases hs with hs|hs
  ·omega
  ·have hle:=hc.le_of_not_lt hs
   by_cases hp1:p = q - 1
   ·subst hp1;exact hle
   ·exact hc.trans _ _ _ (h p (q - 1) hp (by omega) h1 (by omega) (by omega) (by omega)) hle
 ·exact h p q hp hq h1 h2 (by omega) hqj
theorem SegOk.pairwise {ys:List α} {n:Nat} (h:SegOk c 0 n ys) (hn:ys.length ≤ n):ys.Pairwise (fun a b => c a b ≤ 0):=by
 rw [List.pairwise_iff_getElem]
 intro i j hi hj hij
 exact h i j hi hj (Nat.zero_le _) hij (by omega)
structure PermIn (a b:Nat) (xs ys:List α):Prop where
 perm:ys.Perm xs
 out:∀ p,(p < a ∨ b ≤ p)→ys[p]? = xs[p]?
theorem PermIn.refl (a b:Nat) (xs:List α):PermIn a b xs xs:=⟨List.Perm.refl _,fun _ _ => rfl⟩
theorem PermIn.trans {a b:Nat} {xs ys zs:List α} (h:PermIn a b xs ys) (k:PermIn a b ys zs):PermIn a b xs zs:=⟨k.perm.trans h.perm,fun p hp => (k.out p hp).trans (h.out p hp)⟩
theorem PermIn.len {a b:Nat} {xs ys:List α} (h:PermIn a b xs ys):ys.length = xs.length:=h.perm.length_eq
theorem PermIn.swp {a b:Nat} (xs:List α) (i j:Nat) (hij:i < j) (hj:j < xs.length) (ha:a ≤ i) (hb:j < b):PermIn a b xs (swpL xs i j) :=
 ⟨swpL_perm xs i j hij hj,fun p hp => swpL_out xs i j p (by omega) (by omega)⟩
theorem PermIn.mono {a b a' b':Nat} {xs ys:List α} (h:PermIn a b xs ys) (h1:a' ≤ a) (h2:b ≤ b'):PermIn a' b' xs ys:=⟨h.perm,fun p hp => h.out p (by omega)⟩
variable {R:Rep α} {w:World}
theorem ownL.unappend:∀ {xs ys:List α} {ds:List Value} {F:List Nat},ownL R w ds (xs ++ ys) F →
  ∃ d1 d2 F1 F2,ds = d1 ++ d2∧F = F1 ++ F2∧ownL R w d1 xs F1∧ownL R w d2 ys F2
 | [],ys,ds,F,h => ⟨[],ds,[],F,rfl,rfl,⟨rfl,rfl⟩,h⟩
 | x :: xs,ys,ds,F,⟨c,d,G,H,e,e',h1,h2⟩ => by
  obtain ⟨d1,d2,F1,F2,k1,k2,k3,k4⟩:=ownL.unappend h2
  exact ⟨c ++ d1,d2,G ++ F1,F2,by rw [e,k1,List.append_assoc],by rw [e',k2,List.append_assoc],⟨c,d1,G,F1,rfl,rfl,h1,k3⟩,k4⟩
theorem Own.of_heap {β:Type} {S:Rep β} {w w':World} {cs:List Value} {x:β} {lo hi:Nat} (h:Own S lo hi w cs x) (e:w'.heap = w.heap):Own S lo hi w' cs x :=
 h.frame fun b _ _ => by rw [e]
theorem Rd.of_heap {β:Type} {S:Rep β} {w w':World} {cs:List Value} {x:β} (h:Rd S w cs x) (e:w'.heap = w.heap):Rd S w' cs x :=
 S.rd_mono (S.rd_frame h fun b _ _ => by rw [e]) (fun b hb _ => by rw [e];exact hb)
theorem Chg.of_heap {lo hi:Nat} {w w' w'':World} (h:Chg lo hi w w') (e:w''.heap = w'.heap) (e1:w''.os = w'.os) (e2:w''.tape = w'.tape) (e3:w''.output = w'.output):Chg lo hi w w'' :=
 ⟨e1.trans h.os,e2.trans h.tape,e3.trans h.output,by rw [e];exact h.size,fun k hk hn => by rw [e];exact h.block k hk hn⟩
theorem Own.swap {v:Value} {xs:List α} {lo hi:Nat} (h:Own (RS R) lo hi w [v] xs) (hk:R.k = 1) (i j:Nat) (hij:i < j) (hj:j < xs.length) :
  ∃ g cap a b,v = .slice (some ⟨g,0,none⟩) xs.length cap∧xs.length ≤ cap∧cap ≤ 9223372036854775807∧g < w.heap.size ∧
   w.cell? ⟨g,i,none⟩ = some a∧w.cell? ⟨g,j,none⟩ = some b∧w.frozen? ⟨g,i,none⟩ = false∧w.frozen? ⟨g,j,none⟩ = false∧Rd R w [a] xs[i]∧Rd R w [b] xs[j] ∧
   (w.setCell ⟨g,j,none⟩ a).cell? ⟨g,i,none⟩ = some a ∧
   Own (RS R) lo hi ((w.setCell ⟨g,j,none⟩ a).setCell ⟨g,i,none⟩ b) [v] (swpL xs i j)∧Chg lo hi w ((w.setCell ⟨g,j,none⟩ a).setCell ⟨g,i,none⟩ b):=by
 obtain ⟨og,ds,F,hrow,hel,hF,hlt⟩:=h.open
 obtain ⟨g,rfl⟩:=hrow.some_of hj
 obtain ⟨cap,hv,hc1,hc2⟩:=hrow.slice
 obtain ⟨p,x,q,y,r,e,hp,hq,hxi,hxj⟩:=split2 xs i j hij hj
 rw [hxi,hxj]
 have hel0:=hel
 rw [e] at hel0
 obtain ⟨d1,d2,F1,F2,rfl,rfl,h1,⟨ca,d3,G,H,rfl,rfl,h2,h3⟩⟩:=ownL.unappend hel0
 obtain ⟨d4,d5,F4,F5,rfl,rfl,h4,⟨cb,d6,G2,H2,rfl,rfl,h5,h6⟩⟩:=ownL.unappend h3
 have la:=R.rd_len (R.own_rd h2)
 have lb:=R.rd_len (R.own_rd h5)
 rw [hk] at la lb
 match ca,la,cb,lb with
 | [a],_,[b],_ =>
  have l1:d1.length = i:=by rw [h1.len,hk,Nat.mul_one,hp]
  have l4:i + d4.length + 1 = j:=by rw [h4.len,hk,Nat.mul_one];exact hq
  have hlen:xs.length = p.length + (1 + (q.length + (1 + r.length))):=by rw [e];simp only [List.length_append,List.length_cons];omega
  have hrow':Row w v 1 xs.length (d1 ++ (a :: (d4 ++ (b :: d6)))) (some g):=by rw [← hk];exact hrow
  have ga:w.cell? ⟨g,i,none⟩ = some a:=hrow'.cells i a (by rw [← l1];simp)
  have gb:w.cell? ⟨g,j,none⟩ = some b:=hrow'.cells j b (by
   rw [List.getElem?_append_right (by omega),l1,show j - i = d4.length + 1 by omega];simp)
  obtain ⟨s1,r1⟩:=hrow'.store j a
  obtain ⟨s2,r2⟩:=s1.store i b
  have hset:((d1 ++ (a :: (d4 ++ (b :: d6)))).set j a).set i b = d1 ++ (b :: (d4 ++ (a :: d6))):=by
   rw [List.set_append_right _ _ (by omega),l1,show j - i = d4.length + 1 by omega,List.set_cons_succ,List.set_append_right _ _ (Nat.le_refl _),Nat.sub_self,List.set_cons_zero]
   rw [List.set_append_right _ _ (by omega),l1,Nat.sub_self,List.set_cons_zero]
  rw [hset] at s2
  have hfr:∀ z,z ∈ F1 ++ (G ++ (F4 ++ (G2 ++ H2)))→((w.setCell ⟨g,j,none⟩ a).setCell ⟨g,i,none⟩ b).heap[z]? = w.heap[z]?:=by
   intro z hz
   have hne:z ≠ g:=by
    intro e;subst e
    exact (List.nodup_append.1 hF).2.2 z (by simp) z hz rfl
   rw [heap_setCell_other _ ⟨g,i,none⟩ z b hne,heap_setCell_other _ ⟨g,j,none⟩ z a hne]
  have hown:ownL R ((w.setCell ⟨g,j,none⟩ a).setCell ⟨g,i,none⟩ b) (d1 ++ (b :: (d4 ++ (a :: d6)))) (swpL xs i j) (F1 ++ (G2 ++ (F4 ++ (G ++ H2)))):=by
   rw [e,swpL_split p q r x y i j hp hq]
   refine ownL.append (h1.frame fun z hz => hfr z (by simp [hz])) ?_
   refine ⟨[b],d4 ++ (a :: d6),G2,F4 ++ (G ++ H2),rfl,rfl,R.own_frame h5 (fun z hz => hfr z (by simp [hz])),?_⟩
   refine ownL.append (h4.frame fun z hz => hfr z (by simp [hz])) ?_
   exact ⟨[a],d6,G,H2,rfl,rfl,R.own_frame h2 (fun z hz => hfr z (by simp [hz])),h6.frame fun z hz => hfr z (by simp [hz])⟩
  have hperm:(F1 ++ (G2 ++ (F4 ++ (G ++ H2)))).Perm (F1 ++ (G ++ (F4 ++ (G2 ++ H2)))):=by
   refine List.Perm.append_left F1 ?_
   have e1:(G2 ++ (F4 ++ (G ++ H2))).Perm (G ++ (G2 ++ (F4 ++ H2))):=by
    rw [← List.append_assoc,← List.append_assoc]
    refine (List.perm_append_comm.append_right H2).trans ?_
    rw [List.append_assoc,List.append_assoc]
   refine e1.trans (List.Perm.append_left G ?_)
   rw [← List.append_assoc,← List.append_assoc]
   exact List.perm_append_comm.append_right H2
  have hg:=hlt g (by simp)
  have hgs:=hrow.lt g rfl
  refine ⟨g,cap,a,b,hv,hc1,by unfold maxLen at hc2;omega,hgs,ga,gb,hrow'.frozen i,hrow'.frozen j,Rd.of (R.own_rd h2),Rd.of (R.own_rd h5),?_,?_,?_⟩
  ·rw [World.cell?_setCell_other _ _ _ _ (by intro e;simp only [Addr.mk.injEq] at e;omega)];exact ga
  ·refine Own.mk' (og:=some g) (ds:=d1 ++ (b :: (d4 ++ (a :: d6)))) (F:=F1 ++ (G2 ++ (F4 ++ (G ++ H2)))) (by rw [hk,swpL_length];exact s2) hown ?_ ?_
   ·exact (List.Perm.nodup_iff (hperm.append_left _)).2 hF
   ·intro z hz
    exact hlt z ((hperm.append_left _).mem_iff.1 hz)
  ·exact (Chg.of_grown r1 (fun z hz => by cases hz;exact hg)).trans (Chg.of_grown r2 (fun z hz => by cases hz;exact hg))
end
end Go.Proofs.Ytedgfkpfhonlpaa
namespace Go.Proofs.Ytedgfkpfhonlpaa
open Go.RowKit
theorem all_take_succ {α:Type} (p:α→Bool) (xs:List α) (k:Nat) (h:k < xs.length) (h1:(xs.take k).all p = true) (h2:p xs[k] = true):(xs.take (k + 1)).all p = true:=by
 rw [List.take_succ_eq_append_getElem h,List.all_append,h1];simp [h2]
theorem all_false_at {α:Type} (p:α→Bool) (xs:List α) (k:Nat) (h:k < xs.length) (h2:p xs[k] = false):xs.all p = false:=by
 rw [List.all_eq_false];exact ⟨xs[k],List.getElem_mem h,by simp [h2]⟩
theorem all_of_take {α:Type} (p:α→Bool) (xs:List α) (k:Nat) (h:xs.length ≤ k) (h1:(xs.take k).all p = true):xs.all p = true:=by
 rwa [List.take_of_length_le h] at h1
end Go.Proofs.Ytedgfkpfhonlpaa
namespace Go.Proofs.Ytedgfkpfhonlpaa
open Go.RowKit
theorem Row.ownI {w:World} {v:Value} {xs:List Int} {og:Option Nat} (h:Row w v 1 xs.length (xs.map (Value.int .i64)) og) (hb:∀ x ∈ xs,In64 x):(RS RI).own w [v] xs og.toList :=
 ⟨v,og,xs.map (Value.int .i64),[],rfl,h,ownL_ints_mk hb,by simp⟩
theorem Row.OwnIh {w:World} {v:Value} {xs:List Int} {og:Option Nat} {lo hi:Nat} (h:Row w v 1 xs.length (xs.map (Value.int .i64)) og) (hb:∀ x ∈ xs,In64 x) (hlo:∀ g,og = some g→lo ≤ g∧g < hi):Own (RS RI) lo hi w [v] xs :=
 ⟨og.toList,h.ownI hb,by cases og <;> simp,fun b hb' => by have e:og = some b:=by simpa using hb'
                                                           exact hlo b e⟩
theorem Row.OwnI {w:World} {v:Value} {xs:List Int} {og:Option Nat} {lo:Nat} (h:Row w v 1 xs.length (xs.map (Value.int .i64)) og) (hb:∀ x ∈ xs,In64 x) (hlo:∀ g,og = some g→lo ≤ g):Own (RS RI) lo w.heap.size w [v] xs :=
 ⟨og.toList,h.ownI hb,by cases og <;> simp,fun b hb' => by have e:og = some b:=by simpa using hb'
                                                           exact ⟨hlo b e,h.lt b e⟩⟩
end Go.Proofs.Ytedgfkpfhonlpaa
namespace Go.Proofs.Ytedgfkpfhonlpaa
open Go.RowKit
theorem cmpL_step {xs ys:List Int} {k:Nat} (h1:k < xs.length) (h2:k < ys.length) :
  cmpL (xs.drop k) (ys.drop k) = if xs[k] < ys[k] then -1 else if ys[k] < xs[k] then 1 else cmpL (xs.drop (k + 1)) (ys.drop (k + 1)):=by
 rw [List.drop_eq_getElem_cons h1,List.drop_eq_getElem_cons h2];rfl
theorem cmpL_endR {xs ys:List Int} {k:Nat} (h1:k < xs.length) (h2:ys.length ≤ k):cmpL (xs.drop k) (ys.drop k) = 1:=by
 rw [List.drop_eq_getElem_cons h1,List.drop_of_length_le h2];rfl
theorem cmpL_endL {xs ys:List Int} {k:Nat} (h1:xs.length ≤ k) (h2:k < ys.length):cmpL (xs.drop k) (ys.drop k) = -1:=by
 rw [List.drop_eq_getElem_cons h2,List.drop_of_length_le h1];rfl
theorem cmpL_end0 {xs ys:List Int} {k:Nat} (h1:xs.length ≤ k) (h2:ys.length ≤ k):cmpL (xs.drop k) (ys.drop k) = 0:=by
 rw [List.drop_of_length_le h1,List.drop_of_length_le h2];rfl
theorem drewN3 (w:World) (n m k:Nat):∃ j,((w.drewN n).drewN m).drewN k = w.drewN j:=⟨_,by rw [World.drewN_drewN,World.drewN_drewN]⟩
def cmpI (x y:Int):Int:=if x < y then -1 else if y < x then 1 else 0
set_option maxRecDepth 100000 in
set_option maxHeartbeats 400000 in
theorem c_isNaN (x:Int) (w:World):Calls Try.prog 99 #[.int .i64 x] w (RetS w (.bool false)):=by
 have h:(x != x) = false:=by simp
 go_enter Try.func99,Try.ntmps99
 go_wp2_with fail
 go_ret
 exact ⟨by simp,rfl⟩
set_option maxRecDepth 100000 in
set_option maxHeartbeats 400000 in
theorem c_cmpCompare (x y:Int) (w:World):Calls Try.prog 92 #[.int .i64 x,.int .i64 y] w (RetS w (.int .i64 (cmpI x y))):=by
 unfold cmpI
 by_cases h1:x < y
 ·go_enter Try.func92,Try.ntmps92
  go_wp2_with (go_at_call 99;refine (c_isNaN _ _).mono ?_;rintro e w' ⟨rfl,rfl⟩)
  go_ret
  exact ⟨by simp,rfl⟩
 ·by_cases h2:y < x
  ·go_enter Try.func92,Try.ntmps92
   go_wp2_with (go_at_call 99;refine (c_isNaN _ _).mono ?_;rintro e w' ⟨rfl,rfl⟩)
   go_ret
   exact ⟨by simp,rfl⟩
  ·go_enter Try.func92,Try.ntmps92
   go_wp2_with (go_at_call 99;refine (c_isNaN _ _).mono ?_;rintro e w' ⟨rfl,rfl⟩)
   go_ret
   exact ⟨by simp,rfl⟩
set_option maxRecDepth 100000 in
set_option maxHeartbeats 1000000 in
theorem c_slicesCompare (v1 v2:Value) (xs ys:List Int) (w:World) (h1:Rd (RS RI) w [v1] xs) (h2:Rd (RS RI) w [v2] ys) :
  Calls Try.prog 75 #[v1,v2] w (RetS w (.int .i64 (cmpL xs ys))):=by
 obtain ⟨oa,c1,I1⟩:=h1.ints
 obtain ⟨ob,c2,I2⟩:=h2.ints
 obtain rfl:=I1.val
 obtain rfl:=I2.val
 have m1:=I1.le;have m2:=I1.capLe;have m3:=I2.le;have m4:=I2.capLe
 unfold maxLen at m2 m4
 go_enter Try.func75,Try.ntmps75
 go_wp2_with fail
 go_loop [11] (fun i => ∃ k:Nat,k ≤ xs.length∧k ≤ ys.length∧i = .int .i64 k∧cmpL xs ys = cmpL (xs.drop k) (ys.drop k)) (fun i => xs.length - (intOf i).toNat)
 case atStart => exact ⟨0,Nat.zero_le _,Nat.zero_le _,rfl,by simp⟩
 case round =>
  obtain ⟨k,hk,hk2,rfl,he⟩:=hrel
  have He:=Lib.hid he
  clear he
  by_cases hlt:k < xs.length
  ·obtain ⟨b1,o1,rfl,hb1,hc1⟩:=I1.get hlt
   have g1:=hc1 k hlt
   clear hc1
   by_cases hlt2:k < ys.length
   ·obtain ⟨b2,o2,rfl,hb2,hc2⟩:=I2.get hlt2
    have g2:=hc2 k hlt2
    clear hc2
    have hs:=cmpL_step hlt hlt2
    by_cases l1:xs[k] < ys[k]
    ·have hcI:cmpI xs[k] ys[k] = -1:=by simp [cmpI,l1]
     have Hs:=Lib.hid hs
     have L1:=Lib.hid l1
     clear hs l1
     go_wp2_with (go_at_call 92;refine (c_cmpCompare _ _ _).mono ?_;rintro e w' ⟨rfl,rfl⟩)
     go_ret
     exact ⟨by (rw [He.out,Hs.out,if_pos L1.out] <;> rfl),rfl⟩
    ·by_cases l2:ys[k] < xs[k]
     ·have hcI:cmpI xs[k] ys[k] = 1:=by simp [cmpI,l1,l2]
      have Hs:=Lib.hid hs
      have L1:=Lib.hid l1
      have L2:=Lib.hid l2
      clear hs l1 l2
      go_wp2_with (go_at_call 92;refine (c_cmpCompare _ _ _).mono ?_;rintro e w' ⟨rfl,rfl⟩)
      go_ret
      exact ⟨by (rw [He.out,Hs.out,if_neg (show ¬ xs[k] < ys[k] by have:=L1.out;omega),if_pos L2.out] <;> rfl),rfl⟩
     ·have hcI:cmpI xs[k] ys[k] = 0:=by simp [cmpI,l1,l2]
      have Hs:=Lib.hid hs
      have L1:=Lib.hid l1
      have L2:=Lib.hid l2
      clear hs l1 l2
      go_wp2_with (go_at_call 92;refine (c_cmpCompare _ _ _).mono ?_;rintro e w' ⟨rfl,rfl⟩)
      go_round
      case rel => exact ⟨k + 1,by omega,by omega,by go_num,by rw [He.out,Hs.out,if_neg (show ¬ xs[k] < ys[k] by have:=L1.out;omega),if_neg (show ¬ ys[k] < xs[k] by have:=L2.out;omega)]⟩
      case measure => simp [intOf];omega
   ·go_wp2_with fail
    go_ret
    exact ⟨by (rw [He.out,cmpL_endR hlt (by omega)] <;> rfl),rfl⟩
  ·by_cases hlt2:k < ys.length
   ·go_wp2_with fail
    go_ret
    exact ⟨by (rw [He.out,cmpL_endL (by omega) hlt2] <;> rfl),rfl⟩
   ·go_wp2_with fail
    go_ret
    exact ⟨by (rw [He.out,cmpL_end0 (by omega) (by omega)] <;> rfl),rfl⟩
set_option maxRecDepth 100000 in
set_option maxHeartbeats 400000 in
theorem c_impl_compareTrees (v1 v2:Value) (xs ys:List Int) (w:World) (h1:Rd (RS RI) w [v1] xs) (h2:Rd (RS RI) w [v2] ys) :
  Calls Try.prog 42 #[v1,v2] w (RetS w (.int .i64 (cmpT xs ys))):=by
 obtain ⟨oa,c1,e1,m1,m2⟩:=h1.val
 obtain ⟨ob,c2,e2,m3,m4⟩:=h2.val
 subst e1;subst e2
 unfold maxLen at m2 m4
 by_cases hl:xs.length = ys.length
 ·have hlb:((xs.length:Int) != (ys.length:Int)) = false:=by simp [hl]
  have Hl:=Lib.hid hl
  clear hl
  go_enter Try.func42,Try.ntmps42
  go_wp2_with (go_at_call 75;refine (c_slicesCompare _ _ _ _ _ h2 h1).mono ?_;rintro e w' ⟨rfl,rfl⟩)
  go_ret
  exact ⟨by (unfold cmpT;rw [if_pos Hl.out] <;> rfl),rfl⟩
 ·have hlb:((xs.length:Int) != (ys.length:Int)) = true:=by simp;omega
  have hw:IntKind.i64.wrap ((xs.length:Int) - (ys.length:Int)) = (xs.length:Int) - (ys.length:Int):=IntWalk.i64_in _ (by omega)
  go_enter Try.func42,Try.ntmps42
  go_wp2_with fail
  go_ret
  exact ⟨by unfold cmpT;rw [if_neg hl];rfl,rfl⟩
set_option maxRecDepth 100000 in
set_option maxHeartbeats 400000 in
theorem c_impl_canonical1 (v1 v2:Value) (xs ys:List Int) (w:World) (h1:Rd (RS RI) w [v1] xs) (h2:Rd (RS RI) w [v2] ys) :
  Calls Try.prog 77 #[v1,v2] w (RetS w (.int .i64 (cmpD xs ys))):=by
 obtain ⟨oa,c1,e1,m1,m2⟩:=h1.val
 obtain ⟨ob,c2,e2,m3,m4⟩:=h2.val
 subst e1;subst e2
 go_enter Try.func77,Try.ntmps77
 go_wp2_with (go_at_call 75;refine (c_slicesCompare _ _ _ _ _ h2 h1).mono ?_;rintro e w' ⟨rfl,rfl⟩)
 go_ret
 exact ⟨rfl,rfl⟩
set_option maxRecDepth 100000 in
set_option maxHeartbeats 400000 in
theorem c_slicesEqual (v1 v2:Value) (xs ys:List Int) (w:World) (h1:Rd (RS RI) w [v1] xs) (h2:Rd (RS RI) w [v2] ys) :
  Calls Try.prog 47 #[v1,v2] w (RetQ w (.bool (decide (xs = ys)))):=by
 obtain ⟨oa,c1,I1⟩:=h1.ints
 obtain ⟨ob,c2,I2⟩:=h2.ints
 obtain rfl:=I1.val
 obtain rfl:=I2.val
 have m1:=I1.le;have m2:=I1.capLe;have m3:=I2.le;have m4:=I2.capLe
 unfold maxLen at m2 m4
 by_cases hl:xs.length = ys.length
 ·have Hl:=Lib.hid hl
  have hlb:((xs.length:Int) != (ys.length:Int)) = false:=by simp [hl]
  clear hl
  go_enter Try.func47,Try.ntmps47
  go_wp2_with fail
  go_loopw [13] (fun i wr => ∃ k:Nat,k ≤ xs.length∧i = .int .i64 k∧xs.take k = ys.take k∧∃ n,wr = w.drewN n) (fun i _ => xs.length - (intOf i).toNat)
  case atStart => exact ⟨0,Nat.zero_le _,rfl,by simp,0,rfl⟩
  case round =>
   obtain ⟨k,hk,rfl,heq,n,rfl⟩:=hrel
   have Heq:=Lib.hid heq
   clear heq
   by_cases hlt:k < xs.length
   ·have hlt2:k < ys.length:=by rw [← Hl.out];exact hlt
    obtain ⟨b1,o1,rfl,hb1,hc1⟩:=I1.get hlt
    obtain ⟨b2,o2,rfl,hb2,hc2⟩:=I2.get hlt2
    have g1:=hc1 k hlt
    have g2:=hc2 k hlt2
    clear hc1 hc2
    by_cases he:xs[k] = ys[k]
    ·have hne:(xs[k] != ys[k]) = false:=by simp [he]
     have He:=Lib.hid he
     clear he
     go_wp2_with fail
     go_quiet (fail)
     go_wp2_with fail
     go_roundw
     case rel => exact ⟨k + 1,by omega,by go_num,take_succ_eq hlt hlt2 Heq.out He.out,_,rfl⟩
     case measure => simp [intOf];omega
    ·have hne:(xs[k] != ys[k]) = true:=by simp [he]
     go_wp2_with fail
     go_quiet (fail)
     go_wp2_with fail
     go_ret
     exact ⟨by (rw [decide_eq_false (fun e => he (by subst e;rfl))] <;> rfl),(by first|exact drewN1 _ _|exact drewN2 _ _ _)⟩
   ·go_wp2_with fail
    go_ret
    refine ⟨?_,_,rfl⟩
    have h:=Heq.out
    rw [List.take_of_length_le (by omega),List.take_of_length_le (by rw [← Hl.out];omega)] at h
    rw [decide_eq_true h] <;> rfl
 ·have hlb:((xs.length:Int) != (ys.length:Int)) = true:=by simp;omega
  go_enter Try.func47,Try.ntmps47
  go_wp2_with fail
  go_ret
  exact ⟨by (rw [decide_eq_false (fun e => hl (by subst e;rfl))] <;> rfl),0,rfl⟩
set_option maxRecDepth 100000 in
set_option maxHeartbeats 400000 in
theorem c_spec_l01Same (v1 v2:Value) (xs ys:List Int) (w:World) (h1:Rd (RS RI) w [v1] xs) (h2:Rd (RS RI) w [v2] ys) :
  Calls Try.prog 98 #[v1,v2] w (RetQ w (.bool (decide (xs = ys)))):=by
 obtain ⟨oa,c1,I1⟩:=h1.ints
 obtain ⟨ob,c2,I2⟩:=h2.ints
 obtain rfl:=I1.val
 obtain rfl:=I2.val
 have m1:=I1.le;have m2:=I1.capLe;have m3:=I2.le;have m4:=I2.capLe
 unfold maxLen at m2 m4
 by_cases hl:xs.length = ys.length
 ·have Hl:=Lib.hid hl
  have hlb:((xs.length:Int) != (ys.length:Int)) = false:=by simp [hl]
  clear hl
  go_enter Try.func98,Try.ntmps98
  go_wp2_with fail
  go_loopw [5] (fun i wr => ∃ k:Nat,k ≤ xs.length∧i = .int .i64 k∧xs.take k = ys.take k∧∃ n,wr = w.drewN n) (fun i _ => xs.length - (intOf i).toNat)
  case atStart => exact ⟨0,Nat.zero_le _,rfl,by simp,0,rfl⟩
  case round =>
   obtain ⟨k,hk,rfl,heq,n,rfl⟩:=hrel
   have Heq:=Lib.hid heq
   clear heq
   by_cases hlt:k < xs.length
   ·have hlt2:k < ys.length:=by rw [← Hl.out];exact hlt
    obtain ⟨b1,o1,rfl,hb1,hc1⟩:=I1.get hlt
    obtain ⟨b2,o2,rfl,hb2,hc2⟩:=I2.get hlt2
    have g1:=hc1 k hlt
    have g2:=hc2 k hlt2
    clear hc1 hc2
    by_cases he:xs[k] = ys[k]
    ·have hne:(xs[k] != ys[k]) = false:=by simp [he]
     have He:=Lib.hid he
     clear he
     go_wp2_with fail
     go_quiet (fail)
     go_wp2_with fail
     go_roundw
     case rel => exact ⟨k + 1,by omega,by go_num,take_succ_eq hlt hlt2 Heq.out He.out,_,rfl⟩
     case measure => simp [intOf];omega
    ·have hne:(xs[k] != ys[k]) = true:=by simp [he]
     go_wp2_with fail
     go_quiet (fail)
     go_wp2_with fail
     go_ret
     exact ⟨by (rw [decide_eq_false (fun e => he (by subst e;rfl))] <;> rfl),(by first|exact drewN1 _ _|exact drewN2 _ _ _)⟩
   ·go_wp2_with fail
    go_ret
    refine ⟨?_,_,rfl⟩
    have h:=Heq.out
    rw [List.take_of_length_le (by omega),List.take_of_length_le (by rw [← Hl.out];omega)] at h
    rw [decide_eq_true h] <;> rfl
 ·have hlb:((xs.length:Int) != (ys.length:Int)) = true:=by simp;omega
  go_enter Try.func98,Try.ntmps98
  go_wp2_with fail
  go_ret
  exact ⟨by (rw [decide_eq_false (fun e => hl (by subst e;rfl))] <;> rfl),0,rfl⟩
set_option maxRecDepth 100000 in
set_option maxHeartbeats 1000000 in
theorem c_spec_l01Less (v1 v2:Value) (xs ys:List Int) (w:World) (h1:Rd (RS RI) w [v1] xs) (h2:Rd (RS RI) w [v2] ys) :
  Calls Try.prog 78 #[v1,v2] w (RetQ w (.bool (decide (cmpL xs ys < 0)))):=by
 obtain ⟨oa,c1,I1⟩:=h1.ints
 obtain ⟨ob,c2,I2⟩:=h2.ints
 obtain rfl:=I1.val
 obtain rfl:=I2.val
 have m1:=I1.le;have m2:=I1.capLe;have m3:=I2.le;have m4:=I2.capLe
 unfold maxLen at m2 m4
 go_enter Try.func78,Try.ntmps78
 go_wp2_with fail
 go_loopw [5] (fun i wr => ∃ k:Nat,k ≤ xs.length∧k ≤ ys.length∧i = .int .i64 k∧cmpL xs ys = cmpL (xs.drop k) (ys.drop k)∧∃ n,wr = w.drewN n) (fun i _ => xs.length - (intOf i).toNat)
 case atStart => exact ⟨0,Nat.zero_le _,Nat.zero_le _,rfl,by simp,0,rfl⟩
 case round =>
  obtain ⟨k,hk,hk2,rfl,he,n,rfl⟩:=hrel
  have He:=Lib.hid he
  clear he
  by_cases hlt:k < xs.length
  ·obtain ⟨b1,o1,rfl,hb1,hc1⟩:=I1.get hlt
   have g1:=hc1 k hlt
   clear hc1
   by_cases hlt2:k < ys.length
   ·obtain ⟨b2,o2,rfl,hb2,hc2⟩:=I2.get hlt2
    have g2:=hc2 k hlt2
    clear hc2
    have hs:=cmpL_step hlt hlt2
    by_cases e1:xs[k] = ys[k]
    ·have hne:(xs[k] != ys[k]) = false:=by simp [e1]
     rw [if_neg (by omega),if_neg (by omega)] at hs
     have Hs:=Lib.hid hs
     clear hs e1
     go_wp2_with fail
     go_quiet (fail)
     go_wp2_with fail
     go_roundw
     case rel => exact ⟨k + 1,by omega,by omega,by go_num,by rw [He.out,Hs.out],(by first|exact drewN1 _ _|exact drewN2 _ _ _)⟩
     case measure => simp [intOf];omega
    ·have hne:(xs[k] != ys[k]) = true:=by simp [e1]
     have hr:decide (cmpL xs ys < 0) = decide (xs[k] < ys[k]):=by
      rw [He.out,hs]
      by_cases l1:xs[k] < ys[k]
      ·rw [if_pos l1,decide_eq_true l1];rfl
      ·rw [if_neg l1,if_pos (by omega),decide_eq_false l1];rfl
     have Hr:=Lib.hid hr
     clear hs hr e1
     go_wp2_with fail
     go_quiet (fail)
     go_wp2_with fail
     go_quiet (fail)
     go_wp2_with fail
     go_ret
     exact ⟨by (rw [Hr.out] <;> rfl),(by first|exact drewN1 _ _|exact drewN2 _ _ _|exact drewN3 _ _ _ _)⟩
   ·have hr:decide (cmpL xs ys < 0) = false:=by rw [He.out,cmpL_endR hlt (by omega)];rfl
    have hf:((xs.length:Int) < (ys.length:Int)) = False:=by simp;omega
    go_wp2_with fail
    go_ret
    exact ⟨by rw [hr];simp <;> omega,(by first|exact drewN1 _ _|exact drewN2 _ _ _)⟩
  ·by_cases hlt2:k < ys.length
   ·have hr:decide (cmpL xs ys < 0) = true:=by rw [He.out,cmpL_endL (by omega) hlt2];rfl
    go_wp2_with fail
    go_ret
    exact ⟨by rw [hr];simp <;> omega,(by first|exact drewN1 _ _|exact drewN2 _ _ _)⟩
   ·have hr:decide (cmpL xs ys < 0) = false:=by rw [He.out,cmpL_end0 (by omega) (by omega)];rfl
    go_wp2_with fail
    go_ret
    exact ⟨by rw [hr];simp <;> omega,(by first|exact drewN1 _ _|exact drewN2 _ _ _)⟩
set_option maxRecDepth 100000 in
set_option maxHeartbeats 400000 in
theorem c_spec_l03Before (v1 v2:Value) (xs ys:List Int) (w:World) (h1:Rd (RS RI) w [v1] xs) (h2:Rd (RS RI) w [v2] ys) :
  Calls Try.prog 45 #[v1,v2] w (RetQ w (.bool (decide (cmpT xs ys < 0)))):=by
 obtain ⟨oa,c1,e1,m1,m2⟩:=h1.val
 obtain ⟨ob,c2,e2,m3,m4⟩:=h2.val
 subst e1;subst e2
 unfold maxLen at m2 m4
 by_cases hl:xs.length = ys.length
 ·have hlb:((xs.length:Int) != (ys.length:Int)) = false:=by simp [hl]
  have Hl:=Lib.hid hl
  clear hl
  go_enter Try.func45,Try.ntmps45
  go_wp2_with (go_at_call 78;refine (c_spec_l01Less _ _ _ _ _ h2 h1).mono ?_;rintro e w' ⟨rfl,n,rfl⟩)
  go_ret
  exact ⟨by (unfold cmpT;rw [if_pos Hl.out] <;> rfl),(by first|exact drewN1 _ _|exact drewN2 _ _ _)⟩
 ·have hlb:((xs.length:Int) != (ys.length:Int)) = true:=by simp;omega
  go_enter Try.func45,Try.ntmps45
  go_wp2_with fail
  go_ret
  refine ⟨?_,0,rfl⟩
  unfold cmpT;rw [if_neg hl]
  have e:decide ((xs.length:Int) - ys.length < 0) = decide (xs.length < ys.length):=by rw [decide_eq_decide];omega
  rw [e] <;> rfl
theorem Row.cells_ints {w:World} {xs:List Int} {oa:Option Addr} {cap:Nat} {v:Value} (I:Ints w v xs oa cap):∀ a,oa = some a→∀ j u,(xs.map (Value.int .i64))[j]? = some u→w.cell? (a.add j) = some u:=by
 intro a ha j u hj
 rcases I.row with h|⟨b,off,e,hb,hc⟩
 ·subst h;simp at hj
 ·rw [ha] at e;cases e
  rw [List.getElem?_map] at hj
  obtain ⟨hlt,hv⟩:∃ h:j < xs.length,Value.int .i64 xs[j] = u:=by
   by_cases h:j < xs.length
   ·rw [List.getElem?_eq_getElem h] at hj;simp at hj;exact ⟨h,hj⟩
   ·rw [List.getElem?_eq_none (by omega)] at hj;simp at hj
  rw [Addr.add_lit,hc j hlt,hv]
set_option maxRecDepth 100000 in
set_option maxHeartbeats 400000 in
theorem c_spec_l01Own (v:Value) (xs:List Int) (w:World) (h:Rd (RS RI) w [v] xs) (hsz:xs.length ≤ 1000000000) :
  Calls Try.prog 90 #[v] w (RetO (RS RI) w xs):=by
 obtain ⟨oa,c1,I1⟩:=h.ints
 obtain rfl:=I1.val
 have m1:=I1.le;have m2:=I1.capLe
 unfold maxLen at m2
 have hnone:oa = none→xs.length = 0:=fun e => by have:=I1.noneCap e;omega
 have I2:Ints (w.alloc (.cells #[] 2)) (.slice oa xs.length c1) xs oa c1:=by
  refine ⟨rfl,m1,I1.capLe,I1.noneCap,I1.bd,?_⟩
  rcases I1.row with h|⟨b,off,e,hb,hc⟩
  ·exact .inl h
  ·refine .inr ⟨b,off,e,by simp;omega,fun j hj => ?_⟩
   rw [World.cell?_alloc_lt _ _ _ hb];exact hc j hj
 have hrow:=Row.lit w #[] 2 1 0 (by decide) (by simp)
 have HI:=Lib.hid I2
 have HR:=Lib.hid hrow
 clear I2 hrow
 go_enter Try.func90,Try.ntmps90
 go_wp2_with (at_builtin;refine wpList_appendS rfl _ _ 24 rfl 2 (.int .i64 0) 1 8 tI64 (.slice (some ⟨w.heap.size,0,none⟩) 0 0) 0 [] (some w.heap.size) rfl (by simpa using HR.out) oa xs.length c1 (xs.map (Value.int .i64)) rfl (by simp) hnone (Row.cells_ints HI.out) (by intro u hu;obtain ⟨x,_,rfl⟩:=List.mem_map.1 hu;rfl) (by omega) (by unfold maxLen;omega) ?_;intro v' w' og' happ;refine Stop.out ?_)
 rw [Nat.zero_add,List.nil_append] at happ
 obtain ⟨a1,a2,a3⟩:=happ
 have hbel:Below w.heap.size w w':=((Below.refl w.heap.size w).alloc (Nat.le_refl _) (.cells #[] 2)).trans (Below.of_grown a2 (by simp) (fun g hg => by cases hg;exact Nat.le_refl _))
 have hown:Own (RS RI) w.heap.size w'.heap.size w' [v'] xs:=by
  refine Row.OwnI (by simpa using a1) I1.bd (fun g hg => ?_)
  rcases a3 with a3|⟨b,a3,hb⟩
  ·rw [hg] at a3;cases a3;exact Nat.le_refl _
  ·rw [hg] at a3;cases a3;simp at hb;omega
 have HO:=Lib.hid hown
 obtain ⟨oa',cap',rfl,_⟩:=hown.val
 clear hown a1 a2 a3
 refine Stop.go ?_
 go_wp2_with fail
 go_ret
 exact ⟨_,rfl,HO.out,hbel⟩
end Go.Proofs.Ytedgfkpfhonlpaa
namespace Go.Proofs.Ytedgfkpfhonlpaa
open Go.RowKit
theorem StopAt {P:Program} {ops:Array Oper} {rest:List Oper} {o:Oper} {a:Act} {w:World} {Q:Exit→Act→World→Prop} (h:Stop (wpList P ops Q (o :: rest) a w)):wpList P ops Q (o :: rest) a w:=h
theorem enters {P:Program} {f:FuncId} {fn:Func} {c:Code} (hf:P.funcs[f]? = some fn) (hname:(fn.name == "runtime.NumGoroutine") = false) (hb:fn.body = some c):∀ args w,(callFunc f args).run P w = .ok (.enter f args) w :=
 enters_of hf hname hb
structure Lists {β:Type} (S:Rep β) (w:World) (v:Value) (xss:List (List β)) (oa:Option Addr) (cap:Nat):Prop where
 val:v = .slice oa xss.length cap
 le:xss.length ≤ cap
 capLe:cap ≤ 9223372036854775807
 noneCap:oa = none→cap = 0
 row:xss = [] ∨ ∃ b off,oa = some ⟨b,off,none⟩∧b < w.heap.size∧∀ j (h:j < xss.length),∃ oi ci,w.cell? ⟨b,off + j,none⟩ = some (.slice oi xss[j].length ci)∧Rd (RS S) w [.slice oi xss[j].length ci] xss[j]∧xss[j].length ≤ ci∧ci ≤ 9223372036854775807
theorem Rd.lists {β:Type} {S:Rep β} {w:World} {v:Value} {xss:List (List β)} (h:Rd (RS (RS S)) w [v] xss):∃ oa cap,Lists S w v xss oa cap:=by
 obtain ⟨oa,cap,ds,h1,h2,h3,h4,h5,h6⟩:=h
 refine ⟨oa,cap,by simpa using h1,h2,by unfold maxLen at h3;omega,h4,?_⟩
 rcases h6 with h6|⟨b,off,e,hb,hc⟩
 ·left
  have:=h5.len
  rw [h6] at this
  exact List.eq_nil_of_length_eq_zero (by simpa [show (RS S).k = 1 from rfl] using this.symm)
 ·refine .inr ⟨b,off,e,hb,fun j hj => ?_⟩
  obtain ⟨c,k1,k2⟩:=h5.get j hj
  have hl:=(RS S).rd_len k1
  match c,hl with
  | [u],_ =>
   obtain ⟨oi,ci,e2,e3,e4⟩:=Rd.val (R:=S) (v:=u) k1
   subst e2
   refine ⟨oi,ci,hc j _ ?_,k1,e3,by unfold maxLen at e4;omega⟩
   have:=k2 0 _ rfl
   simpa [show (RS S).k = 1 from rfl] using this
theorem Lists.get {β:Type} {S:Rep β} {w:World} {v:Value} {xss:List (List β)} {oa:Option Addr} {cap:Nat} (h:Lists S w v xss oa cap) {k:Nat} (hk:k < xss.length) :
  ∃ b off,oa = some ⟨b,off,none⟩∧b < w.heap.size∧∀ j (h:j < xss.length),∃ oi ci,w.cell? ⟨b,off + j,none⟩ = some (.slice oi xss[j].length ci)∧Rd (RS S) w [.slice oi xss[j].length ci] xss[j]∧xss[j].length ≤ ci∧ci ≤ 9223372036854775807:=by
 rcases h.row with h|h
 ·subst h;exact absurd hk (Nat.not_lt_zero _)
 ·exact h
section
variable {α:Type} {R:Rep α} {w:World}
theorem Appended.low {w w':World} {v':Value} {k n:Nat} {ds:List Value} {og og':Option Nat} {B:Nat} (h:Appended w w' v' k n ds og og') (hB:B ≤ w.heap.size) (hog:∀ g,og = some g→B ≤ g) :
  (∀ g,og' = some g→B ≤ g)∧Below B w w':=by
 refine ⟨fun g hg => ?_,h.below hB hog⟩
 rcases h.2.2 with h3|⟨b,h3,hb⟩
 ·exact hog g (by rw [← h3];exact hg)
 ·rw [hg] at h3;cases h3;omega
theorem Own.rebuild {w w':World} {v:Value} {xs:List α} {ds:List Value} {F:List Nat} {og:Option Nat} {lo:Nat} (hel:ownL R w ds xs F) (hF:F.Nodup) (hlt:∀ b,b ∈ F→lo ≤ b)
  (hb:Below w.heap.size w w') (hrow:Row w' v R.k xs.length ds og) (hog:∀ g,og = some g→w.heap.size ≤ g) (hlo:lo ≤ w.heap.size):Own (RS R) lo w'.heap.size w' [v] xs:=by
 refine Own.mk' hrow (hel.frame fun b hbm => hb.block b (hel.lt b hbm)) ?_ ?_
 ·refine List.nodup_append.2 ⟨by cases og <;> simp,hF,fun b hb1 b' hb2 e => ?_⟩
  subst e
  have:=hog b (by simpa using hb1)
  have:=hel.lt b hb2
  omega
 ·intro b hbm
  rcases List.mem_append.1 hbm with hbm|hbm
  ·have e:og = some b:=by simpa using hbm
   exact ⟨Nat.le_trans hlo (hog b e),hrow.lt b e⟩
  ·exact ⟨hlt b hbm,Nat.lt_of_lt_of_le (hel.lt b hbm) hb.size⟩
theorem Own.setElem {v:Value} {xs:List α} {lo hi:Nat} (h:Own (RS R) lo hi w [v] xs) (hk:R.k = 1) (i:Nat) (hi':i < xs.length) :
  ∃ g cap a,v = .slice (some ⟨g,0,none⟩) xs.length cap∧xs.length ≤ cap∧cap ≤ 9223372036854775807∧lo ≤ g∧g < hi∧g < w.heap.size∧w.cell? ⟨g,i,none⟩ = some a∧Own R lo hi w [a] xs[i] ∧
   ∀ (w1:World) (y:α) (u:Value) (M hi2:Nat),Own R M hi2 w1 [u] y→hi ≤ M→M ≤ hi2→Below hi w w1→w1.cell? ⟨g,i,none⟩ = some a∧w1.frozen? ⟨g,i,none⟩ = false∧Own (RS R) lo hi2 (w1.setCell ⟨g,i,none⟩ u) [v] (xs.set i y)∧Chg lo hi w1 (w1.setCell ⟨g,i,none⟩ u):=by
 obtain ⟨og,ds,F,hrow,hel,hF,hlt⟩:=h.open
 obtain ⟨g,rfl⟩:=hrow.some_of hi'
 obtain ⟨cap,hv,hc1,hc2⟩:=hrow.slice
 obtain ⟨d1,c0,d2,F1,G,F2,rfl,rfl,hd1,hL1,hx,hL2⟩:=hel.split i hi'
 have la:=R.rd_len (R.own_rd hx)
 rw [hk] at la hd1
 rw [Nat.mul_one] at hd1
 match c0,la with
 | [a],_ =>
  have hg:=hlt g (by simp)
  have hgs:=hrow.lt g rfl
  have hcell:w.cell? ⟨g,i,none⟩ = some a:=hrow.cells i a (by rw [List.getElem?_append_right (by omega),hd1];simp)
  refine ⟨g,cap,a,hv,hc1,by unfold maxLen at hc2;omega,hg.1,hg.2,hgs,hcell,⟨G,hx,?_,fun b hb => hlt b (by simp [hb])⟩,?_⟩
  ·exact (List.nodup_append.1 (List.nodup_append.1 (List.nodup_append.1 hF).2.1).2.1).1
  intro w1 y u M hi2 hy hiM hM2 hbel
  obtain ⟨Gy,hGy,hGyn,hGyl⟩:=hy
  have hrow1:Row w1 v R.k xs.length (d1 ++ ([a] ++ d2)) (some g):=hrow.frame (fun g' hg' => by cases hg';exact hbel.block g hg.2)
  obtain ⟨s1,r1⟩:=hrow1.store i u
  have hset:(d1 ++ ([a] ++ d2)).set i u = d1 ++ ([u] ++ d2):=by
   rw [List.set_append_right _ _ (by omega),hd1,Nat.sub_self];rfl
  rw [hset] at s1
  have hne:∀ z,z ∈ F1 ++ (G ++ F2)→z ≠ g:=by
   intro z hz e;subst e
   exact (List.nodup_append.1 hF).2.2 z (by simp) z hz rfl
  have hfr:∀ z,z ∈ F1 ++ (G ++ F2)→(w1.setCell ⟨g,i,none⟩ u).heap[z]? = w.heap[z]?:=by
   intro z hz
   rw [heap_setCell_other _ ⟨g,i,none⟩ z u (hne z hz)]
   exact hbel.block z (hlt z (List.mem_append_right _ hz)).2
  have hGf:∀ z,z ∈ Gy→(w1.setCell ⟨g,i,none⟩ u).heap[z]? = w1.heap[z]?:=by
   intro z hz
   have:=(hGyl z hz).1
   exact heap_setCell_other _ ⟨g,i,none⟩ z u (by show z ≠ g;omega)
  have hjoin:=ownL.join (R:=R) hi' (hL1.frame fun z hz => hfr z (by simp [hz])) (R.own_frame hGy hGf) (hL2.frame fun z hz => hfr z (by simp [hz]))
  refine ⟨hrow1.cells i a (by rw [List.getElem?_append_right (by omega),hd1];simp),hrow1.frozen i,?_,Chg.of_grown r1 (fun z hz => by cases hz;exact hg)⟩
  refine Own.mk' (og:=some g) (ds:=d1 ++ ([u] ++ d2)) (by rw [List.length_set];exact s1) hjoin ?_ ?_
  ·have hb:(F1 ++ F2).Nodup:=(List.nodup_append.1 hF).2.1.sublist (List.Sublist.append (List.Sublist.refl _) (List.sublist_append_right _ _))
   have hb1:=List.nodup_append.1 hb
   have hab:∀ z,z ∈ Gy→z ∉ F1 ++ F2∧z ≠ g:=by
    intro z hz
    have h1:=(hGyl z hz).1
    refine ⟨fun hm => ?_,by omega⟩
    have:=(hlt z (by
     rcases List.mem_append.1 hm with hm|hm
     ·simp [hm]
     ·simp [hm])).2
    omega
   simp only [Option.toList_some,List.singleton_append,List.nodup_cons]
   constructor
   ·intro hm
    simp only [List.mem_append] at hm
    rcases hm with hm|hm|hm
    ·exact hne g (by simp [hm]) rfl
    ·exact (hab g hm).2 rfl
    ·exact hne g (by simp [hm]) rfl
   ·refine List.nodup_append.2 ⟨hb1.1,List.nodup_append.2 ⟨hGyn,hb1.2.1,fun z hz z' hz' e => ?_⟩,fun z hz z' hz' e => ?_⟩
    ·subst e;exact (hab z hz).1 (by simp [hz'])
    ·subst e
     rcases List.mem_append.1 hz' with hz'|hz'
     ·exact (hab z hz').1 (by simp [hz])
     ·exact hb1.2.2 z hz z hz' rfl
  ·intro z hz
   simp only [List.mem_append,Option.mem_toList,Option.some.injEq] at hz
   rcases hz with hz|hz|hz|hz
   ·subst hz;omega
   ·have:=hlt z (by simp [hz]);omega
   ·have:=hGyl z hz;omega
   ·have:=hlt z (by simp [hz]);omega
end
theorem Row.some_val {w:World} {k n:Nat} {ds:List Value} {og:Option Nat} {g m cap:Nat} (h:Row w (.slice (some ⟨g,0,none⟩) m cap) k n ds og):og = some g:=by
 rcases h.2 with ⟨e,_⟩|⟨g',c,cur,ty,e,rfl,_⟩
 ·cases e
 ·simp only [Value.slice.injEq,Option.some.injEq,Addr.mk.injEq,and_true] at e
  rw [e.1]
theorem Own.insRow {α:Type} {R:Rep α} {W:World} {xs:List α} {x:α} {u:Value} {lo M hi2 g cap:Nat} (ho:Own (RS R) lo M W [.slice (some ⟨g,0,none⟩) xs.length cap] xs) (hk:R.k = 1) (hM:M ≤ W.heap.size) (hlo:lo ≤ M)
  (hx:Own R M hi2 W [u] x) (j:Nat) (hj:j ≤ xs.length) :
  ∃ d1 d2,d1.length = j∧d2.length = xs.length - j∧(∀ u ∈ d1,u.oneCell' = true)∧(∀ u ∈ d2,u.oneCell' = true)∧u.oneCell' = true ∧
   (∀ w',Below W.heap.size W w'→(∀ i u,d1[i]? = some u→w'.cell? ⟨g,i,none⟩ = some u)∧(∀ i u,d2[i]? = some u→w'.cell? ⟨g,j + i,none⟩ = some u)) ∧
   (∀ w' v' og',Below W.heap.size W w'→Row w' v' 1 (xs.length + 1) (d1 ++ (u :: d2)) og'→(∀ b,og' = some b→W.heap.size ≤ b)→Own (RS R) lo w'.heap.size w' [v'] (xs.take j ++ x :: xs.drop j)):=by
 obtain ⟨og,ds,F,hrow,hel,hF,hlt⟩:=ho.open
 obtain rfl:=hrow.some_val
 have hel':=hel
 rw [← List.take_append_drop j xs] at hel'
 obtain ⟨d1,d2,F1,F2,rfl,rfl,h1,h2⟩:=ownL.unappend hel'
 obtain ⟨G,hG,hGn,hGl⟩:=hx
 have l1:d1.length = j:=by rw [h1.len,hk,List.length_take];omega
 have l2:d2.length = xs.length - j:=by rw [h2.len,hk,List.length_drop];omega
 refine ⟨d1,d2,l1,l2,h1.one,h2.one,R.rd_one (R.own_rd hG) u (by simp),fun w' hb => ?_,fun w' v' og' hb hr hog => ?_⟩
 ·have hg:=hrow.lt g rfl
  refine ⟨fun i u hi => ?_,fun i u hi => ?_⟩
  ·rw [hb.cell (p:=⟨g,i,none⟩) hg]
   exact hrow.cells i u (by rw [List.getElem?_append_left (List.getElem?_eq_some_iff.1 hi).1];exact hi)
  ·rw [hb.cell (p:=⟨g,j + i,none⟩) hg]
   refine hrow.cells (j + i) u ?_
   rw [List.getElem?_append_right (by omega),l1,show j + i - j = i by omega];exact hi
 ·have hn:=(List.nodup_append.1 hF).2.1
  have hn2:=List.nodup_append.1 hn
  refine Own.rebuild (w:=W) (ds:=d1 ++ (u :: d2)) (F:=F1 ++ (G ++ F2)) (h1.append ⟨[u],d2,G,F2,rfl,rfl,hG,h2⟩) ?_ ?_ hb ?_ hog (by omega)
  ·refine List.nodup_append.2 ⟨hn2.1,List.nodup_append.2 ⟨hGn,hn2.2.1,fun a ha b hb e => ?_⟩,fun a ha b hb e => ?_⟩
   ·subst e
    have:=hGl a ha;have:=hlt a (by simp [hb]);omega
   ·subst e
    rcases List.mem_append.1 hb with hb|hb
    ·have:=hGl a hb;have:=hlt a (by simp [ha]);omega
    ·exact hn2.2.2 a ha a hb rfl
  ·intro b hb
   simp only [List.mem_append] at hb
   rcases hb with hb|hb|hb
   ·exact (hlt b (by simp [hb])).1
   ·have:=(hGl b hb).1;omega
   ·exact (hlt b (by simp [hb])).1
  ·have e:(xs.take j ++ x :: xs.drop j).length = xs.length + 1:=by simp;omega
   rw [e,hk];exact hr
theorem ins_at {α:Type} {c:α→α→Int} {x:α}:∀ {l:List α} {k:Nat},k ≤ l.length→(∀ j (h:j < l.length),j < k→¬ c x l[j] < 0)→(∀ h:k < l.length,c x l[k] < 0)→ins c x l = l.take k ++ x :: l.drop k
 | [],k,_,_,_ => by simp [ins]
 | y :: l,0,_,_,h => by
  have:=h (by simp)
  simp only [List.getElem_cons_zero] at this
  simp [ins,this]
 | y :: l,k + 1,hk,h1,h2 => by
  have h0:=h1 0 (by simp) (by omega)
  simp only [List.getElem_cons_zero] at h0
  unfold ins
  rw [if_neg h0,ins_at (k:=k) (by simpa using hk) (fun j hj hjk => by have:=h1 (j + 1) (by simpa using hj) (by omega);simpa using this) (fun h => by have:=h2 (by simpa using h);simpa using this)]
  simp
end Go.Proofs.Ytedgfkpfhonlpaa
namespace Go.Proofs.Ytedgfkpfhonlpaa
open Go.RowKit
def CmpAsk (P:Program) (g:Nat) (c:List Int→List Int→Int) (ok:List Int→Prop):Prop :=
 ∀ (w:World) (h1 h2:Value) (x y:List Int),Rd (RS RI) w [h1] x→Rd (RS RI) w [h2] y→ok x→ok y→Calls P g #[h1,h2] w (RetS w (.int .i64 (c x y)))
theorem CmpAsk.q {P:Program} {g:Nat} {c:List Int→List Int→Int} {ok:List Int→Prop} (h:CmpAsk P g c ok) {w:World} {h1 h2:Value} {x y:List Int} (r1:Rd (RS RI) w [h1] x) (r2:Rd (RS RI) w [h2] y) (o1:ok x) (o2:ok y) (n:Nat) :
  Calls P g #[h1,h2] (w.drewN n) fun e w'' => e = .returned (.int .i64 (c x y))∧∃ m,w'' = w.drewN m :=
 Calls.qS (h (w.drewN n) h1 h2 x y (r1.of_heap rfl) (r2.of_heap rfl) o1 o2)
set_option maxHeartbeats 16000000 in
set_option maxRecDepth 1000000 in
theorem c_insertionSort (g:Nat) (c:List Int→List Int→Int) (hc:Cmp c) (ok:List Int→Prop) (eg:∀ args w,(callFunc g args).run Try.prog w = .ok (.enter g args) w) (hcmp:CmpAsk Try.prog g c ok)
  (a b:Nat) (v:Value) (xs:List (List Int)) (lo hi:Nat) (w:World) (ho:Own (RS (RS RI)) lo hi w [v] xs) (hok:∀ x ∈ xs,ok x) (hab:a ≤ b) (hb:b ≤ xs.length) (hsz:xs.length ≤ 1000000000) :
  Calls Try.prog 100 #[v,.int .i64 a,.int .i64 b,.func (.func g) #[] #[]] w fun e w' => e = .returned (.tuple #[])∧∃ ys,PermIn a b xs ys∧SegOk c a b ys∧Own (RS (RS RI)) lo hi w' [v] ys∧Chg lo hi w w':=by
 obtain ⟨oa,cap,rfl,hv1,hv2⟩:=ho.val
 have mixed:Try.prog.follows Departure.mixedOrders = true:=by kernel_rfl
 have HC:=Lib.hid hc
 have HQ:=Lib.hid hcmp
 have HK:=Lib.hid hok
 have S0:Hid (Own (RS (RS RI)) lo hi w [.slice oa xs.length cap] xs):=ho
 clear hc hcmp hok ho
 go_enter Try.func100,Try.ntmps100
 go_wp2_with fail
 go_loopg [8] (b - a) (fun g1 vi wr => ∃ (i:Nat) (ys:List (List Int)),vi = .int .i64 i∧a < i∧i ≤ b + 1∧b + 1 - i ≤ g1 + 1∧Hid (PermIn a b xs ys∧SegOk c a i ys∧Own (RS (RS RI)) lo hi wr [.slice oa xs.length cap] ys∧Chg lo hi w wr))
 case atStart => exact ⟨a + 1,xs,by go_num,by omega,by omega,by omega,Lib.hid ⟨PermIn.refl _ _ _,fun p q _ _ h1 h2 h3 => by omega,S0.out,Chg.refl _ _ _⟩⟩
 case round =>
  clear S0
  obtain ⟨i,ys,rfl,hai,hib,hg1,HO⟩:=hrel
  by_cases hlt:i < b
  ·have hltz:(i:Int) < (b:Int):=by omega
   have HO2:Hid (PermIn a b xs ys∧SinkOk c a i i ys∧Own (RS (RS RI)) lo hi wr [.slice oa xs.length cap] ys∧Chg lo hi w wr):=Lib.hid ⟨HO.out.1,HO.out.2.1.sink,HO.out.2.2.1,HO.out.2.2.2⟩
   clear HO
   go_wp2_with fail
   go_loopg [9] i (fun g2 vj wr2 => ∃ (j:Nat) (zs:List (List Int)),vj = .int .i64 j∧a ≤ j∧j ≤ i∧j ≤ g2∧Hid (PermIn a b xs zs∧SinkOk c a i j zs∧Own (RS (RS RI)) lo hi wr2 [.slice oa xs.length cap] zs∧Chg lo hi w wr2))
   case atStart => exact ⟨i,ys,rfl,by omega,Nat.le_refl _,Nat.le_refl _,HO2⟩
   case round =>
    clear HO2
    obtain ⟨j,zs,rfl,haj,hji,hg2,HJ⟩:=hrel
    have hzl:zs.length = xs.length:=HJ.out.1.len
    have hjl:j < zs.length:=by omega
    by_cases hja:a < j
    ·have hjaz:(a:Int) < (j:Int):=by omega
     obtain ⟨jp,hjp⟩:∃ q,q + 1 = j:=⟨j - 1,by omega⟩
     subst hjp
     have hjad:decide ((jp:Int) + 1 > (a:Int)) = true:=decide_eq_true (by omega)
     have hjaz':(a:Int) < (jp:Int) + 1:=by omega
     obtain ⟨gb,cap',u1,u2,hv,_,_,hgb,k1,k2,f1,f2,r1,r2,k3,hsw,hch⟩:=HJ.out.2.2.1.swap (R:=RS RI) rfl jp (jp + 1) (Nat.lt_succ_self _) hjl
     rw [hzl] at hv
     simp only [Value.slice.injEq,true_and] at hv
     obtain ⟨rfl,rfl⟩:=hv
     have hq:=HQ.out.q r2 r1 (HK.out _ (HJ.out.1.perm.mem_iff.1 (List.getElem_mem _))) (HK.out _ (HJ.out.1.perm.mem_iff.1 (List.getElem_mem _)))
     have ea:((jp:Int) + 1).toNat = jp + 1:=by omega
     have pa:(0:Int) ≤ (jp:Int) + 1:=by omega
     have ba:(jp:Int) + 1 < (xs.length:Int):=by omega
     have ra:IntKind.i64.wrap ((jp:Int) + 1) = (jp:Int) + 1:=by rw [IntKind.wrap_i64];omega
     have ec:((jp:Int)).toNat = jp:=by omega
     have pc:(0:Int) ≤ (jp:Int):=by omega
     have bc:(jp:Int) < (xs.length:Int):=by omega
     have rc:IntKind.i64.wrap ((jp:Int)) = (jp:Int):=by rw [IntKind.wrap_i64];omega
     obtain ⟨d,hd⟩:∃ d,d = c zs[jp + 1] zs[jp]:=⟨_,rfl⟩
     rw [← hd] at hq
     have S3:Hid (Own (RS (RS RI)) lo hi (((wr.setCell ⟨gb,jp + 1,none⟩ u1).setCell ⟨gb,jp,none⟩ u2)) [.slice (some ⟨gb,0,none⟩) xs.length cap] (swpL zs jp (jp + 1))∧Chg lo hi wr ((wr.setCell ⟨gb,jp + 1,none⟩ u1).setCell ⟨gb,jp,none⟩ u2)):=Lib.hid ⟨hsw,hch⟩
     obtain ⟨o1,p1,rfl,_⟩:=r1.val
     obtain ⟨o2,p2,rfl,_⟩:=r2.val
     obtain ⟨l1,hl1⟩:∃ l,l = zs[jp].length:=⟨_,rfl⟩
     obtain ⟨l2,hl2⟩:∃ l,l = zs[jp + 1].length:=⟨_,rfl⟩
     rw [← hl1] at hq k1 k3 S3
     rw [← hl2] at hq k2 S3
     clear hsw hch r1 r2 hl1 hl2
     by_cases hlv:d < 0
     ·have hdd:decide (d < 0) = true:=decide_eq_true hlv
      have HD:=Lib.hid hd
      clear hd
      go_wp2_with fail
      go_quiet ((go_at_fn g;exact hq _))
      clear hq
      have k1':(wr.drewN nq).cell? ⟨gb,jp,none⟩ = some (.slice o1 l1 p1):=k1
      have k2':(wr.drewN nq).cell? ⟨gb,jp + 1,none⟩ = some (.slice o2 l2 p2):=k2
      have k3':((wr.drewN nq).setCell ⟨gb,jp + 1,none⟩ (.slice o1 l1 p1)).cell? ⟨gb,jp,none⟩ = some (.slice o1 l1 p1):=k3
      have f1':(wr.drewN nq).frozen? ⟨gb,jp,none⟩ = false:=f1
      have f2':(wr.drewN nq).frozen? ⟨gb,jp + 1,none⟩ = false:=f2
      have S4:Hid (Own (RS (RS RI)) lo hi ((((wr.drewN nq).setCell ⟨gb,jp + 1,none⟩ (.slice o1 l1 p1)).setCell ⟨gb,jp,none⟩ (.slice o2 l2 p2))) [.slice (some ⟨gb,0,none⟩) xs.length cap] (swpL zs jp (jp + 1))∧Chg lo hi w (((wr.drewN nq).setCell ⟨gb,jp + 1,none⟩ (.slice o1 l1 p1)).setCell ⟨gb,jp,none⟩ (.slice o2 l2 p2))):=Lib.hid ⟨S3.out.1.of_heap rfl,(HJ.out.2.2.2.trans S3.out.2).of_heap rfl rfl rfl rfl⟩
      clear k1 k2 k3 f1 f2 S3
      generalize wr.drewN nq = w2 at k1' k2' k3' f1' f2' S4 ⊢
      clear nq
      go_wp2_with fail
      go_big_region_o
      clear k1' k2' k3' f1' f2'
      go_wp2_with fail
      go_roundg jp
      case measure => omega
      case rel =>
       refine ⟨jp,swpL zs jp (jp + 1),by first|rfl|go_num|(congr 1;omega),by omega,by omega,Nat.le_refl _,Lib.hid ⟨HJ.out.1.trans (PermIn.swp zs jp (jp + 1) (Nat.lt_succ_self _) hjl (by omega) (by omega)),?_,S4.out.1.of_heap rfl,S4.out.2.of_heap rfl rfl rfl rfl⟩⟩
       exact HJ.out.2.1.swap (by omega) hji hjl (by have:=HD.out;simp only [Nat.add_sub_cancel];omega)
     ·have hdd:decide (d < 0) = false:=decide_eq_false hlv
      have HD:=Lib.hid hd
      clear hd
      go_wp2_with fail
      go_quiet ((go_at_fn g;exact hq _))
      go_wp2_with fail
      go_roundg (b - (i + 1))
      case measure => omega
      case rel =>
       refine ⟨i + 1,zs,by go_num,by omega,by omega,by omega,Lib.hid ⟨HJ.out.1,?_,HJ.out.2.2.1.of_heap rfl,HJ.out.2.2.2.of_heap rfl rfl rfl rfl⟩⟩
       exact HJ.out.2.1.done HC.out hjl (.inr (by have:=HD.out;simp only [Nat.add_sub_cancel];omega)) hji
    ·have hjaz:¬ (a:Int) < (j:Int):=by omega
     have hjad:decide ((j:Int) > (a:Int)) = false:=decide_eq_false (by omega)
     go_wp2_with fail
     go_quiet (fail)
     go_wp2_with fail
     go_roundg (b - (i + 1))
     case measure => omega
     case rel =>
      refine ⟨i + 1,zs,by go_num,by omega,by omega,by omega,Lib.hid ⟨HJ.out.1,?_,HJ.out.2.2.1.of_heap rfl,HJ.out.2.2.2.of_heap rfl rfl rfl rfl⟩⟩
      exact HJ.out.2.1.done HC.out hjl (.inl (by omega)) hji
  ·go_wp2_with fail
   go_end0
   refine ⟨rfl,ys,HO.out.1,fun p q hp hq h1 h2 h3 => HO.out.2.1 p q hp hq h1 h2 (by omega),HO.out.2.2.1,HO.out.2.2.2⟩
end Go.Proofs.Ytedgfkpfhonlpaa
namespace Go.Proofs.Ytedgfkpfhonlpaa
open Go.RowKit
def Sorts (c:List Int→List Int→Int) (v:Value) (xs:List (List Int)) (lo hi:Nat) (w:World):Ending→World→Prop :=
 fun e w' => e = .returned (.tuple #[])∧Own (RS (RS RI)) lo hi w' [v] (sortC c xs)∧Chg lo hi w w'
set_option maxRecDepth 100000 in
set_option maxHeartbeats 1000000 in
theorem c_bitsLen64 (n:Nat) (hn:n ≤ 12) (w:World):Calls Try.prog 109 #[.int .u64 n] w fun e w' => (∃ k:Int,e = .returned (.int .i64 k))∧w = w':=by
 have h:n = 0 ∨ n = 1 ∨ n = 2 ∨ n = 3 ∨ n = 4 ∨ n = 5 ∨ n = 6 ∨ n = 7 ∨ n = 8 ∨ n = 9 ∨ n = 10 ∨ n = 11 ∨ n = 12:=by omega
 rcases h with rfl|rfl|rfl|rfl|rfl|rfl|rfl|rfl|rfl|rfl|rfl|rfl|rfl
 all_goals
  go_enter Try.func109,Try.ntmps109
  go_wp2_with fail
  go_ret
  exact ⟨⟨_,rfl⟩,rfl⟩
set_option maxRecDepth 100000 in
set_option maxHeartbeats 1000000 in
theorem c_bitsLen (n:Nat) (hn:n ≤ 12) (w:World):Calls Try.prog 94 #[.int .u64 n] w fun e w' => (∃ k:Int,e = .returned (.int .i64 k))∧w = w':=by
 have hb:=c_bitsLen64 n hn
 go_enter Try.func94,Try.ntmps94
 go_wp2_with (go_at_call 109;refine (hb _).mono ?_;rintro e w' ⟨⟨k,rfl⟩,rfl⟩)
 go_ret
 exact ⟨⟨_,rfl⟩,rfl⟩
set_option maxRecDepth 100000 in
set_option maxHeartbeats 4000000 in
theorem c_pdqsort (g:Nat) (c:List Int→List Int→Int) (hc:Cmp c) (ok:List Int→Prop) (eg:∀ args w,(callFunc g args).run Try.prog w = .ok (.enter g args) w) (hcmp:CmpAsk Try.prog g c ok)
  (v:Value) (xs:List (List Int)) (k:Int) (lo hi:Nat) (w:World) (ho:Own (RS (RS RI)) lo hi w [v] xs) (hok:∀ x ∈ xs,ok x) (hsz:xs.length ≤ 12) :
  Calls Try.prog 93 #[v,.int .i64 0,.int .i64 xs.length,.int .i64 k,.func (.func g) #[] #[]] w (Sorts c v xs lo hi w):=by
 have hi:=c_insertionSort g c hc ok eg hcmp 0 xs.length v xs lo hi w ho hok (Nat.zero_le _) (Nat.le_refl _) (by omega)
 have HC:=Lib.hid hc
 clear hcmp hok ho eg hc
 go_enter Try.func93,Try.ntmps93
 go_wp2_with fail
 go_loopw [1,2] (fun a b wr => a = .int .i64 0∧b = .int .i64 xs.length∧wr = w) (fun _ _ _ => 0)
 case atStart => exact ⟨rfl,rfl,rfl⟩
 case round =>
  obtain ⟨rfl,rfl,rfl⟩:=hrel
  go_wp2_with (go_at_call 100;refine hi.mono ?_;rintro e w' ⟨rfl,ys,h1,h2,h3,h4⟩)
  go_end0
  refine ⟨rfl,?_,h4⟩
  rw [← sortC_unique HC.out h1.perm (h2.pairwise (by rw [h1.len];exact Nat.le_refl _))]
  exact h3
set_option maxRecDepth 100000 in
set_option maxHeartbeats 1000000 in
theorem c_SortFunc (g:Nat) (c:List Int→List Int→Int) (hc:Cmp c) (ok:List Int→Prop) (eg:∀ args w,(callFunc g args).run Try.prog w = .ok (.enter g args) w) (hcmp:CmpAsk Try.prog g c ok)
  (v:Value) (xs:List (List Int)) (lo hi:Nat) (w:World) (ho:Own (RS (RS RI)) lo hi w [v] xs) (hok:∀ x ∈ xs,ok x) (hsz:xs.length ≤ 12) :
  Calls Try.prog 76 #[v,.func (.func g) #[] #[]] w (Sorts c v xs lo hi w):=by
 obtain ⟨oa,cap,rfl,hv1,hv2⟩:=ho.val
 have hb:=c_bitsLen xs.length hsz
 have hp:=fun k => c_pdqsort g c hc ok eg hcmp _ xs k lo hi w ho hok hsz
 have hw:IntKind.u64.wrap (xs.length:Int) = xs.length:=by simp [IntKind.wrap,IntKind.bits,IntKind.signed];omega
 clear hcmp hok ho eg hc
 go_enter Try.func76,Try.ntmps76
 go_wp2_with (first|(go_at_call 94;refine (hb _).mono ?_;rintro e w' ⟨⟨k,rfl⟩,rfl⟩)|(go_at_call 93;refine (hp _).mono ?_;rintro e w' ⟨rfl,h1,h2⟩))
 go_end0
 exact ⟨rfl,h1,h2⟩
set_option maxRecDepth 100000 in
set_option maxHeartbeats 4000000 in
theorem c_stableCmp (g:Nat) (c:List Int→List Int→Int) (hc:Cmp c) (ok:List Int→Prop) (eg:∀ args w,(callFunc g args).run Try.prog w = .ok (.enter g args) w) (hcmp:CmpAsk Try.prog g c ok)
  (v:Value) (xs:List (List Int)) (lo hi:Nat) (w:World) (ho:Own (RS (RS RI)) lo hi w [v] xs) (hok:∀ x ∈ xs,ok x) (hsz:xs.length ≤ 19) :
  Calls Try.prog 96 #[v,.int .i64 xs.length,.func (.func g) #[] #[]] w (Sorts c v xs lo hi w):=by
 have hi:=c_insertionSort g c hc ok eg hcmp 0 xs.length v xs lo hi w ho hok (Nat.zero_le _) (Nat.le_refl _) (by omega)
 have HC:=Lib.hid hc
 clear hcmp hok ho eg hc
 go_enter Try.func96,Try.ntmps96
 go_wp2_with fail
 go_loopw [7,8] (fun a b wr => a = .int .i64 0∧b = .int .i64 20∧wr = w) (fun _ _ _ => 0)
 case atStart => exact ⟨rfl,rfl,rfl⟩
 case round =>
  obtain ⟨rfl,rfl,rfl⟩:=hrel
  go_wp2_with (go_at_call 100;refine hi.mono ?_;rintro e w' ⟨rfl,ys,h1,h2,h3,h4⟩)
  go_loopw [6] (fun a wr => a = .int .i64 20∧wr = w') (fun _ _ => 0)
  case atStart => exact ⟨rfl,rfl⟩
  case round =>
   obtain ⟨rfl,rfl⟩:=hrel
   go_wp2_with fail
   go_end0
   refine ⟨rfl,?_,h4⟩
   rw [← sortC_unique HC.out h1.perm (h2.pairwise (by rw [h1.len];exact Nat.le_refl _))]
   exact h3
set_option maxRecDepth 100000 in
set_option maxHeartbeats 1000000 in
theorem c_SortStable (g:Nat) (c:List Int→List Int→Int) (hc:Cmp c) (ok:List Int→Prop) (eg:∀ args w,(callFunc g args).run Try.prog w = .ok (.enter g args) w) (hcmp:CmpAsk Try.prog g c ok)
  (v:Value) (xs:List (List Int)) (lo hi:Nat) (w:World) (ho:Own (RS (RS RI)) lo hi w [v] xs) (hok:∀ x ∈ xs,ok x) (hsz:xs.length ≤ 19) :
  Calls Try.prog 80 #[v,.func (.func g) #[] #[]] w (Sorts c v xs lo hi w):=by
 obtain ⟨oa,cap,rfl,hv1,hv2⟩:=ho.val
 have hp:=c_stableCmp g c hc ok eg hcmp _ xs lo hi w ho hok hsz
 clear hcmp hok ho eg hc
 go_enter Try.func80,Try.ntmps80
 go_wp2_with (go_at_call 96;refine hp.mono ?_;rintro e w' ⟨rfl,h1,h2⟩)
 go_end0
 exact ⟨rfl,h1,h2⟩
end Go.Proofs.Ytedgfkpfhonlpaa
namespace Go.Proofs.Ytedgfkpfhonlpaa
open Go.RowKit
def Small (bs:List (List Int)):Prop:=∀ b ∈ bs,∀ x ∈ b,0 ≤ x∧x ≤ 1000000000
theorem LevP.small {t:List Int} (h:LevP t) (hl:t.length ≤ 1000000000):∀ x ∈ t,0 ≤ x∧x ≤ 1000000000:=by
 intro x hx
 obtain ⟨i,hi,rfl⟩:=List.getElem_of_mem hx
 have:=h.bd i hi
 omega
theorem Small.of_lev {bs:List (List Int)} (h:∀ b ∈ bs,LevP b) (hl:sumLen bs ≤ 1000000000):Small bs:=fun b hb => (h b hb).small (Nat.le_trans (sumLen_mem hb) hl)
theorem sumLen_take (bs:List (List Int)) (k:Nat):sumLen (bs.take k) ≤ sumLen bs:=by
 have h:sumLen bs = sumLen (bs.take k) + sumLen (bs.drop k):=by rw [← sumLen_append,List.take_append_drop]
 omega
theorem rootOn_take_succ (bs:List (List Int)) (k:Nat) (h:k < bs.length):rootOn (bs.take (k + 1)) = rootOn (bs.take k) ++ bs[k].map (· + 1):=by
 rw [List.take_succ_eq_append_getElem h,rootOn_snoc]
theorem sumLen_take_get (bs:List (List Int)) (k:Nat) (h:k < bs.length):sumLen (bs.take k) + bs[k].length ≤ sumLen bs:=by
 have:=sumLen_take bs (k + 1)
 rw [List.take_succ_eq_append_getElem h,sumLen_append] at this
 simpa [sumLen] using this
theorem map_take_snoc (b:List Int) (m:Nat) (h:m < b.length):(b.take (m + 1)).map (· + 1) = (b.take m).map (· + 1) ++ [b[m] + 1]:=by
 rw [List.take_succ_eq_append_getElem h,List.map_append];rfl
theorem Own.lit1 {w:World} (e:TypeId) (lo:Nat) (x:Int) (hx:In64 x) (h:lo ≤ w.heap.size):Own (RS RI) lo (w.heap.size + 1) (w.alloc (.cells #[.int .i64 x] e)) [.slice (some ⟨w.heap.size,0,none⟩) 1 1] [x] :=
 Row.OwnIh (og:=some w.heap.size) (by simpa using Row.lit w #[.int .i64 x] e 1 1 (by decide) (by simp)) (by simpa using hx) (fun g hg => by cases hg;omega)
set_option maxRecDepth 100000 in
set_option maxHeartbeats 1000000 in
theorem c_impl_rootOn (v:Value) (bs:List (List Int)) (w:World) (h:Rd (RS (RS RI)) w [v] bs) (hs:Small bs) (hsz:sumLen bs ≤ 1000000000) :
  Calls Try.prog 51 #[v] w (RetO (RS RI) w (rootOn bs)):=by
 obtain ⟨oa,cap,L⟩:=h.lists
 obtain rfl:=L.val
 have m1:=L.le;have m2:=L.capLe
 have HS:=Lib.hid hs
 have HL:=Lib.hid L
 clear hs L h
 go_enter Try.func51,Try.ntmps51
 go_wp2_with fail
 go_loopw [3,11] (fun o i wr => ∃ (k:Nat) (r:List Int),k ≤ bs.length∧i = .int .i64 k∧Hid (r = rootOn (bs.take k))∧(∃ oa cap,o = .slice oa r.length cap)∧Hid (Own (RS RI) w.heap.size wr.heap.size wr [o] r)∧Below w.heap.size w wr) (fun _ i _ => bs.length - (intOf i).toNat)
 case atStart => exact ⟨0,[0],Nat.zero_le _,rfl,Lib.hid rfl,⟨_,_,rfl⟩,Lib.hid ((Own.lit1 (w:=w) 2 w.heap.size 0 (by unfold In64;omega) (Nat.le_refl _)).top _ (by simp)),(Below.refl _ _).alloc (Nat.le_refl _) _⟩
 case round =>
  obtain ⟨k,r,hk,rfl,hr,⟨o1,cap1,rfl⟩,hown,hbel⟩:=hrel
  have hsz1:=hbel.size
  obtain ⟨wo,hwo⟩:∃ wo:World,wo = wr:=⟨_,rfl⟩
  subst hwo
  by_cases hlt:k < bs.length
  ·obtain ⟨b,off,rfl,hb,hc⟩:=HL.out.get hlt
   obtain ⟨oi,ci,g1,hrd,q1,q2⟩:=hc k hlt
   have g2:wo.cell? ⟨b,off + k,none⟩ = some (.slice oi bs[k].length ci):=(hbel.cell (p:=⟨b,off + k,none⟩) hb).trans g1
   obtain ⟨x,hx⟩:∃ x,x = bs[k]:=⟨_,rfl⟩
   have hsm:∀ y ∈ x,0 ≤ y∧y ≤ 1000000000:=by rw [hx];exact HS.out _ (List.getElem_mem hlt)
   have hlen:=sumLen_take_get bs k hlt
   have hrl:=rootOn_len (bs.take k)
   have hnx:=rootOn_take_succ bs k hlt
   rw [← hx] at g2 hrd q1 hlen hnx
   obtain ⟨oa2,c2,I⟩:=hrd.ints
   rw [← hr.out] at hrl hnx
   have hval:=I.val
   simp only [Value.slice.injEq,true_and] at hval
   obtain ⟨rfl,rfl⟩:=hval
   have HI:=Lib.hid I
   have HN:=Lib.hid hnx
   have HX:=Lib.hid hx
   have hrb:r.length + x.length ≤ 1000000001:=by omega
   clear hc g1 hx hrd I hnx hrl hlen
   go_wp2_with fail
   go_loopw [3,17] (fun o i wr => ∃ (m:Nat) (z:List Int),m ≤ x.length∧i = .int .i64 m∧Hid (z = r ++ (x.take m).map (· + 1))∧(∃ oa cap,o = .slice oa z.length cap)∧Hid (Own (RS RI) w.heap.size wr.heap.size wr [o] z)∧Below w.heap.size w wr) (fun _ i _ => x.length - (intOf i).toNat)
   case atStart => exact ⟨0,r,Nat.zero_le _,rfl,Lib.hid (by simp),⟨o1,cap1,rfl⟩,hown,hbel⟩
   case round =>
    obtain ⟨m,z,hm,rfl,hz,⟨o2,cap2,rfl⟩,hown2,hbel2⟩:=hrel
    have hsz2:=hbel2.size
    by_cases hlt2:m < x.length
    ·obtain ⟨b2,off2,rfl,hb2,hc2⟩:=HI.out.get hlt2
     have g3:wr.cell? ⟨b2,off2 + m,none⟩ = some (.int .i64 x[m]):=(hbel2.cell (p:=⟨b2,off2 + m,none⟩) hb2).trans (hc2 m hlt2)
     have hy:=hsm x[m] (List.getElem_mem hlt2)
     obtain ⟨y1,y2⟩:=hy
     have hms:=map_take_snoc x m hlt2
     obtain ⟨y,hy⟩:∃ y,y = x[m]:=⟨_,rfl⟩
     rw [← hy] at g3 y1 y2 hms
     have hll:z.length ≤ 1000000002:=by rw [hz.out];simp;omega
     have hw1:IntKind.i64.wrap (y + 1) = y + 1:=IntWalk.i64_in _ (by omega)
     have HM:=Lib.hid hms
     clear hc2 hy hms hsm
     go_wp2_with (at_builtin;refine StopAt (o:=⟨some 25,_,_,_,_,_⟩) ?_)
     refine Stop.go ?_
     refine wpList_snoc (o:=⟨some 25,_,_,_,_,_⟩) (w:=wr) (R:=RI) rfl _ _ 24 rfl 2 (.int .i64 0) 1 8 tI64 rfl (.slice o2 z.length cap2) z (y + 1) [.int .i64 (y + 1)] w.heap.size wr.heap.size wr.heap.size rfl hown2.out (Own.int ⟨by omega,by omega⟩) (Nat.le_refl _) hsz2 2 rfl rfl (by omega) (by omega) ?_
     intro oa1 cap1 w1 hown1 c1a c1b hbel1
     have hb3:=hbel2.trans hbel1
     obtain ⟨z',hz'⟩:∃ z',z' = z ++ [y + 1]:=⟨_,rfl⟩
     have HZ:Hid (z' = r ++ (x.take (m + 1)).map (· + 1)):=Lib.hid (by rw [hz',hz.out,HM.out,List.append_assoc])
     have e1:z.length + 1 = z'.length:=by rw [hz'];simp
     rw [← hz',e1] at hown1
     have HO1:Hid (Own (RS RI) w.heap.size w1.heap.size w1 [.slice oa1 z'.length cap1] z'):=hown1
     rw [e1]
     clear hown1 hbel1 hown2 hown e1 hz'
     go_wp2_with fail
     go_roundw
     case rel => exact ⟨m + 1,z',by omega,by go_num,HZ,⟨_,_,rfl⟩,HO1,hb3⟩
     case measure => simp [intOf];omega
    ·have HZ:Hid (z = rootOn (bs.take (k + 1))):=Lib.hid (by rw [HN.out,hz.out,List.take_of_length_le (by omega)])
     go_wp2_with fail
     go_roundw
     case rel => exact ⟨k + 1,z,by omega,by go_num,HZ,⟨_,_,rfl⟩,hown2,hbel2⟩
     case measure => simp [intOf];omega
  ·have hfin:bs.take k = bs:=List.take_of_length_le (by omega)
   go_wp2_with fail
   go_ret
   exact ⟨_,rfl,by rw [← hfin,← hr.out];exact hown.out,hbel⟩
theorem map_take_drop_set {t:List (List Int)} (f:List Int→List Int) (k:Nat) (h:k < t.length):((t.take k).map f ++ t.drop k).set k (f t[k]) = (t.take (k + 1)).map f ++ t.drop (k + 1):=by
 rw [List.set_append_right _ _ (by simp;omega)]
 have e:k - ((t.take k).map f).length = 0:=by simp;omega
 rw [e,List.drop_eq_getElem_cons h,List.set_cons_zero,List.take_succ_eq_append_getElem h,List.map_append]
 simp
theorem brs_few {t:List Int} (h:LevP t):(brs t).length + 1 ≤ t.length:=by
 have h1:=sumLen_brs h
 have:∀ bs:List (List Int),(∀ b ∈ bs,LevP b)→bs.length ≤ sumLen bs:=by
  intro bs
  induction bs with
  | nil => intro _;simp [sumLen]
  | cons b bs ih =>
   intro hb
   have:=ih (fun c hc => hb c (by simp [hc]))
   have:=(hb b (by simp)).pos
   simp only [sumLen,List.map_cons,List.sum_cons,List.length_cons] at *
   omega
 have:=this (brs t) (brs_lev h)
 omega
set_option maxRecDepth 100000 in
set_option maxHeartbeats 1000000 in
theorem c_impl_canonical:∀ (n:Nat) (v:Value) (t:List Int) (w:World),Rd (RS RI) w [v] t→LevP t→t.length ≤ n→t.length ≤ 13 →
  Calls Try.prog 43 #[v] w (RetO (RS RI) w (canon t)):=by
 intro n
 induction n with
 | zero => intro v t w h hl hn h13;have:=hl.pos;omega
 | succ n ih =>
  intro v t w h hl hn h13
  have hb:=c_impl_branchesOf v t w h hl (by omega)
  have eg:=enters (P:=Try.prog) (f:=77) Try.func77 (by kernel_rfl) rfl
  have hask:CmpAsk Try.prog 77 cmpD (fun _ => True):=fun w h1 h2 x y r1 r2 _ _ => c_impl_canonical1 h1 h2 x y w r1 r2
  have EG:=Lib.hid eg
  have HA:=Lib.hid hask
  have HL:=Lib.hid hl
  have IH:=Lib.hid ih
  have hfew:=brs_few hl
  have hbl:(brs t).length ≤ 12:=by omega
  clear eg hask h hl ih
  go_enter Try.func43,Try.ntmps43
  go_wp2_with (go_at_call 49;refine hb.mono ?_;rintro e w1 ⟨u,rfl,o1,b1⟩;obtain ⟨oa,cap,rfl,l1,l2⟩:=o1.val)
  clear hb
  have hsz1:=b1.size
  have hO1:Hid (Own (RS (RS RI)) w.heap.size w1.heap.size w1 [.slice oa (brs t).length cap] (brs t)):=o1
  clear o1
  go_loopw [10] (fun i wr => ∃ k:Nat,k ≤ (brs t).length∧i = .int .i64 k∧Hid (Own (RS (RS RI)) w.heap.size wr.heap.size wr [.slice oa (brs t).length cap] (((brs t).take k).map canon ++ (brs t).drop k))∧Below w.heap.size w wr) (fun i _ => (brs t).length - (intOf i).toNat)
  case atStart => exact ⟨0,Nat.zero_le _,rfl,by simpa using hO1,b1⟩
  case round =>
   obtain ⟨k,hk,rfl,hown,hbel⟩:=hrel
   have hsz2:=hbel.size
   clear hO1
   by_cases hlt:k < (brs t).length
   ·obtain ⟨g,cap',a,hv,_,_,hg1,hg2,hg3,hcell,hel,hK⟩:=hown.out.setElem (R:=RS RI) rfl k (by simp;omega)
    have hxk:(((brs t).take k).map canon ++ (brs t).drop k)[k]'(by simp;omega) = (brs t)[k]:=by
     rw [List.getElem_append_right (by simp;omega)]
     simp [List.getElem_drop]
     congr 1;omega
    rw [hxk] at hel
    have hlk:((List.take k (brs t)).map canon ++ (brs t).drop k).length = (brs t).length:=by simp;omega
    rw [hlk] at hv
    simp only [Value.slice.injEq,true_and] at hv
    obtain ⟨rfl,rfl⟩:=hv
    obtain ⟨oi,ci,rfl,_⟩:=hel.val
    have hmem:=List.getElem_mem hlt
    have hshort:=brs_short HL.out _ hmem
    have hc:=IH.out (.slice oi (brs t)[k].length ci) (brs t)[k] wr hel.rd (brs_lev HL.out _ hmem) (by omega) (by omega)
    have hset:=map_take_drop_set canon k hlt
    have HSET:=Lib.hid hset
    have HK:=Lib.hid hK
    obtain ⟨x,hx⟩:∃ x,x = (brs t)[k]:=⟨_,rfl⟩
    rw [← hx] at hc hcell HSET hshort
    clear hK hset hxk hlk hel hx hmem
    go_wp2_with (go_at_call 43;refine hc.mono ?_;rintro e w2 ⟨u,rfl,o2,b2⟩;obtain ⟨ou,cu,rfl,lu1,lu2⟩:=o2.val;obtain ⟨f1,f2,f3,f4⟩:=HK.out w2 (canon x) (.slice ou (canon x).length cu) wr.heap.size w2.heap.size o2 (Nat.le_refl _) b2.size b2;have HF:=Lib.hid (show Own (RS (RS RI)) w.heap.size w2.heap.size (w2.setCell ⟨g,k,none⟩ (.slice ou (canon x).length cu)) [.slice (some ⟨g,0,none⟩) (brs t).length cap] (((brs t).take (k + 1)).map canon ++ (brs t).drop (k + 1)) by rw [← HSET.out];exact f3);have hb3:Below w.heap.size w w2:=hbel.trans (b2.mono hsz2);have hb4:=hb3.setCell (p:=⟨g,k,none⟩) hg1 (.slice ou (canon x).length cu);clear f3 f4 o2 hc)
    go_roundw
    case rel => exact ⟨k + 1,by omega,by go_num,Lib.hid (HF.out.top _ (by simp)),hb4⟩
    case measure => simp [intOf];omega
   ·have hfin:((brs t).take k).map canon ++ (brs t).drop k = (brs t).map canon:=by
     rw [List.take_of_length_le (by omega),List.drop_of_length_le (by omega),List.append_nil]
    rw [hfin] at hown
    have hml:((brs t).map canon).length = (brs t).length:=by simp
    have hs:=c_SortFunc 77 cmpD cmpD_cmp (fun _ => True) EG.out HA.out _ ((brs t).map canon) w.heap.size wr.heap.size wr hown.out (fun _ _ => trivial) (by omega)
    have hlev:∀ b ∈ sortC cmpD ((brs t).map canon),LevP b:=by
     intro b hb
     rw [sortC_mem,List.mem_map] at hb
     obtain ⟨c,hc,rfl⟩:=hb
     exact canon_lev (brs_lev HL.out c hc)
    have hsum:sumLen (sortC cmpD ((brs t).map canon)) ≤ 1000000000:=by
     have:=rootOn_len (sortC cmpD ((brs t).map canon))
     rw [← canon_eq HL.out,canon_len HL.out] at this
     omega
    have HV:=Lib.hid hlev
    have HCE:=Lib.hid (canon_eq HL.out)
    clear hlev hfin hown
    go_wp2_with (go_at_call 76;refine hs.mono ?_;rintro e w3 ⟨rfl,o3,ch3⟩)
    have hb3:Below w.heap.size w w3:=hbel.trans (ch3.below (Nat.le_refl _) hsz2)
    have hr:=c_impl_rootOn _ _ w3 o3.rd (Small.of_lev HV.out hsum) hsum
    have hsz3:=hb3.size
    clear hs o3 ch3
    go_wp2_with (go_at_call 51;refine hr.mono ?_;rintro e w4 ⟨u,rfl,o4,b4⟩)
    go_ret
    refine ⟨_,rfl,?_,hb3.trans (b4.mono hsz3)⟩
    rw [HCE.out]
    exact o4.mono hsz3 (Nat.le_refl _)
end Go.Proofs.Ytedgfkpfhonlpaa
namespace Go.Proofs.Ytedgfkpfhonlpaa
open Go.RowKit
def txtF:Nat→List Int→List UInt8
 | 0,_ => []
 | n + 1,t => 91 :: ((brs t).flatMap (txtF n)) ++ [93]
def txtTo (n:Nat) (t:List Int) (k:Nat):List UInt8:=91 :: (((brs t).take k).flatMap (txtF n))
theorem txtTo_succ (n:Nat) (t:List Int) (k:Nat) (h:k < (brs t).length):txtTo n t (k + 1) = txtTo n t k ++ txtF n (brs t)[k]:=by
 unfold txtTo
 rw [List.take_succ_eq_append_getElem h,List.flatMap_append]
 simp
theorem txtTo_all (n:Nat) (t:List Int):txtTo n t (brs t).length ++ [93] = txtF (n + 1) t:=by
 unfold txtTo
 rw [List.take_of_length_le (Nat.le_refl _)]
 rfl
theorem flat_len (f:List Int→List UInt8):∀ l:List (List Int),(∀ b ∈ l,(f b).length = 2 * b.length)→(l.flatMap f).length = 2 * sumLen l
 | [],_ => rfl
 | b :: l,h => by
  have h1:=h b (by simp)
  have h2:=flat_len f l (fun x hx => h x (by simp [hx]))
  rw [List.flatMap_cons,List.length_append,h1,h2]
  show _ = 2 * sumLen (b :: l)
  simp only [sumLen,List.map_cons,List.sum_cons];omega
theorem txtF_len:∀ (n:Nat) (t:List Int),LevP t→t.length ≤ n→(txtF n t).length = 2 * t.length
 | 0,t,h,hn => by have:=h.pos;omega
 | n + 1,t,h,hn => by
  have h1:=flat_len (txtF n) (brs t) (fun b hb => txtF_len n b (brs_lev h b hb) (by have:=brs_short h b hb;omega))
  have h2:=sumLen_brs h
  show (91 :: ((brs t).flatMap (txtF n)) ++ [93]).length = _
  simp only [List.cons_append,List.length_cons,List.length_append,List.length_nil,h1]
  omega
theorem txtTo_len {n:Nat} {t:List Int} (h:LevP t) (hn:t.length ≤ n + 1) (k:Nat):(txtTo n t k).length ≤ 2 * t.length:=by
 have h1:((brs t).take k).flatMap (txtF n) ++ ((brs t).drop k).flatMap (txtF n) = (brs t).flatMap (txtF n):=by
  rw [← List.flatMap_append,List.take_append_drop]
 have h2:=flat_len (txtF n) (brs t) (fun b hb => txtF_len n b (brs_lev h b hb) (by have:=brs_short h b hb;omega))
 have h3:=sumLen_brs h
 have h4:=congrArg List.length h1
 rw [List.length_append,h2] at h4
 unfold txtTo
 simp only [List.length_cons]
 omega
end Go.Proofs.Ytedgfkpfhonlpaa
namespace Go.Proofs.Ytedgfkpfhonlpaa
open Go.RowKit
def rfStep (st:List (List Int) × Nat) (c:UInt8):Option (List (List Int) × Nat) :=
 if c.toNat = 91 then some (if st.2 = 0 then (st.1 ++ [[0]],1) else (st.1.set (st.1.length - 1) (st.1.getD (st.1.length - 1) [] ++ [(st.2:Int)]),st.2 + 1))
 else if c.toNat = 93∧0 < st.2 then some (st.1,st.2 - 1) else none
def rfRun:List UInt8→List (List Int) × Nat→Option (List (List Int) × Nat)
 | [],st => some st
 | c :: s,st => (rfStep st c).bind (rfRun s)
theorem rfRun_snoc (c:UInt8):∀ (s:List UInt8) (st:List (List Int) × Nat),rfRun (s ++ [c]) st = (rfRun s st).bind fun x => rfStep x c
 | [],st => by
  show (rfStep st c).bind (rfRun []) = rfStep st c
  cases rfStep st c <;> rfl
 | a :: s,st => by
  show (rfStep st a).bind (rfRun (s ++ [c])) = ((rfStep st a).bind (rfRun s)).bind _
  cases h:rfStep st a with
  | none => rfl
  | some y => exact rfRun_snoc c s y
theorem rfRun_none (s:List UInt8) (k:Nat) (st:List (List Int) × Nat) (h:rfRun (s.take k) st = none):rfRun s st = none:=by
 have key:∀ (a b:List UInt8) (st:List (List Int) × Nat),rfRun a st = none→rfRun (a ++ b) st = none:=by
  intro a
  induction a with
  | nil => intro b st h;cases h
  | cons c a ih =>
   intro b st h
   have h:(rfStep st c).bind (rfRun a) = none:=h
   show (rfStep st c).bind (rfRun (a ++ b)) = none
   cases hs:rfStep st c with
   | none => rfl
   | some y => rw [hs] at h;exact ih b y h
 have:=key (s.take k) (s.drop k) st h
 rwa [List.take_append_drop] at this
def RfI (n:Nat) (st:List (List Int) × Nat):Prop:=st.2 ≤ n∧st.1.length ≤ n∧(0 < st.2→0 < st.1.length)∧∀ t ∈ st.1,t.length ≤ n
theorem rfStep_I {n:Nat} {st st':List (List Int) × Nat} {c:UInt8} (h:RfI n st) (hs:rfStep st c = some st'):RfI (n + 1) st':=by
 obtain ⟨h1,h2,h3,h4⟩:=h
 unfold rfStep at hs
 split at hs
 ·cases hs
  split
  ·refine ⟨by simp,by simp;omega,fun _ => by simp,fun t ht => ?_⟩
   simp only [List.mem_append,List.mem_singleton] at ht
   rcases ht with ht|rfl
   ·have:=h4 t ht;omega
   ·simp
  ·rename_i hd
   have hp:=h3 (by omega)
   refine ⟨by show st.2 + 1 ≤ _;omega,by simp;omega,fun _ => by simpa using hp,fun t ht => ?_⟩
   rcases List.mem_or_eq_of_mem_set ht with ht|rfl
   ·have:=h4 t ht;omega
   ·have:=h4 (st.1.getD (st.1.length - 1) []) (by rw [List.getD_eq_getElem?_getD,List.getElem?_eq_getElem (by omega)];exact List.getElem_mem _)
    simp only [List.length_append,List.length_singleton];omega
 ·split at hs
  ·cases hs
   exact ⟨by show st.2 - 1 ≤ _;omega,by show st.1.length ≤ _;omega,fun h => h3 (by have:0 < st.2 - 1:=h;omega),fun t ht => by have:=h4 t ht;omega⟩
  ·cases hs
theorem rfRun_I:∀ (s:List UInt8) (n:Nat) (st st':List (List Int) × Nat),RfI n st→rfRun s st = some st'→RfI (n + s.length) st'
 | [],n,st,st',h,hs => by cases hs;exact h
 | c :: s,n,st,st',h,hs => by
  have hs:(rfStep st c).bind (rfRun s) = some st':=hs
  cases h1:rfStep st c with
  | none => rw [h1] at hs;cases hs
  | some y =>
   rw [h1] at hs
   have:=rfRun_I s (n + 1) y st' (rfStep_I h h1) hs
   rw [List.length_cons,show n + (s.length + 1) = n + 1 + s.length by omega]
   exact this
theorem RfI.zero:RfI 0 ([],0):=⟨Nat.le_refl _,Nat.le_refl _,fun h => absurd h (by decide),fun _ h => by cases h⟩
def rdF (s:List UInt8):List (List Int) × Bool :=
 if 16 < s.length then ([],false) else match rfRun s ([],0) with
  | none => ([],false)
  | some st => (st.1,decide (st.2 = 0))
end Go.Proofs.Ytedgfkpfhonlpaa
namespace Go.Proofs.Ytedgfkpfhonlpaa
open Go.RowKit
section
variable {P:Program}
theorem run_append_blk (w:World) (base:Nat) (t u ty e:TypeId) (i:TypeInfo) (ht:P.underlying t = some (.slice e)) (hu:P.underlying u = some .string) (hi:P.info? e = some i) (hz:i.zero = some (.int .u8 0))
  (hsize:i.size = 1) (hby:i.bytes = 1) (v:Value) (n:Nat) (xs:List Value) (hown:w.ownsRowF base e 1 v n xs) (s:ByteArray)
  (h63:n + s.size ≤ maxLen) (hbytes:n + s.size ≤ 140737488355328) (hbase:base ≤ w.heap.size) :
  ∃ v' w',(Builtin.append_ #[t,u] ty #[v,.string s]).run P w = .ok v' w'∧w'.ownsRowF base e 1 v' (n + s.size) (xs ++ Lib.strCells s)∧w.grownBy w' v.ownBlock ∧
   (v'.ownBlock = v.ownBlock ∨ ∃ k,v'.ownBlock = some k∧w.heap.size ≤ k):=by
 obtain ⟨v',w',h1,h2,h3,h4⟩:=Lib.run_append_own_stringF (P:=P) w base t u ty e i ht hu hi hz hsize hby v n xs hown s h63 hbytes hbase
 refine ⟨v',w',h1,h2,h3,?_⟩
 rcases hown.2 with ⟨rfl,rfl⟩|⟨g,cap,cur,fz,rfl,hbg,hg,hfz,hnc,hcm,hcs,htake⟩
 ·obtain ⟨v2,w2,k1,k2,k3,k4⟩:=Lib.run_append_own_stringF (P:=P) w w.heap.size t u ty e i ht hu hi hz hsize hby (.slice none 0 0) 0 xs ⟨hown.1,.inl ⟨rfl,rfl⟩⟩ s h63 hbytes (Nat.le_refl _)
  rw [h1] at k1
  cases k1
  rcases k2.2 with ⟨rfl,_⟩|⟨g',cap',cur',fz',rfl,hb',_⟩
  ·exact .inl rfl
  ·exact .inr ⟨g',rfl,hb'⟩
 ·have hxl:xs.length = n:=by simpa using hown.1
  by_cases hroom:n + s.size ≤ cap
  ·have hcs':cur.size = cap:=by simpa using hcs
   have hr:=Lib.run_append_room_stringF (P:=P) w t u ty e i ht hu hi hsize g n cap cur fz hg (by simpa using hfz) s hroom (by omega)
   rw [h1] at hr
   cases hr
   exact .inl rfl
  ·have hr:=Lib.run_append_grow_string (P:=P) w t u ty e i (.int .u8 0) ht hu hi hz ⟨g,0,none⟩ n cap xs (by rw [hsize];simpa using hxl) (hown.cells (g:=g) rfl) s (by omega) (by have:=h63;simp only [maxLen] at this;omega) (by rw [hby];exact growslice_fits (by omega) (by omega))
   rw [h1] at hr
   cases hr
   exact .inr ⟨_,rfl,Nat.le_refl _⟩
theorem wpList_append_blk {w:World} {ops:Array Oper} {rest:List Oper} {o:Oper} {a:Act} {Q:Exit→Act→World→Prop} (hgd:o.guard = none) (sl x:Operand) (t u:TypeId)
  (ho:o.op = .call { callee:=.builtin .append,args:=#[sl,x],argTypes:=#[t,u] })
  (base:Nat) (e:TypeId) (i:TypeInfo) (ht:P.underlying t = some (.slice e)) (hu:P.underlying u = some .string) (hi:P.info? e = some i) (hz:i.zero = some (.int .u8 0))
  (hsize:i.size = 1) (hby:i.bytes = 1)
  (v:Value) (n:Nat) (xs:List Value) (hs:a.eval sl = v) (hown:w.ownsRowF base e 1 v n xs) (s:ByteArray) (hx:a.eval x = .string s)
  (h63:n + s.size ≤ maxLen) (hbytes:n + s.size ≤ 140737488355328) (hbase:base ≤ w.heap.size)
  (h:∀ v' w',w'.ownsRowF base e 1 v' (n + s.size) (xs ++ Lib.strCells s)→w.grownBy w' v.ownBlock→(v'.ownBlock = v.ownBlock ∨ ∃ k,v'.ownBlock = some k∧w.heap.size ≤ k)→wpList P ops Q rest (a.put o.dst v') w'):wpList P ops Q (o :: rest) a w:=by
 refine wpList_plain hgd fun K hK => ?_
 obtain ⟨v',w',hr,h2,h3,h4⟩:=run_append_blk (P:=P) w base t u o.type e i ht hu hi hz hsize hby v n xs hown s h63 hbytes hbase
 unfold Oper.wp execOp
 simp only [ho,resolve,invoke,builtin,Sem.run_bind,Sem.run_pure,Result.andThen_ok,List.map_toArray,List.map_cons,List.map_nil,hs,hx,hr]
 exact hK _ _ (h v' w' h2 h3 h4)
end
def BuiltAt (T e:TypeId) (B b lo hi:Nat) (p:Value) (bs:List Value) (w:World):Prop :=
 B ≤ b∧∃ v,w.heap[b]? = some (.cells #[p,v] T (0,0))∧w.ownsRowF B e 1 v bs.length bs∧v.ownBlock ≠ some b∧∀ k,v.ownBlock = some k→k < lo ∨ hi ≤ k
theorem BuiltAt.toF {T e:TypeId} {B b lo hi:Nat} {p:Value} {bs:List Value} {w:World} (h:BuiltAt T e B b lo hi p bs w):Lib.BuilderAtF T e B b p bs w :=
 let ⟨h1,v,h2,h3,h4,_⟩:=h;⟨h1,v,h2,h3,h4⟩
theorem BuiltAt.ofF {T e:TypeId} {B b hi:Nat} {p:Value} {bs:List Value} {w:World} (h:Lib.BuilderAtF T e B b p bs w):BuiltAt T e B b w.heap.size hi p bs w :=
 let ⟨h1,v,h2,h3,h4⟩:=h;⟨h1,v,h2,h3,h4,fun k hk => .inl (h3.lt k hk).2⟩
def BKept (b lo hi:Nat) (w w':World):Prop:=w.heap.size ≤ w'.heap.size∧∀ k,lo ≤ k→k < hi→k < w.heap.size→k ≠ b→w'.heap[k]? = w.heap[k]?
theorem BuiltAt.below {T e:TypeId} {B b lo hi:Nat} {p:Value} {bs:List Value} {w w':World} (h:BuiltAt T e B b lo hi p bs w) (hb:Below w.heap.size w w'):BuiltAt T e B b lo hi p bs w':=by
 obtain ⟨h1,v,h2,h3,h4,h5⟩:=h
 have hlt:b < w.heap.size:=(Array.getElem?_eq_some_iff.1 h2).1
 refine ⟨h1,v,(hb.block b hlt).trans h2,?_,h4,h5⟩
 refine ⟨h3.1,?_⟩
 rcases h3.2 with hn|⟨g,cap,cur,fz,rfl,hbg,hgg,rest⟩
 ·exact .inl hn
 ·exact .inr ⟨g,cap,cur,fz,rfl,hbg,(hb.block g (Array.getElem?_eq_some_iff.1 hgg).1).trans hgg,rest⟩
end Go.Proofs.Ytedgfkpfhonlpaa
