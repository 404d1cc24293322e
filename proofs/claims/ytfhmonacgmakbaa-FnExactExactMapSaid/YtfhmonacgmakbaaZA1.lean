/- Lemmas (1). -/
import Derived.Test.YtfhmonacgmakbaaZA0
set_option linter.unusedSimpArgs false
set_option linter.unusedVariables false
namespace Go.Proofs.Ytfhmonacgmakbaa
open Go.RowKit
def levOk:Int→List Int→Prop
 | _,[] => True
 | p,x :: xs => 1 ≤ x∧x ≤ p + 1∧levOk x xs
theorem levOk_iff:∀ (xs:List Int) (p:Int),levOk p xs ↔ ∀ i,i < xs.length→1 ≤ (p :: xs).getD (i + 1) 0∧(p :: xs).getD (i + 1) 0 ≤ (p :: xs).getD i 0 + 1
 | [],p => by simp [levOk]
 | x :: xs,p => by
  unfold levOk
  rw [levOk_iff xs x]
  constructor
  ·rintro ⟨h1,h2,h3⟩ i hi
   cases i with
   | zero => simpa using ⟨h1,h2⟩
   | succ i => simpa using h3 i (by simpa using hi)
  ·intro h
   refine ⟨?_,?_,fun i hi => ?_⟩
   ·simpa using (h 0 (by simp)).1
   ·simpa using (h 0 (by simp)).2
   ·simpa using h (i + 1) (by simpa using hi)
theorem LevP_iff (t:List Int):LevP t ↔ ∃ xs,t = 0 :: xs∧levOk 0 xs:=by
 constructor
 ·intro h
  cases t with
  | nil => have:=h.pos;simp at this
  | cons x xs =>
   have h0:=h.zero h.pos
   simp at h0;subst h0
   refine ⟨xs,rfl,(levOk_iff xs 0).2 fun i hi => ?_⟩
   exact h.2 i (by simp;omega) (by simpa using hi)
 ·rintro ⟨xs,rfl,h⟩
  refine ⟨by simp,fun i _ hi => ?_⟩
  exact (levOk_iff xs 0).1 h i (by simpa using hi)
theorem levOk_append:∀ (xs ys:List Int) (p:Int),0 ≤ p→levOk p xs→(∀ q,0 ≤ q→levOk q ys)→levOk p (xs ++ ys)
 | [],ys,p,hp,_,h => h p hp
 | x :: xs,ys,p,hp,⟨h1,h2,h3⟩,h => ⟨h1,h2,levOk_append xs ys x (by omega) h3 h⟩
theorem levOk_shift:∀ (xs:List Int) (p:Int),levOk p xs→levOk (p + 1) (xs.map (· + 1))
 | [],_,_ => trivial
 | x :: xs,p,⟨h1,h2,h3⟩ => ⟨by show 1 ≤ x + 1;omega,by show x + 1 ≤ p + 1 + 1;omega,levOk_shift xs x h3⟩
def rootOn (bs:List (List Int)):List Int:=0 :: bs.flatMap (·.map (· + 1))
theorem rootOn_lev {bs:List (List Int)} (h:∀ b ∈ bs,LevP b):LevP (rootOn bs):=by
 rw [LevP_iff]
 refine ⟨_,rfl,?_⟩
 have:∀ q,0 ≤ q→levOk q (bs.flatMap (·.map (· + 1))):=by
  induction bs with
  | nil => intro q _;trivial
  | cons b bs ih =>
   intro q hq
   rw [List.flatMap_cons]
   obtain ⟨xs,rfl,hx⟩:=(LevP_iff b).1 (h b (by simp))
   refine levOk_append _ _ q hq ⟨by simp,by simp;omega,?_⟩ (ih fun b hb => h b (by simp [hb]))
   exact levOk_shift xs 0 hx
 exact this 0 (Int.le_refl 0)
def sumLen (bs:List (List Int)):Nat:=(bs.map List.length).sum
theorem rootOn_len (bs:List (List Int)):(rootOn bs).length = sumLen bs + 1:=by
 unfold rootOn sumLen
 induction bs with
 | nil => rfl
 | cons b bs ih => simp only [List.flatMap_cons,List.length_cons,List.length_append,List.length_map,List.map_cons,List.sum_cons] at *;omega
theorem rootOn_snoc (bs:List (List Int)) (b:List Int):rootOn (bs ++ [b]) = rootOn bs ++ b.map (· + 1):=by
 simp [rootOn,List.flatMap_append]
theorem sumLen_perm {l m:List (List Int)} (h:l.Perm m):sumLen l = sumLen m:=(h.map List.length).sum_nat
theorem sumLen_append (l m:List (List Int)):sumLen (l ++ m) = sumLen l + sumLen m:=by simp [sumLen]
theorem sumLen_mem {l:List (List Int)} {b:List Int} (h:b ∈ l):b.length ≤ sumLen l:=by
 unfold sumLen
 induction l with
 | nil => simp at h
 | cons a l ih =>
  rw [List.map_cons,List.sum_cons]
  rcases List.mem_cons.1 h with rfl|h
  ·omega
  ·have:=ih h;omega
theorem brStep_root (acc:List (List Int)) (l:Int) (h:l = 1 ∨ 0 < acc.length):rootOn (brStep acc l) = rootOn acc ++ [l]:=by
 by_cases e:l = 1
 ·subst e
  rw [brStep_one,rootOn_snoc];rfl
 ·have hp:=h.resolve_left e
  rw [brStep_more acc l e hp]
  obtain ⟨bs,b,rfl⟩:∃ bs b,acc = bs ++ [b]:=⟨acc.dropLast,acc.getLast (by intro e;rw [e] at hp;simp at hp),(List.dropLast_concat_getLast _).symm⟩
  simp only [List.length_append,List.length_singleton,Nat.add_sub_cancel,List.getElem_append_right (Nat.le_refl _),Nat.sub_self,List.getElem_singleton]
  rw [List.set_append_right _ _ (Nat.le_refl _),Nat.sub_self]
  show rootOn (bs ++ [b ++ [l - 1]]) = _
  rw [rootOn_snoc,rootOn_snoc,List.append_assoc,List.map_append]
  congr 2
  simp
theorem brTo_root {t:List Int} (h:LevP t):∀ k,k + 1 ≤ t.length→rootOn (brTo t k) = t.take (k + 1)
 | 0,hk => by
  have h0:=h.zero h.pos
  obtain ⟨xs,rfl,_⟩:=(LevP_iff t).1 h
  simp [brTo,rootOn]
 | k + 1,hk => by
  rw [brTo_succ t k hk,brStep_root,brTo_root h k (by omega)]
  ·rw [List.take_succ_eq_append_getElem (i:=k + 1) hk]
  ·cases k with
   | zero =>
    left
    have h1:=h.succ hk
    have h0:=h.zero h.pos
    simp at h1 ⊢;omega
   | succ k => right;exact brTo_pos h k (by omega)
theorem rootOn_brs {t:List Int} (h:LevP t):rootOn (brs t) = t:=by
 rw [← brTo_all t (t.length - 1) (by omega),brTo_root h (t.length - 1) (by have:=h.pos;omega)]
 rw [List.take_of_length_le (by omega)]
theorem sumLen_brs {t:List Int} (h:LevP t):sumLen (brs t) + 1 = t.length:=by
 have:=rootOn_len (brs t)
 rw [rootOn_brs h] at this
 omega
theorem foldl_brStep_more:∀ (ys:List Int) (acc:List (List Int)) (b:List Int),(∀ y ∈ ys,y ≠ 1)→ys.foldl brStep (acc ++ [b]) = acc ++ [b ++ ys.map (· - 1)]
 | [],acc,b,_ => by simp
 | y :: ys,acc,b,h => by
  rw [List.foldl_cons,brStep_more _ _ (h y (by simp)) (by simp)]
  simp only [List.length_append,List.length_singleton,Nat.add_sub_cancel,List.getElem_append_right (Nat.le_refl _),Nat.sub_self,List.getElem_singleton]
  rw [List.set_append_right _ _ (Nat.le_refl _),Nat.sub_self]
  show ys.foldl brStep (acc ++ [b ++ [y - 1]]) = _
  rw [foldl_brStep_more ys acc _ (fun y hy => h y (by simp [hy]))]
  simp
theorem levOk_ge:∀ (xs:List Int) (p:Int),levOk p xs→∀ x ∈ xs,1 ≤ x
 | x :: xs,p,⟨h1,_,h3⟩,y,hy => by
  rcases List.mem_cons.1 hy with rfl|hy
  ·exact h1
  ·exact levOk_ge xs x h3 y hy
theorem brs_rootOn {bs:List (List Int)} (h:∀ b ∈ bs,LevP b):brs (rootOn bs) = bs:=by
 unfold brs rootOn
 rw [List.drop_one,List.tail_cons]
 have:∀ (cs:List (List Int)),(∀ b ∈ cs,LevP b)→∀ acc,(cs.flatMap (·.map (· + 1))).foldl brStep acc = acc ++ cs:=by
  intro cs
  induction cs with
  | nil => intro _ acc;simp
  | cons b cs ih =>
   intro hc acc
   obtain ⟨xs,rfl,hx⟩:=(LevP_iff b).1 (hc b (by simp))
   rw [List.flatMap_cons,List.foldl_append,List.map_cons,List.foldl_cons]
   rw [show (0:Int) + 1 = 1 from rfl,brStep_one,foldl_brStep_more]
   ·rw [ih (fun b hb => hc b (by simp [hb]))]
    simp [Function.comp_def]
   ·intro y hy
    obtain ⟨x,hx',rfl⟩:=List.mem_map.1 hy
    have:=levOk_ge xs 0 hx x hx'
    omega
 simpa using this bs h []
def canonF:Nat→List Int→List Int
 | 0,_ => [0]
 | f + 1,t => rootOn (sortC cmpD ((brs t).map (canonF f)))
def canon (t:List Int):List Int:=canonF t.length t
theorem canonF_eq:∀ (f:Nat) {t:List Int},LevP t→t.length ≤ f→canonF f t = canon t:=by
 have key:∀ (n f g:Nat) (t:List Int),LevP t→t.length ≤ n→t.length ≤ f→t.length ≤ g→canonF f t = canonF g t:=by
  intro n
  induction n with
  | zero => intro f g t h hn;have:=h.pos;omega
  | succ n ih =>
   intro f g t h hn hf hg
   have hp:=h.pos
   obtain ⟨f,rfl⟩:∃ f',f = f' + 1:=⟨f - 1,by omega⟩
   obtain ⟨g,rfl⟩:∃ g',g = g' + 1:=⟨g - 1,by omega⟩
   simp only [canonF]
   congr 2
   apply List.map_congr_left
   intro b hb
   have:=brs_short h b hb
   exact ih f g b (brs_lev h b hb) (by omega) (by omega) (by omega)
 intro f t h hf
 exact key t.length f t.length t h (Nat.le_refl _) hf (Nat.le_refl _)
theorem canon_eq {t:List Int} (h:LevP t):canon t = rootOn (sortC cmpD ((brs t).map canon)):=by
 have hp:=h.pos
 obtain ⟨n,hn⟩:∃ n,t.length = n + 1:=⟨t.length - 1,by omega⟩
 unfold canon
 rw [hn]
 simp only [canonF]
 congr 2
 apply List.map_congr_left
 intro b hb
 have:=brs_short h b hb
 exact canonF_eq n (brs_lev h b hb) (by omega)
theorem canon_both {t:List Int}:LevP t→LevP (canon t)∧(canon t).length = t.length:=by
 have key:∀ (n:Nat) (t:List Int),LevP t→t.length ≤ n→LevP (canon t)∧(canon t).length = t.length:=by
  intro n
  induction n with
  | zero => intro t h hn;have:=h.pos;omega
  | succ n ih =>
   intro t h hn
   rw [canon_eq h]
   have hb:∀ b ∈ brs t,LevP (canon b)∧(canon b).length = b.length:=fun b hb => ih b (brs_lev h b hb) (by have:=brs_short h b hb;omega)
   refine ⟨rootOn_lev fun c hc => ?_,?_⟩
   ·rw [sortC_mem,List.mem_map] at hc
    obtain ⟨b,hb',rfl⟩:=hc
    exact (hb b hb').1
   ·rw [rootOn_len,sumLen_perm (sortC_perm _),← sumLen_brs h]
    congr 1
    unfold sumLen
    rw [List.map_map]
    congr 1
    apply List.map_congr_left
    intro b hb'
    exact (hb b hb').2
 exact fun h => key t.length t h (Nat.le_refl _)
theorem canon_lev {t:List Int} (h:LevP t):LevP (canon t):=(canon_both h).1
theorem canon_len {t:List Int} (h:LevP t):(canon t).length = t.length:=(canon_both h).2
theorem canon_idem {t:List Int}:LevP t→canon (canon t) = canon t:=by
 have key:∀ (n:Nat) (t:List Int),LevP t→t.length ≤ n→canon (canon t) = canon t:=by
  intro n
  induction n with
  | zero => intro t h hn;have:=h.pos;omega
  | succ n ih =>
   intro t h hn
   have hc:=canon_lev h
   have e:=canon_eq h
   have hbs:∀ c ∈ sortC cmpD ((brs t).map canon),LevP c:=by
    intro c hc
    rw [sortC_mem,List.mem_map] at hc
    obtain ⟨b,hb',rfl⟩:=hc
    exact canon_lev (brs_lev h b hb')
   rw [canon_eq hc,e,brs_rootOn hbs]
   congr 1
   have:(sortC cmpD ((brs t).map canon)).map canon = sortC cmpD ((brs t).map canon):=by
    rw [List.map_congr_left (g:=id),List.map_id]
    intro c hc
    rw [sortC_mem,List.mem_map] at hc
    obtain ⟨b,hb',rfl⟩:=hc
    exact ih b (brs_lev h b hb') (by have:=brs_short h b hb';omega)
   rw [this]
   exact sortC_of_sorted cmpD_cmp (sortC_sorted cmpD_cmp _)
 exact fun h => key t.length t h (Nat.le_refl _)
theorem lev8_lev {t:List Int} (h:lev8 t = true):LevP t:=by
 unfold lev8 levB at h
 simp at h
 exact h.2
theorem lev8_len {t:List Int} (h:lev8 t = true):t.length ≤ 8:=by
 unfold lev8 at h
 simp at h
 exact h.1
theorem lev8_mk {t:List Int} (h:LevP t) (h8:t.length ≤ 8):lev8 t = true:=by
 unfold lev8 levB
 simp [h,h8]
def levels:Nat→List (List Int)
 | 0 => [[0]]
 | n + 1 => (levels n).flatMap fun t => (List.range (t.getD (t.length - 1) 0 + 1).toNat).map fun (i:Nat) => t ++ [(i:Int) + 1]
theorem mem_levels:∀ (n:Nat) (t:List Int),LevP t→t.length = n + 1→t ∈ levels n
 | 0,t,h,hn => by
  match t,hn with
  | [x],_ =>
   have:=h.zero h.pos
   simp at this
   simp [levels,this]
 | n + 1,t,h,hn => by
  have hp:t.take (n + 1) ++ [t[n + 1]] = t:=by
   rw [← List.take_succ_eq_append_getElem (by omega),List.take_of_length_le (by omega)]
  have hl:LevP (t.take (n + 1)):=by
   obtain ⟨xs,rfl,hx⟩:=(LevP_iff t).1 h
   rw [LevP_iff]
   refine ⟨xs.take n,by simp,?_⟩
   have:∀ (xs:List Int) (p:Int) (n:Nat),levOk p xs→levOk p (xs.take n):=by
    intro xs
    induction xs with
    | nil => intro p n _;simp [levOk]
    | cons x xs ih =>
     rintro p n ⟨h1,h2,h3⟩
     cases n with
     | zero => trivial
     | succ n => exact ⟨h1,h2,ih x n h3⟩
   exact this xs 0 n hx
  have hs:=h.succ (i:=n) (by omega)
  have hb:=h.bd n (by omega)
  rw [levels,List.mem_flatMap]
  refine ⟨t.take (n + 1),mem_levels n _ hl (by simp;omega),?_⟩
  rw [List.mem_map]
  refine ⟨(t[n + 1] - 1).toNat,?_,?_⟩
  ·rw [List.mem_range]
   have e:(t.take (n + 1)).getD ((t.take (n + 1)).length - 1) 0 = t[n]:=by
    have:(t.take (n + 1)).length - 1 = n:=by simp;omega
    rw [this,List.getD_eq_getElem?_getD,List.getElem?_take_of_lt (by omega),List.getElem?_eq_getElem (by omega)];rfl
   rw [e];omega
  ·conv => rhs;rw [← hp]
   congr 2
   omega
def lists8:List (List Int):=(List.range 8).flatMap levels
theorem mem_lists8 {t:List Int} (h:lev8 t = true):t ∈ lists8:=by
 have h1:=lev8_lev h
 have h2:=lev8_len h
 have hp:=h1.pos
 rw [lists8,List.mem_flatMap]
 exact ⟨t.length - 1,by simp;omega,mem_levels _ t h1 (by omega)⟩
theorem lev8_all {p:List Int→Bool} (h:lists8.all p = true) {t:List Int} (ht:lev8 t = true):p t = true :=
 List.all_eq_true.1 h t (mem_lists8 ht)
end Go.Proofs.Ytfhmonacgmakbaa
