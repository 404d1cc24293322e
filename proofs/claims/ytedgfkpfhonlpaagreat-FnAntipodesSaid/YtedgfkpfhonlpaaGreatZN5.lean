/- Lemmas (5). -/
import Derived.Test.YtedgfkpfhonlpaaGreatZN0
import Derived.Test.YtedgfkpfhonlpaaGreatZN2
import Derived.Test.YtedgfkpfhonlpaaGreatZN3
import Derived.Test.YtedgfkpfhonlpaaGreatZN4
set_option maxHeartbeats 16000000
set_option maxRecDepth 100000
set_option linter.unusedSimpArgs false
set_option linter.unusedVariables false
namespace Go.Proofs.YtedgfkpfhonlpaaGreat
open Go.RowKit
section
theorem qZ.snoc {x:List Int} {y:Int} (h:qZ x) (h1:1 ≤ y) (h2:y ≤ x.getD (x.length - 1) 0 + 1):qZ (x ++ [y]):=by
 have hp:=h.pos
 refine ⟨?_,fun i hi hi2 => ?_⟩
 ·have:=h.1
  simpa [List.getElem?_append_left hp,hp] using this
 ·simp only [List.length_append,List.length_singleton] at hi hi2
  by_cases hlt:i + 1 < x.length
  ·have:=h.2 i (by omega) hlt
   simpa [List.getD_eq_getElem?_getD,List.getElem?_append_left hlt,List.getElem?_append_left (show i < x.length by omega)] using this
  ·have e:i + 1 = x.length:=by omega
   have e2:i = x.length - 1:=by omega
   rw [e]
   simp only [List.getD_eq_getElem?_getD,List.getElem?_append_right (Nat.le_refl _),Nat.sub_self,List.getElem?_append_left (show i < x.length by omega)]
   rw [e2]
   simpa using ⟨h1,h2⟩
theorem qZ.root:qZ [0]:=by decide
theorem brTo_lev {t:List Int} (h:qZ t):∀ k (hk:k + 1 < t.length),
  (∀ x ∈ brTo t (k + 1),qZ x)∧∀ hl:0 < (brTo t (k + 1)).length,((brTo t (k + 1))[(brTo t (k + 1)).length - 1]).getD (((brTo t (k + 1))[(brTo t (k + 1)).length - 1]).length - 1) 0 = t[k + 1] - 1
 | 0,hk => by
  have h1:=h.succ hk
  have h0:=h.zero h.pos
  have e:t[0 + 1] = 1:=by simp at h1 ⊢;omega
  have e2:brTo t (0 + 1) = [[0]]:=by rw [xN t 0 hk,e,vS];rfl
  refine ⟨fun x hx => ?_,fun hl => ?_⟩
  ·rw [e2] at hx
   simp at hx;subst hx;exact qZ.root
  ·simp only [e2,e];rfl
 | k + 1,hk => by
  obtain ⟨ih1,ih2⟩:=brTo_lev h k (by omega)
  have hp:=jX0 h k (by omega)
  have hs:=h.succ hk
  by_cases e:t[k + 1 + 1] = 1
  ·have e2:brTo t (k + 1 + 1) = brTo t (k + 1) ++ [[0]]:=by rw [xN t (k + 1) hk,e,vS]
   refine ⟨fun x hx => ?_,fun hl => ?_⟩
   ·rw [e2] at hx
    rcases List.mem_append.1 hx with hx|hx
    ·exact ih1 x hx
    ·simp at hx;subst hx;exact qZ.root
   ·simp only [e2,e,List.length_append,List.length_singleton,Nat.add_sub_cancel,List.getElem_append_right (Nat.le_refl _),Nat.sub_self,List.getElem_singleton]
    rfl
  ·have e2:brTo t (k + 1 + 1) = (brTo t (k + 1)).set ((brTo t (k + 1)).length - 1) ((brTo t (k + 1))[(brTo t (k + 1)).length - 1] ++ [t[k + 1 + 1] - 1]):=by
    rw [xN t (k + 1) hk,qK0 _ _ e hp]
   refine ⟨fun x hx => ?_,fun hl => ?_⟩
   ·rw [e2] at hx
    rcases List.mem_or_eq_of_mem_set hx with hx|rfl
    ·exact ih1 x hx
    ·exact qZ.snoc (ih1 _ (List.getElem_mem _)) (by omega) (by rw [ih2 hp];omega)
   ·simp only [e2,List.length_set,List.getElem_set_self,List.length_append,List.length_singleton,Nat.add_sub_cancel]
    simp
theorem jC {t:List Int} (h:qZ t):∀ x ∈ brs t,qZ x:=by
 rw [← jH0 t (t.length - 1) (by omega)]
 by_cases h1:1 < t.length
 ·have:=(brTo_lev h (t.length - 2) (by omega)).1
  rwa [show t.length - 2 + 1 = t.length - 1 by omega] at this
 ·intro x hx
  have e:t.length - 1 = 0:=by omega
  rw [e] at hx
  simp [brTo] at hx
theorem yN {t:List Int} (h:qZ t):∀ x ∈ brs t,x.length + 1 ≤ t.length:=by
 rw [← jH0 t (t.length - 1) (by omega)]
 intro x hx
 obtain ⟨i,hi,rfl⟩:=List.getElem_of_mem hx
 have:=jM0 t (t.length - 1) i hi
 have:=h.pos
 omega
end
section
def levOk:Int→List Int→Prop
 | _,[] => True
 | p,x :: xs => 1 ≤ x∧x ≤ p + 1∧levOk x xs
theorem levOk_iff:∀ (xs:List Int) (p:Int),levOk p xs ↔ ∀ i,i < xs.length→1 ≤ (p :: xs).getD (i + 1) 0∧(p :: xs).getD (i + 1) 0 ≤ (p :: xs).getD i 0 + 1
 | [],p => by simp [levOk]
 | x :: xs,p => by
  unfold levOk
  rw [levOk_iff xs x]
  constructor
  ·rintro ⟨h1,h2,h3⟩ i hi
   cases i with
   | zero => simpa using ⟨h1,h2⟩
   | succ i => simpa using h3 i (by simpa using hi)
  ·intro h
   refine ⟨?_,?_,fun i hi => ?_⟩
   ·simpa using (h 0 (by simp)).1
   ·simpa using (h 0 (by simp)).2
   ·simpa using h (i + 1) (by simpa using hi)
theorem LevP_iff (t:List Int):qZ t ↔ ∃ xs,t = 0 :: xs∧levOk 0 xs:=by
 constructor
 ·intro h
  cases t with
  | nil => have:=h.pos;simp at this
  | cons x xs =>
   have h0:=h.zero h.pos
   simp at h0;subst h0
   refine ⟨xs,rfl,(levOk_iff xs 0).2 fun i hi => ?_⟩
   exact h.2 i (by simp;omega) (by simpa using hi)
 ·rintro ⟨xs,rfl,h⟩
  refine ⟨by simp,fun i _ hi => ?_⟩
  exact (levOk_iff xs 0).1 h i (by simpa using hi)
theorem levOk_append:∀ (xs ys:List Int) (p:Int),0 ≤ p→levOk p xs→(∀ q,0 ≤ q→levOk q ys)→levOk p (xs ++ ys)
 | [],ys,p,hp,_,h => h p hp
 | x :: xs,ys,p,hp,⟨h1,h2,h3⟩,h => ⟨h1,h2,levOk_append xs ys x (by omega) h3 h⟩
theorem levOk_shift:∀ (xs:List Int) (p:Int),levOk p xs→levOk (p + 1) (xs.map (· + 1))
 | [],_,_ => trivial
 | x :: xs,p,⟨h1,h2,h3⟩ => ⟨by show 1 ≤ x + 1;omega,by show x + 1 ≤ p + 1 + 1;omega,levOk_shift xs x h3⟩
def qB (bs:List (List Int)):List Int:=0 :: bs.flatMap (·.map (· + 1))
theorem vU {bs:List (List Int)} (h:∀ b ∈ bs,qZ b):qZ (qB bs):=by
 rw [LevP_iff]
 refine ⟨_,rfl,?_⟩
 have:∀ q,0 ≤ q→levOk q (bs.flatMap (·.map (· + 1))):=by
  induction bs with
  | nil => intro q _;trivial
  | cons b bs ih =>
   intro q hq
   rw [List.flatMap_cons]
   obtain ⟨xs,rfl,hx⟩:=(LevP_iff b).1 (h b (by simp))
   refine levOk_append _ _ q hq ⟨by simp,by simp;omega,?_⟩ (ih fun b hb => h b (by simp [hb]))
   exact levOk_shift xs 0 hx
 exact this 0 (Int.le_refl 0)
def qQ (bs:List (List Int)):Nat:=(bs.map List.length).sum
theorem xS (bs:List (List Int)):(qB bs).length = qQ bs + 1:=by
 unfold qB qQ
 induction bs with
 | nil => rfl
 | cons b bs ih => simp only [List.flatMap_cons,List.length_cons,List.length_append,List.length_map,List.map_cons,List.sum_cons] at *;omega
theorem jR0 (bs:List (List Int)) (b:List Int):qB (bs ++ [b]) = qB bs ++ b.map (· + 1):=by
 simp [qB,List.flatMap_append]
theorem vD {l m:List (List Int)} (h:l.Perm m):qQ l = qQ m:=(h.map List.length).sum_nat
theorem kE (l m:List (List Int)):qQ (l ++ m) = qQ l + qQ m:=by simp [qQ]
theorem jK {l:List (List Int)} {b:List Int} (h:b ∈ l):b.length ≤ qQ l:=by
 unfold qQ
 induction l with
 | nil => simp at h
 | cons a l ih =>
  rw [List.map_cons,List.sum_cons]
  rcases List.mem_cons.1 h with rfl|h
  ·omega
  ·have:=ih h;omega
theorem brStep_root (acc:List (List Int)) (l:Int) (h:l = 1 ∨ 0 < acc.length):qB (xE acc l) = qB acc ++ [l]:=by
 by_cases e:l = 1
 ·subst e
  rw [vS,jR0];rfl
 ·have hp:=h.resolve_left e
  rw [qK0 acc l e hp]
  obtain ⟨bs,b,rfl⟩:∃ bs b,acc = bs ++ [b]:=⟨acc.dropLast,acc.getLast (by intro e;rw [e] at hp;simp at hp),(List.dropLast_concat_getLast _).symm⟩
  simp only [List.length_append,List.length_singleton,Nat.add_sub_cancel,List.getElem_append_right (Nat.le_refl _),Nat.sub_self,List.getElem_singleton]
  rw [List.set_append_right _ _ (Nat.le_refl _),Nat.sub_self]
  show qB (bs ++ [b ++ [l - 1]]) = _
  rw [jR0,jR0,List.append_assoc,List.map_append]
  congr 2
  simp
theorem brTo_root {t:List Int} (h:qZ t):∀ k,k + 1 ≤ t.length→qB (brTo t k) = t.take (k + 1)
 | 0,hk => by
  have h0:=h.zero h.pos
  obtain ⟨xs,rfl,_⟩:=(LevP_iff t).1 h
  simp [brTo,qB]
 | k + 1,hk => by
  rw [xN t k hk,brStep_root,brTo_root h k (by omega)]
  ·rw [List.take_succ_eq_append_getElem (i:=k + 1) hk]
  ·cases k with
   | zero =>
    left
    have h1:=h.succ hk
    have h0:=h.zero h.pos
    simp at h1 ⊢;omega
   | succ k => right;exact jX0 h k (by omega)
theorem jS0 {t:List Int} (h:qZ t):qB (brs t) = t:=by
 rw [← jH0 t (t.length - 1) (by omega),brTo_root h (t.length - 1) (by have:=h.pos;omega)]
 rw [List.take_of_length_le (by omega)]
theorem kG {t:List Int} (h:qZ t):qQ (brs t) + 1 = t.length:=by
 have:=xS (brs t)
 rw [jS0 h] at this
 omega
theorem kJ0:∀ (ys:List Int) (acc:List (List Int)) (b:List Int),(∀ y ∈ ys,y ≠ 1)→ys.foldl xE (acc ++ [b]) = acc ++ [b ++ ys.map (· - 1)]
 | [],acc,b,_ => by simp
 | y :: ys,acc,b,h => by
  rw [List.foldl_cons,qK0 _ _ (h y (by simp)) (by simp)]
  simp only [List.length_append,List.length_singleton,Nat.add_sub_cancel,List.getElem_append_right (Nat.le_refl _),Nat.sub_self,List.getElem_singleton]
  rw [List.set_append_right _ _ (Nat.le_refl _),Nat.sub_self]
  show ys.foldl xE (acc ++ [b ++ [y - 1]]) = _
  rw [kJ0 ys acc _ (fun y hy => h y (by simp [hy]))]
  simp
theorem levOk_ge:∀ (xs:List Int) (p:Int),levOk p xs→∀ x ∈ xs,1 ≤ x
 | x :: xs,p,⟨h1,_,h3⟩,y,hy => by
  rcases List.mem_cons.1 hy with rfl|hy
  ·exact h1
  ·exact levOk_ge xs x h3 y hy
theorem wP {bs:List (List Int)} (h:∀ b ∈ bs,qZ b):brs (qB bs) = bs:=by
 unfold brs qB
 rw [List.drop_one,List.tail_cons]
 have:∀ (cs:List (List Int)),(∀ b ∈ cs,qZ b)→∀ acc,(cs.flatMap (·.map (· + 1))).foldl xE acc = acc ++ cs:=by
  intro cs
  induction cs with
  | nil => intro _ acc;simp
  | cons b cs ih =>
   intro hc acc
   obtain ⟨xs,rfl,hx⟩:=(LevP_iff b).1 (hc b (by simp))
   rw [List.flatMap_cons,List.foldl_append,List.map_cons,List.foldl_cons]
   rw [show (0:Int) + 1 = 1 from rfl,vS,kJ0]
   ·rw [ih (fun b hb => hc b (by simp [hb]))]
    simp [Function.comp_def]
   ·intro y hy
    obtain ⟨x,hx',rfl⟩:=List.mem_map.1 hy
    have:=levOk_ge xs 0 hx x hx'
    omega
 simpa using this bs h []
def canonF:Nat→List Int→List Int
 | 0,_ => [0]
 | f + 1,t => qB (sortC cmpD ((brs t).map (canonF f)))
def canon (t:List Int):List Int:=canonF t.length t
theorem canonF_eq:∀ (f:Nat) {t:List Int},qZ t→t.length ≤ f→canonF f t = canon t:=by
 have key:∀ (n f g:Nat) (t:List Int),qZ t→t.length ≤ n→t.length ≤ f→t.length ≤ g→canonF f t = canonF g t:=by
  intro n
  induction n with
  | zero => intro f g t h hn;have:=h.pos;omega
  | succ n ih =>
   intro f g t h hn hf hg
   have hp:=h.pos
   obtain ⟨f,rfl⟩:∃ f',f = f' + 1:=⟨f - 1,by omega⟩
   obtain ⟨g,rfl⟩:∃ g',g = g' + 1:=⟨g - 1,by omega⟩
   simp only [canonF]
   congr 2
   apply List.map_congr_left
   intro b hb
   have:=yN h b hb
   exact ih f g b (jC h b hb) (by omega) (by omega) (by omega)
 intro f t h hf
 exact key t.length f t.length t h (Nat.le_refl _) hf (Nat.le_refl _)
theorem kY {t:List Int} (h:qZ t):canon t = qB (sortC cmpD ((brs t).map canon)):=by
 have hp:=h.pos
 obtain ⟨n,hn⟩:∃ n,t.length = n + 1:=⟨t.length - 1,by omega⟩
 unfold canon
 rw [hn]
 simp only [canonF]
 congr 2
 apply List.map_congr_left
 intro b hb
 have:=yN h b hb
 exact canonF_eq n (jC h b hb) (by omega)
theorem canon_both {t:List Int}:qZ t→qZ (canon t)∧(canon t).length = t.length:=by
 have key:∀ (n:Nat) (t:List Int),qZ t→t.length ≤ n→qZ (canon t)∧(canon t).length = t.length:=by
  intro n
  induction n with
  | zero => intro t h hn;have:=h.pos;omega
  | succ n ih =>
   intro t h hn
   rw [kY h]
   have hb:∀ b ∈ brs t,qZ (canon b)∧(canon b).length = b.length:=fun b hb => ih b (jC h b hb) (by have:=yN h b hb;omega)
   refine ⟨vU fun c hc => ?_,?_⟩
   ·rw [yW,List.mem_map] at hc
    obtain ⟨b,hb',rfl⟩:=hc
    exact (hb b hb').1
   ·rw [xS,vD (jH _),← kG h]
    congr 1
    unfold qQ
    rw [List.map_map]
    congr 1
    apply List.map_congr_left
    intro b hb'
    exact (hb b hb').2
 exact fun h => key t.length t h (Nat.le_refl _)
theorem xG {t:List Int} (h:qZ t):qZ (canon t):=(canon_both h).1
theorem wX {t:List Int} (h:qZ t):(canon t).length = t.length:=(canon_both h).2
theorem wV {t:List Int}:qZ t→canon (canon t) = canon t:=by
 have key:∀ (n:Nat) (t:List Int),qZ t→t.length ≤ n→canon (canon t) = canon t:=by
  intro n
  induction n with
  | zero => intro t h hn;have:=h.pos;omega
  | succ n ih =>
   intro t h hn
   have hc:=xG h
   have e:=kY h
   have hbs:∀ c ∈ sortC cmpD ((brs t).map canon),qZ c:=by
    intro c hc
    rw [yW,List.mem_map] at hc
    obtain ⟨b,hb',rfl⟩:=hc
    exact xG (jC h b hb')
   rw [kY hc,e,wP hbs]
   congr 1
   have:(sortC cmpD ((brs t).map canon)).map canon = sortC cmpD ((brs t).map canon):=by
    rw [List.map_congr_left (g:=id),List.map_id]
    intro c hc
    rw [yW,List.mem_map] at hc
    obtain ⟨b,hb',rfl⟩:=hc
    exact ih b (jC h b hb') (by have:=yN h b hb';omega)
   rw [this]
   exact xZ0 cmpD_cmp (kK cmpD_cmp _)
 exact fun h => key t.length t h (Nat.le_refl _)
theorem lev8_lev {t:List Int} (h:lev8 t = true):qZ t:=by
 unfold lev8 levB at h
 simp at h
 exact h.2
theorem lev8_len {t:List Int} (h:lev8 t = true):t.length ≤ 8:=by
 unfold lev8 at h
 simp at h
 exact h.1
theorem lev8_mk {t:List Int} (h:qZ t) (h8:t.length ≤ 8):lev8 t = true:=by
 unfold lev8 levB
 simp [h,h8]
end
section
def mP (n:Int):Int:=n % 10007
section
variable {κ:Type} (c:κ→κ→Int)
def putS:List (Int × κ)→Int→κ→List (Int × κ)
 | [],k,x => if k = 0 then [] else [(k,x)]
 | (a,y) :: L,k,x => if k = 0 then (a,y) :: L else if c x y < 0 then (k,x) :: (a,y) :: L
   else if c x y = 0 then (if mP (a + k) = 0 then L else (mP (a + k),y) :: L) else (a,y) :: putS L k x
def addS (L:List (Int × κ)) (M:List (Int × κ)):List (Int × κ):=M.foldl (fun s q => putS c s q.1 q.2) L
def sumS (M:List (Int × κ)):List (Int × κ):=addS c [] M
def coef (L:List (Int × κ)) (x:κ):Int :=
 match L with
 | [] => 0
 | q :: L => (if c q.2 x = 0 then q.1 else 0) + coef L x
def NfS (L:List (Int × κ)):Prop:=L.Pairwise (fun p q => c p.2 q.2 < 0)∧∀ q ∈ L,1 ≤ q.1∧q.1 < 10007
end
section
variable {κ:Type} {c:κ→κ→Int} (hc:Cmp c)
theorem jD (n:Int):0 ≤ mP n∧mP n < 10007:=⟨Int.emod_nonneg _ (by decide),Int.emod_lt_of_pos _ (by decide)⟩
theorem mP_small {n:Int} (h:0 ≤ n) (h':n < 10007):mP n = n:=Int.emod_eq_of_lt h h'
theorem yQ (q:Int × κ) (L:List (Int × κ)) (x:κ):coef c (q :: L) x = (if c q.2 x = 0 then q.1 else 0) + coef c L x:=rfl
theorem yV0 (x:κ):∀ (L M:List (Int × κ)),coef c (L ++ M) x = coef c L x + coef c M x
 | [],M => by simp [coef]
 | q :: L,M => by rw [List.cons_append,yQ,yQ,yV0 x L M];omega
theorem coef_perm {L M:List (Int × κ)} (h:L.Perm M) (x:κ):coef c L x = coef c M x:=by
 induction h with
 | nil => rfl
 | cons q _ ih => rw [yQ,yQ,ih]
 | swap p q L => simp only [yQ];omega
 | trans _ _ h1 h2 => rw [h1,h2]
theorem qI0 {L:List (Int × κ)} {x:κ} (h:∀ q ∈ L,c q.2 x ≠ 0):coef c L x = 0:=by
 induction L with
 | nil => rfl
 | cons q L ih => rw [yQ,if_neg (h q (by simp)),ih (fun p hp => h p (by simp [hp]))];rfl
theorem qG0 {α:Type} (l:List α):l = [] ∨ ∃ o x,l = o ++ [x]:=by
 rcases List.eq_nil_or_concat l with h|⟨o,x,h⟩
 ·exact .inl h
 ·exact .inr ⟨o,x,by rw [h,List.concat_eq_append]⟩
include hc
theorem Cmp.eq_swap {a b:κ} (h:c a b = 0):c b a = 0:=by rw [hc.zero a b h];exact hc.refl b
theorem Cmp.lt_ne {a b:κ} (h:c a b < 0):c b a ≠ 0:=by
 intro e
 have:=hc.zero b a e
 subst this
 rw [hc.refl] at h;omega
theorem Cmp.lt_tr {a b d:κ} (h1:c a b < 0) (h2:c b d < 0):c a d < 0:=by
 rcases Int.lt_trichotomy (c a d) 0 with h|h|h
 ·exact h
 ·have:=hc.zero a d h
  subst this
  have:=(hc.anti a b).1 h1
  omega
 ·have:=hc.trans a b d (by omega) (by omega)
  omega
theorem NfS.ext:∀ {L M:List (Int × κ)},NfS c L→NfS c M→(∀ x,mP (coef c L x) = mP (coef c M x))→L = M
 | [],[],_,_,_ => rfl
 | [],(b,z) :: M,_,⟨h2,h3⟩,he => by
  exfalso
  rw [List.pairwise_cons] at h2
  have h0:coef c M z = 0:=qI0 (fun q hq => hc.lt_ne (h2.1 q hq))
  have:=he z
  rw [yQ,if_pos (hc.refl z),h0] at this
  have hb:=h3 (b,z) (by simp)
  simp at hb
  simp [coef,mP] at this
  omega
 | (a,y) :: L,[],⟨h2,h3⟩,_,he => by
  exfalso
  rw [List.pairwise_cons] at h2
  have h0:coef c L y = 0:=qI0 (fun q hq => hc.lt_ne (h2.1 q hq))
  have:=he y
  rw [yQ,if_pos (hc.refl y),h0] at this
  have hb:=h3 (a,y) (by simp)
  simp at hb
  simp [coef,mP] at this
  omega
 | (a,y) :: L,(b,z) :: M,⟨h1,h1'⟩,⟨h2,h2'⟩,he => by
  have w1:=h1;have w2:=h2
  rw [List.pairwise_cons] at h1 h2
  have ha:=h1' (a,y) (by simp)
  have hb:=h2' (b,z) (by simp)
  simp only at ha hb
  have hy0:coef c L y = 0:=qI0 (fun q hq => hc.lt_ne (h1.1 q hq))
  have hz0:coef c M z = 0:=qI0 (fun q hq => hc.lt_ne (h2.1 q hq))
  rcases Int.lt_trichotomy (c y z) 0 with h|h|h
  ·exfalso
   have h4:coef c ((b,z) :: M) y = 0:=qI0 (fun q hq => by
    rcases List.mem_cons.1 hq with rfl|hq
    ·exact hc.lt_ne h
    ·exact hc.lt_ne (hc.lt_tr h (h2.1 q hq)))
   have:=he y
   rw [h4,yQ,if_pos (hc.refl y),hy0] at this
   simp [mP] at this
   omega
  ·obtain rfl:=hc.zero y z h
   have hab:a = b:=by
    have:=he y
    rw [yQ,yQ,if_pos (hc.refl y),if_pos (hc.refl y),hy0,hz0] at this
    simp [mP] at this
    omega
   subst hab
   have:=NfS.ext (L:=L) (M:=M) ⟨h1.2,fun q hq => h1' q (by simp [hq])⟩ ⟨h2.2,fun q hq => h2' q (by simp [hq])⟩ (fun x => by
    have:=he x
    rw [yQ,yQ] at this
    unfold mP at this ⊢
    omega)
   rw [this]
  ·exfalso
   have h:=(hc.anti z y).2 h
   have h4:coef c ((a,y) :: L) z = 0:=qI0 (fun q hq => by
    rcases List.mem_cons.1 hq with rfl|hq
    ·exact hc.lt_ne h
    ·exact hc.lt_ne (hc.lt_tr h (h1.1 q hq)))
   have:=he z
   rw [h4,yQ,if_pos (hc.refl z),hz0] at this
   simp [mP] at this
   omega
omit hc in
theorem putS_mem:∀ (L:List (Int × κ)) (k:Int) (x:κ) {q:Int × κ},q ∈ putS c L k x→q.2 = x ∨ ∃ p ∈ L,p.2 = q.2
 | [],k,x,q,h => by
  unfold putS at h
  split at h
  ·cases h
  ·simp at h;subst h;exact .inl rfl
 | (a,y) :: L,k,x,q,h => by
  unfold putS at h
  split at h
  ·exact .inr ⟨q,h,rfl⟩
  ·split at h
   ·rcases List.mem_cons.1 h with rfl|h
    ·exact .inl rfl
    ·exact .inr ⟨q,h,rfl⟩
   ·split at h
    ·split at h
     ·exact .inr ⟨q,by simp [h],rfl⟩
     ·rcases List.mem_cons.1 h with rfl|h
      ·exact .inr ⟨(a,y),by simp,rfl⟩
      ·exact .inr ⟨q,by simp [h],rfl⟩
    ·rcases List.mem_cons.1 h with rfl|h
     ·exact .inr ⟨(a,y),by simp,rfl⟩
     ·rcases putS_mem L k x h with h|⟨p,h1,h2⟩
      ·exact .inl h
      ·exact .inr ⟨p,by simp [h1],h2⟩
theorem putS_nf:∀ {L:List (Int × κ)} {k:Int} {x:κ},NfS c L→0 ≤ k→k < 10007→NfS c (putS c L k x)
 | [],k,x,h,h0,h1 => by
  unfold putS
  split
  ·exact h
  ·exact ⟨List.pairwise_singleton _ _,fun q hq => by simp at hq;subst hq;simp;omega⟩
 | (a,y) :: L,k,x,⟨h2,h3⟩,h0,h1 => by
  have hw:=h2
  rw [List.pairwise_cons] at h2
  have ha:=h3 (a,y) (by simp)
  simp only at ha
  unfold putS
  split
  ·exact ⟨hw,h3⟩
  ·split
   ·rename_i hk hlt
    refine ⟨List.pairwise_cons.2 ⟨fun q hq => ?_,hw⟩,fun q hq => ?_⟩
    ·rcases List.mem_cons.1 hq with rfl|hq
     ·exact hlt
     ·exact hc.lt_tr hlt (h2.1 q hq)
    ·rcases List.mem_cons.1 hq with rfl|hq
     ·simp;omega
     ·exact h3 q hq
   ·split
    ·split
     ·exact ⟨h2.2,fun q hq => h3 q (by simp [hq])⟩
     ·refine ⟨List.pairwise_cons.2 ⟨h2.1,h2.2⟩,fun q hq => ?_⟩
      rcases List.mem_cons.1 hq with rfl|hq
      ·have:=jD (a + k);simp only;omega
      ·exact h3 q (by simp [hq])
    ·rename_i hk hnl hne
     have ih:=putS_nf (k:=k) (x:=x) ⟨h2.2,fun q hq => h3 q (by simp [hq])⟩ h0 h1
     have hyx:c y x < 0:=by
      rcases Int.lt_trichotomy (c x y) 0 with h|h|h
      ·exact absurd h hnl
      ·exact absurd h hne
      ·exact (hc.anti y x).2 h
     refine ⟨List.pairwise_cons.2 ⟨fun q hq => ?_,ih.1⟩,fun q hq => ?_⟩
     ·rcases putS_mem L k x hq with h|⟨p,hp,h⟩
      ·rw [h];exact hyx
      ·rw [← h];exact h2.1 p hp
     ·rcases List.mem_cons.1 hq with rfl|hq
      ·exact ha
      ·exact ih.2 q hq
theorem putS_coef (z:κ):∀ (L:List (Int × κ)) (k:Int) (x:κ),mP (coef c (putS c L k x) z) = mP (coef c L z + if c x z = 0 then k else 0)
 | [],k,x => by
  unfold putS
  split
  ·rename_i h;subst h;simp
  ·simp [coef]
 | (a,y) :: L,k,x => by
  unfold putS
  split
  ·rename_i h;subst h;simp
  ·split
   ·rw [yQ];congr 1;simp only;omega
   ·split
    ·rename_i h
     obtain rfl:=hc.zero x y h
     split
     ·rename_i h4
      rw [yQ]
      by_cases h5:c x z = 0
      ·simp only [if_pos h5];unfold mP at h4 ⊢;omega
      ·simp only [if_neg h5];congr 1;omega
     ·rw [yQ,yQ]
      by_cases h5:c x z = 0
      ·simp only [if_pos h5];unfold mP;omega
      ·simp only [if_neg h5];congr 1;omega
    ·rw [yQ,yQ]
     have ih:=putS_coef z L k x
     unfold mP at ih ⊢
     omega
theorem addS_nf:∀ {M L:List (Int × κ)},NfS c L→(∀ q ∈ M,0 ≤ q.1∧q.1 < 10007)→NfS c (addS c L M)
 | [],L,h,_ => h
 | q :: M,L,h,hM => addS_nf (M:=M) (putS_nf hc h (hM q (by simp)).1 (hM q (by simp)).2) (fun p hp => hM p (by simp [hp]))
theorem addS_coef (z:κ):∀ (M L:List (Int × κ)),mP (coef c (addS c L M) z) = mP (coef c L z + coef c M z)
 | [],L => by simp [addS,coef]
 | q :: M,L => by
  show mP (coef c (addS c (putS c L q.1 q.2) M) z) = _
  have h1:=addS_coef z M (putS c L q.1 q.2)
  have h2:=putS_coef hc z L q.1 q.2
  rw [h1,yQ]
  unfold mP at h2 ⊢
  omega
theorem xH {M:List (Int × κ)} (hM:∀ q ∈ M,0 ≤ q.1∧q.1 < 10007):NfS c (sumS c M):=addS_nf hc ⟨List.Pairwise.nil,fun q hq => nomatch hq⟩ hM
theorem sumS_coef (M:List (Int × κ)) (z:κ):mP (coef c (sumS c M) z) = mP (coef c M z):=by
 have:=addS_coef hc z M []
 rw [show coef c [] z = 0 from rfl,Int.zero_add] at this
 exact this
theorem sumS_self {L:List (Int × κ)} (h:NfS c L):sumS c L = L :=
 NfS.ext hc (xH hc (fun q hq => by have:=h.2 q hq;omega)) h (fun x => sumS_coef hc L x)
omit hc
def jS (c:κ→κ→Int):List (Int × κ)→List (Int × κ)→List (Int × κ)
 | out,[] => out
 | out,(a,x) :: M => jS c (match out.getLast? with
  | some (b,y) => if c y x = 0 then out.dropLast ++ [(mP (b + a),y)] else out ++ [(mP a,x)]
  | none => [(mP a,x)]) M
include hc
theorem mergeTo_coef (z:κ):∀ (M out:List (Int × κ)),mP (coef c (jS c out M) z) = mP (coef c out z + coef c M z)
 | [],out => by simp [jS,coef]
 | (a,x) :: M,out => by
  unfold jS
  rw [mergeTo_coef z M,yQ]
  rcases qG0 out with rfl|⟨o,⟨b,y⟩,rfl⟩
  ·simp only [List.getLast?_nil,coef]
   by_cases h5:c x z = 0
   ·simp only [if_pos h5];unfold mP;omega
   ·simp only [if_neg h5];unfold mP;omega
  ·rw [List.getLast?_concat]
   simp only
   split
   ·rename_i h
    obtain rfl:=hc.zero y x h
    rw [List.dropLast_concat,yV0,yV0]
    simp only [coef]
    by_cases h5:c y z = 0
    ·simp only [if_pos h5];unfold mP;omega
    ·simp only [if_neg h5];congr 1;omega
   ·rw [yV0]
    simp only [coef]
    by_cases h5:c x z = 0
    ·simp only [if_pos h5];unfold mP;omega
    ·simp only [if_neg h5];unfold mP;omega
theorem yB0:∀ (M out:List (Int × κ)),M.Pairwise (fun p q => c p.2 q.2 ≤ 0)→out.Pairwise (fun p q => c p.2 q.2 < 0)→(∀ p ∈ out,∀ q ∈ M,c p.2 q.2 ≤ 0)→(∀ q ∈ out,0 ≤ q.1∧q.1 < 10007) →
  (jS c out M).Pairwise (fun p q => c p.2 q.2 < 0)∧∀ q ∈ jS c out M,0 ≤ q.1∧q.1 < 10007
 | [],out,_,h2,_,h4 => ⟨h2,h4⟩
 | (a,x) :: M,out,h1,h2,h3,h4 => by
  rw [List.pairwise_cons] at h1
  unfold jS
  rcases qG0 out with rfl|⟨o,⟨b,y⟩,rfl⟩
  ·simp only [List.getLast?_nil]
   exact yB0 M _ h1.2 (List.pairwise_singleton _ _) (fun p hp q hq => by simp at hp;subst hp;exact h1.1 q hq) (fun q hq => by simp at hq;subst hq;exact jD a)
  ·rw [List.getLast?_concat]
   simp only
   have h2':=List.pairwise_append.1 h2
   split
   ·rename_i h
    obtain rfl:=hc.zero y x h
    rw [List.dropLast_concat]
    refine yB0 M _ h1.2 (List.pairwise_append.2 ⟨h2'.1,List.pairwise_singleton _ _,fun p hp q hq => ?_⟩) (fun p hp q hq => ?_) (fun q hq => ?_)
    ·simp at hq;subst hq;exact h2'.2.2 p hp (b,y) (by simp)
    ·rcases List.mem_append.1 hp with hp|hp
     ·exact h3 p (by simp [hp]) q (by simp [hq])
     ·simp at hp;subst hp;exact h1.1 q hq
    ·rcases List.mem_append.1 hq with hq|hq
     ·exact h4 q (by simp [hq])
     ·simp at hq;subst hq;exact jD _
   ·rename_i h
    have hyx:c y x < 0:=by
     have:=h3 (b,y) (by simp) (a,x) (by simp)
     simp only at this
     omega
    refine yB0 M _ h1.2 (List.pairwise_append.2 ⟨h2,List.pairwise_singleton _ _,fun p hp q hq => ?_⟩) (fun p hp q hq => ?_) (fun q hq => ?_)
    ·simp at hq;subst hq
     rcases List.mem_append.1 hp with hp|hp
     ·exact hc.lt_tr (h2'.2.2 p hp (b,y) (by simp)) hyx
     ·simp at hp;subst hp;exact hyx
    ·rcases List.mem_append.1 hp with hp|hp
     ·exact h3 p hp q (by simp [hq])
     ·simp at hp;subst hp;exact h1.1 q hq
    ·rcases List.mem_append.1 hq with hq|hq
     ·exact h4 q hq
     ·simp at hq;subst hq;exact jD _
omit hc in
theorem coef_filter (z:κ) (L:List (Int × κ)):coef c (L.filter fun q => !decide (q.1 = 0)) z = coef c L z:=by
 induction L with
 | nil => rfl
 | cons q L ih =>
  rw [List.filter_cons]
  by_cases h:q.1 = 0
  ·simp only [h,decide_true,Bool.not_true,Bool.false_eq_true,if_false,ih,yQ];simp
  ·simp only [h,decide_false,Bool.not_false,if_true,yQ,ih]
theorem merge_sum {L S:List (Int × κ)} (hp:S.Perm L) (hs:S.Pairwise (fun p q => c p.2 q.2 ≤ 0)) (hL:∀ q ∈ L,0 ≤ q.1∧q.1 < 10007) :
  (jS c [] S).filter (fun q => !decide (q.1 = 0)) = sumS c L:=by
 obtain ⟨h1,h2⟩:=yB0 hc S [] hs List.Pairwise.nil (fun p hp => nomatch hp) (fun q hq => nomatch hq)
 refine NfS.ext hc ⟨h1.filter _,fun q hq => ?_⟩ (xH hc hL) (fun x => ?_)
 ·rw [List.mem_filter] at hq
  have:=h2 q hq.1
  have h0:q.1 ≠ 0:=by simpa using hq.2
  omega
 ·rw [coef_filter,sumS_coef hc,mergeTo_coef hc,← coef_perm hp]
  simp [coef]
end
end
section
def thenC {α:Type} (f:α→Int) (c:α→α→Int) (a b:α):Int:=if f a = f b then c a b else f a - f b
def lexC {α:Type} (c:α→α→Int):List α→List α→Int
 | [],[] => 0
 | [],_ :: _ => -1
 | _ :: _,[] => 1
 | a :: xs,b :: bs => if c a b = 0 then lexC c xs bs else c a b
theorem thenC_cmp {α:Type} {f:α→Int} {c:α→α→Int} (h:Cmp c):Cmp (thenC f c) where
 zero a b e:=by
  unfold thenC at e
  split at e
  ·exact h.zero a b e
  ·omega
 refl a:=by unfold thenC;rw [if_pos rfl];exact h.refl a
 anti a b:=by
  unfold thenC
  by_cases e:f a = f b
  ·rw [if_pos e,if_pos e.symm];exact h.anti a b
  ·rw [if_neg e,if_neg (fun k => e k.symm)];omega
 trans a b d h1 h2:=by
  unfold thenC at h1 h2 ⊢
  split at h1 <;> split at h2 <;> split <;> first|omega|(exact h.trans a b d h1 h2)
theorem Cmp.sym0 {α:Type} {c:α→α→Int} (h:Cmp c) {a b:α} (e:c a b = 0):c b a = 0:=by rw [h.zero a b e];exact h.refl b
theorem lexC_cmp {α:Type} {c:α→α→Int} (h:Cmp c):Cmp (lexC c) where
 zero:=by
  intro a
  induction a with
  | nil => intro b e;cases b with
   | nil => rfl
   | cons y bs => simp [lexC] at e
  | cons x xs ih => intro b e;cases b with
   | nil => simp [lexC] at e
   | cons y bs =>
    unfold lexC at e
    split at e
    ·rename_i h1;rw [h.zero x y h1,ih bs e]
    ·rename_i h1;exact absurd e h1
 refl:=by
  intro a
  induction a with
  | nil => rfl
  | cons x xs ih => unfold lexC;rw [if_pos (h.refl x)];exact ih
 anti:=by
  intro a
  induction a with
  | nil => intro b;cases b <;> simp [lexC]
  | cons x xs ih => intro b;cases b with
   | nil => simp [lexC]
   | cons y bs =>
    unfold lexC
    by_cases e:c x y = 0
    ·rw [if_pos e,if_pos (h.sym0 e)];exact ih bs
    ·rw [if_neg e,if_neg (fun k => e (h.sym0 k))];exact h.anti x y
 trans:=by
  intro a
  induction a with
  | nil => intro b d _ h2;cases d with
   | nil => simp [lexC]
   | cons z ds => simp [lexC]
  | cons x xs ih => intro b d h1 h2;cases b with
   | nil => simp [lexC] at h1
   | cons y bs => cases d with
    | nil => simp [lexC] at h2
    | cons z ds =>
     unfold lexC at h1 h2 ⊢
     have l1:c x y ≤ 0:=by split at h1 <;> omega
     have l2:c y z ≤ 0:=by split at h2 <;> omega
     have l3:=h.trans x y z l1 l2
     by_cases e:c x z = 0
     ·rw [if_pos e]
      obtain rfl:=h.zero x z e
      have e1:c x y = 0:=by
       rcases Int.lt_trichotomy (c x y) 0 with k|k|k
       ·have:=(h.anti x y).1 k;omega
       ·exact k
       ·omega
      rw [if_pos e1] at h1
      rw [if_pos (h.sym0 e1)] at h2
      exact ih bs ds h1 h2
     ·rw [if_neg e];exact l3
def cmpF:List (List Int)→List (List Int)→Int:=thenC (fun f => (qQ f:Int)) (thenC (fun f => (f.length:Int)) (lexC cmpT))
theorem jV:Cmp cmpF:=thenC_cmp (thenC_cmp (lexC_cmp yF))
def sgn (n:Int):Int:=if n < 0 then -1 else if n = 0 then 0 else 1
end
section
section
variable {α:Type} {c:α→α→Int} (hc:Cmp c)
include hc
end
def mulF (f g:List (List Int)):List (List Int):=sortC cmpT (f ++ g)
theorem wJ (f g:List (List Int)):(mulF f g).length = f.length + g.length:=by unfold mulF;rw [wN,List.length_append]
theorem kU (f g:List (List Int)):qQ (mulF f g) = qQ f + qQ g:=by
 unfold mulF;rw [vD (jH _)];simp [qQ]
theorem mulF_comm (f g:List (List Int)):mulF f g = mulF g f:=qN0 yF (List.perm_append_comm)
theorem jW0 (f g:List (List Int)):(mulF f g).Pairwise (fun a b => cmpT a b ≤ 0):=kK yF _
def prodL (d e:List (Int × List (List Int))):List (Int × List (List Int)):=d.flatMap fun p => e.map fun q => (mP (p.1 * q.1),mulF p.2 q.2)
def SrtF (L:List (Int × List (List Int))):Prop:=∀ q ∈ L,q.2.Pairwise fun a b => cmpT a b ≤ 0
theorem prodL_snoc (d e:List (Int × List (List Int))) (p:Int × List (List Int)):prodL (d ++ [p]) e = prodL d e ++ e.map fun q => (mP (p.1 * q.1),mulF p.2 q.2):=by
 unfold prodL;rw [List.flatMap_append];simp
def cmpN:List (List Int)→List (List Int)→Int:=thenC (fun f => (f.length:Int)) (lexC cmpT)
theorem cmpN_eq (f g:List (List Int)):cmpN f g = if (f.length:Int) = g.length then lexC cmpT f g else (f.length:Int) - g.length:=rfl
theorem cmpF_N (f g:List (List Int)):cmpF f g = if (qQ f:Int) = qQ g then cmpN f g else (qQ f:Int) - qQ g:=rfl
end
section
section
variable {κ:Type} (c:κ→κ→Int)
def putN:List (κ × Int)→Int→κ→List (κ × Int)
 | [],k,x => [(x,k)]
 | p :: L,k,x => if c x p.1 < 0 then (x,k) :: p :: L else if c x p.1 = 0 then (p.1,p.2 + k) :: L else p :: putN L k x
def expN (L:List (κ × Int)):List κ:=L.flatMap fun p => List.replicate p.2.toNat p.1
def NfN (L:List (κ × Int)):Prop:=L.Pairwise (fun p q => c p.1 q.1 < 0)∧∀ q ∈ L,1 ≤ q.2
def IsN (L:List (κ × Int)) (M:List κ):Prop:=NfN c L∧(expN L).Perm M
end
section
variable {κ:Type} {c:κ→κ→Int}
theorem yK (p:κ × Int) (L:List (κ × Int)):expN (p :: L) = List.replicate p.2.toNat p.1 ++ expN L:=rfl
theorem qX0 (L M:List (κ × Int)):expN (L ++ M) = expN L ++ expN M:=by simp [expN]
theorem expN_mem {L:List (κ × Int)} {x:κ} (h:x ∈ expN L):∃ p ∈ L,p.1 = x:=by
 obtain ⟨p,hp,h⟩:=List.mem_flatMap.1 h
 exact ⟨p,hp,(List.eq_of_mem_replicate h).symm⟩
theorem mem_expN {L:List (κ × Int)} {p:κ × Int} (h:p ∈ L) (h1:1 ≤ p.2):p.1 ∈ expN L :=
 List.mem_flatMap.2 ⟨p,h,List.mem_replicate.2 ⟨by omega,rfl⟩⟩
theorem NfN.nil:NfN c []:=⟨List.Pairwise.nil,fun q hq => nomatch hq⟩
theorem IsN.nil:IsN c [] []:=⟨NfN.nil,List.Perm.refl _⟩
theorem IsN.perm {L:List (κ × Int)} {M M':List κ} (h:IsN c L M) (hp:M.Perm M'):IsN c L M':=⟨h.1,h.2.trans hp⟩
theorem NfN.tail {p:κ × Int} {L:List (κ × Int)} (h:NfN c (p :: L)):NfN c L:=⟨(List.pairwise_cons.1 h.1).2,fun q hq => h.2 q (List.mem_cons_of_mem _ hq)⟩
variable (hc:Cmp c)
include hc
theorem NfN.ext:∀ {L L':List (κ × Int)},NfN c L→NfN c L'→(expN L).Perm (expN L')→L = L'
 | [],[],_,_,_ => rfl
 | [],q :: L',_,h',hp => by
  have:=hp.length_eq
  have h1:=h'.2 q (by simp)
  rw [yK,List.length_append,List.length_replicate] at this
  simp [expN] at this;omega
 | p :: L,[],h,_,hp => by
  have:=hp.length_eq
  have h1:=h.2 p (by simp)
  rw [yK,List.length_append,List.length_replicate] at this
  simp [expN] at this;omega
 | p :: L,q :: L',h,h',hp => by
  have hp1:=h.2 p (by simp)
  have hq1:=h'.2 q (by simp)
  have low:∀ {p:κ × Int} {L:List (κ × Int)},NfN c (p :: L)→∀ x ∈ expN (p :: L),c p.1 x ≤ 0:=fun {p L} h x hx => by
   obtain ⟨r,hr,rfl⟩:=expN_mem hx
   rcases List.mem_cons.1 hr with rfl|hr
   ·rw [hc.refl];omega
   ·have:=(List.pairwise_cons.1 h.1).1 r hr;omega
  have e1:=low h q.1 (hp.mem_iff.2 (mem_expN (by simp) hq1))
  have e2:=low h' p.1 (hp.mem_iff.1 (mem_expN (by simp) hp1))
  have ek:p.1 = q.1:=by
   apply hc.zero
   rcases Int.lt_or_eq_of_le e1 with e|e
   ·have:=(hc.anti _ _).1 e;omega
   ·exact e
  have no:∀ {p:κ × Int} {L:List (κ × Int)},NfN c (p :: L)→p.1 ∉ expN L:=fun {p L} h hx => by
   obtain ⟨r,hr,e⟩:=expN_mem hx
   have:=(List.pairwise_cons.1 h.1).1 r hr
   rw [e,hc.refl] at this;omega
  have hcnt:∀ {p:κ × Int} {L:List (κ × Int)},NfN c (p :: L)→(expN (p :: L)).countP (fun x => decide (c p.1 x = 0)) = p.2.toNat:=fun {p L} h => by
   rw [yK,List.countP_append,List.countP_replicate,if_pos (by simp [hc.refl])]
   have:(expN L).countP (fun x => decide (c p.1 x = 0)) = 0:=List.countP_eq_zero.2 fun x hx => by
    have:c p.1 x ≠ 0:=fun e => no h (by rw [hc.zero _ _ e];exact hx)
    simpa using this
   omega
  have c1:=hcnt h
  have c2:=hcnt h'
  rw [← ek,← hp.countP_eq] at c2
  have en:p.2 = q.2:=by omega
  have epq:p = q:=Prod.ext ek en
  subst epq
  rw [yK,yK,List.perm_append_left_iff] at hp
  rw [NfN.ext h.tail h'.tail hp]
theorem IsN.ext {L L':List (κ × Int)} {M M':List κ} (h:IsN c L M) (h':IsN c L' M') (hp:M.Perm M'):L = L' :=
 NfN.ext hc h.1 h'.1 (h.2.trans (hp.trans h'.2.symm))
theorem putN_exp:∀ (L:List (κ × Int)) (k:Int) (x:κ),(∀ q ∈ L,1 ≤ q.2)→1 ≤ k→(expN (putN c L k x)).Perm (expN L ++ List.replicate k.toNat x)
 | [],k,x,_,_ => by simp [putN,expN]
 | p :: L,k,x,h,hk => by
  unfold putN
  split
  ·rw [yK];exact List.perm_append_comm
  ·split
   ·rename_i e
    rw [yK,yK,hc.zero _ _ e]
    have:=h p (by simp)
    show (List.replicate (p.2 + k).toNat p.1 ++ expN L).Perm _
    rw [show (p.2 + k).toNat = p.2.toNat + k.toNat by omega,← List.replicate_append_replicate,List.append_assoc,List.append_assoc]
    exact (List.perm_append_left_iff _).2 List.perm_append_comm
   ·rw [yK,yK,List.append_assoc]
    exact (List.perm_append_left_iff _).2 (putN_exp L k x (fun q hq => h q (by simp [hq])) hk)
omit hc in
theorem putN_mem:∀ (L:List (κ × Int)) (k:Int) (x:κ) {q:κ × Int},q ∈ putN c L k x→q.1 = x ∨ ∃ p ∈ L,p.1 = q.1
 | [],k,x,q,h => by
  obtain rfl:q = (x,k):=by simpa [putN] using h
  exact .inl rfl
 | p :: L,k,x,q,h => by
  unfold putN at h
  split at h
  ·rcases List.mem_cons.1 h with rfl|h
   ·exact .inl rfl
   ·exact .inr ⟨q,h,rfl⟩
  ·split at h
   ·rcases List.mem_cons.1 h with rfl|h
    ·exact .inr ⟨p,by simp,rfl⟩
    ·exact .inr ⟨q,by simp [h],rfl⟩
   ·rcases List.mem_cons.1 h with rfl|h
    ·exact .inr ⟨q,by simp,rfl⟩
    ·rcases putN_mem L k x h with h|⟨r,h1,h2⟩
     ·exact .inl h
     ·exact .inr ⟨r,by simp [h1],h2⟩
theorem putN_nf:∀ {L:List (κ × Int)} {k:Int} {x:κ},NfN c L→1 ≤ k→NfN c (putN c L k x)
 | [],k,x,_,hk => ⟨by simp [putN],fun q hq => by
   have:q = (x,k):=by simpa [putN] using hq
   rw [this];exact hk⟩
 | p :: L,k,x,h,hk => by
  have h1:=List.pairwise_cons.1 h.1
  have h2:=h.2 p (by simp)
  unfold putN
  split
  ·rename_i hlt
   refine ⟨List.pairwise_cons.2 ⟨fun q hq => ?_,h.1⟩,fun q hq => ?_⟩
   ·rcases List.mem_cons.1 hq with rfl|hq
    ·exact hlt
    ·exact hc.lt_tr hlt (h1.1 q hq)
   ·rcases List.mem_cons.1 hq with rfl|hq
    ·exact hk
    ·exact h.2 q hq
  ·split
   ·refine ⟨List.pairwise_cons.2 ⟨h1.1,h1.2⟩,fun q hq => ?_⟩
    rcases List.mem_cons.1 hq with rfl|hq
    ·show 1 ≤ p.2 + k;omega
    ·exact h.2 q (by simp [hq])
   ·rename_i n1 n2
    have ih:=putN_nf (x:=x) h.tail hk
    refine ⟨List.pairwise_cons.2 ⟨fun q hq => ?_,ih.1⟩,fun q hq => ?_⟩
    ·rcases putN_mem L k x hq with e|⟨r,hr,e⟩
     ·rw [e,hc.anti];omega
     ·rw [← e];exact h1.1 r hr
    ·rcases List.mem_cons.1 hq with rfl|hq
     ·exact h2
     ·exact ih.2 q hq
theorem IsN.put {L:List (κ × Int)} {M:List κ} (h:IsN c L M) {k:Int} {x:κ} (hk:1 ≤ k):IsN c (putN c L k x) (M ++ List.replicate k.toNat x) :=
 ⟨putN_nf hc h.1 hk,(putN_exp hc L k x h.1.2 hk).trans ((List.perm_append_right_iff _).2 h.2)⟩
theorem IsN.puts:∀ (P:List (κ × Int)) {L:List (κ × Int)} {M:List κ},IsN c L M→(∀ p ∈ P,1 ≤ p.2)→IsN c (P.foldl (fun s p => putN c s p.2 p.1) L) (M ++ expN P)
 | [],L,M,h,_ => by simpa [expN] using h
 | p :: P,L,M,h,hp => by
  have:=IsN.puts P (h.put hc (hp p (by simp)) (x:=p.1)) (fun q hq => hp q (by simp [hq]))
  rw [yK,← List.append_assoc]
  exact this
omit hc in
theorem rep_flat {β γ:Type} (n:Nat) (L:List β) (f:β→List γ):((List.replicate n L).flatten.flatMap f).Perm (L.flatMap fun b => (List.replicate n (f b)).flatten):=by
 induction L with
 | nil => simp
 | cons b L ih =>
  have key:∀ n,((List.replicate n (b :: L)).flatten.flatMap f).Perm ((List.replicate n (f b)).flatten ++ (List.replicate n L).flatten.flatMap f):=by
   intro n
   induction n with
   | zero => simp
   | succ n ih2 =>
    rw [List.replicate_succ,List.flatten_cons,List.flatMap_append,List.flatMap_cons,List.replicate_succ,List.flatten_cons,List.replicate_succ,List.flatten_cons,List.flatMap_append]
    refine ((List.perm_append_left_iff _).2 ih2).trans ?_
    rw [List.append_assoc,List.append_assoc]
    refine (List.perm_append_left_iff _).2 ?_
    rw [← List.append_assoc,← List.append_assoc]
    exact (List.perm_append_right_iff _).2 List.perm_append_comm
  refine (key n).trans ?_
  rw [List.flatMap_cons]
  exact (List.perm_append_left_iff _).2 ih
omit hc in
theorem rep_map {β γ:Type} (n m:Nat) (a:β) (f:β→γ):(List.replicate n (List.replicate m (f a))).flatten = List.replicate (n * m) (f a):=by
 induction n with
 | zero => simp
 | succ n ih => rw [List.replicate_succ,List.flatten_cons,ih,Nat.succ_mul,Nat.add_comm (n * m),List.replicate_append_replicate]
omit hc in
theorem exp_prod {α β:Type} (f:α→β→κ) (B:List (β × Int)) (hB:∀ q ∈ B,1 ≤ q.2):∀ (A:List (α × Int)),(∀ p ∈ A,1 ≤ p.2) →
  (expN (A.flatMap fun a => B.map fun b => (f a.1 b.1,a.2 * b.2))).Perm ((expN A).flatMap fun a => (expN B).map (f a))
 | [],_ => by simp [expN]
 | a :: A,hA => by
  have ih:=exp_prod f B hB A (fun p hp => hA p (by simp [hp]))
  have ha:=hA a (by simp)
  rw [List.flatMap_cons,qX0,yK,List.flatMap_append]
  refine List.Perm.append ?_ ih
  have e1:(List.replicate a.2.toNat a.1).flatMap (fun x => (expN B).map (f x)) = ((List.replicate a.2.toNat (expN B)).flatten).flatMap (fun b => [f a.1 b]):=by
   rw [List.flatMap_replicate]
   generalize a.2.toNat = n
   induction n with
   | zero => simp
   | succ n ih => rw [List.replicate_succ,List.flatten_cons,List.replicate_succ,List.flatten_cons,List.flatMap_append,← ih];congr 1;simp [List.map_eq_flatMap]
  rw [e1]
  refine List.Perm.symm ((rep_flat _ _ _).trans ?_)
  clear ih e1
  have e2:∀ (B:List (β × Int)),(∀ q ∈ B,1 ≤ q.2)→((expN B).flatMap fun b => (List.replicate a.2.toNat [f a.1 b]).flatten) = expN (B.map fun b => (f a.1 b.1,a.2 * b.2)):=by
   intro B
   induction B with
   | nil => intro _;rfl
   | cons b B ih =>
    intro hB
    rw [yK,List.flatMap_append,ih (fun q hq => hB q (by simp [hq])),List.map_cons,yK]
    congr 1
    have hb:=hB b (by simp)
    rw [List.flatMap_replicate]
    have:(List.replicate a.2.toNat [f a.1 b.1]).flatten = List.replicate a.2.toNat (f a.1 b.1):=by simp
    rw [this,rep_map (a:=b.1) (f:=fun y => f a.1 y)]
    congr 1
    rw [Int.toNat_mul (by omega) (by omega),Nat.mul_comm]
  rw [e2 B hB]
omit hc in
theorem yD0 {α β:Type} {f g:α→List β}:∀ (l:List α),(∀ a ∈ l,(f a).Perm (g a))→(l.flatMap f).Perm (l.flatMap g)
 | [],_ => .refl _
 | a :: l,h => by
  rw [List.flatMap_cons,List.flatMap_cons]
  exact (h a (by simp)).append (yD0 l fun b hb => h b (by simp [hb]))
omit hc in
theorem perm_prod {α β γ:Type} {A A':List α} {B B':List β} (f:α→β→γ) (h1:A.Perm A') (h2:B.Perm B'):(A.flatMap fun a => B.map (f a)).Perm (A'.flatMap fun a => B'.map (f a)) :=
 (h1.flatMap_right _).trans (yD0 _ fun a _ => h2.map (f a))
def timesN {κ:Type} (c:κ→κ→Int) (f:κ→κ→κ) (A B:List (κ × Int)):List (κ × Int) :=
 (A.flatMap fun a => B.map fun b => (f a.1 b.1,a.2 * b.2)).foldl (fun s p => putN c s p.2 p.1) []
theorem IsN.times (f:κ→κ→κ) {A B:List (κ × Int)} {M N:List κ} (hA:IsN c A M) (hB:IsN c B N):IsN c (timesN c f A B) (M.flatMap fun a => N.map (f a)):=by
 have h:=IsN.puts hc (A.flatMap fun a => B.map fun b => (f a.1 b.1,a.2 * b.2)) (IsN.nil (c:=c)) (fun p hp => by
  obtain ⟨a,ha,hp⟩:=List.mem_flatMap.1 hp
  obtain ⟨b,hb,rfl⟩:=List.mem_map.1 hp
  have h1:=hA.1.2 a ha
  have h2:=hB.1.2 b hb
  exact Int.mul_pos h1 h2)
 rw [List.nil_append] at h
 exact h.perm ((exp_prod f B hB.1.2 A hA.1.2).trans (perm_prod f hA.2 hB.2))
omit hc
theorem putN_skip {k:Int} {x:κ} (M:List (κ × Int)):∀ {L:List (κ × Int)},(∀ q ∈ L,0 < c x q.1)→putN c (L ++ M) k x = L ++ putN c M k x
 | [],_ => rfl
 | p :: L,h => by
  have h1:=h p (by simp)
  rw [List.cons_append]
  conv => lhs;unfold putN
  rw [if_neg (by omega),if_neg (by omega),putN_skip M (fun q hq => h q (by simp [hq]))]
  rfl
theorem IsN.cnt {L:List (κ × Int)} {M:List κ} (h:IsN c L M):∀ p ∈ L,1 ≤ p.2∧p.2 ≤ M.length:=fun p hp => by
 have h1:=h.1.2 p hp
 refine ⟨h1,?_⟩
 have hl:=h.2.length_eq
 obtain ⟨s,t,rfl⟩:=List.append_of_mem hp
 rw [qX0,yK,List.length_append,List.length_append,List.length_replicate] at hl
 omega
theorem IsN.len {L:List (κ × Int)} {M:List κ} (h:IsN c L M):L.length ≤ M.length:=by
 rw [← h.2.length_eq]
 have key:∀ (L:List (κ × Int)),(∀ p ∈ L,1 ≤ p.2)→L.length ≤ (expN L).length:=by
  intro L
  induction L with
  | nil => intro _;exact Nat.le_refl _
  | cons p L ih =>
   intro hp
   have h1:=hp p (by simp)
   have h2:=ih (fun q hq => hp q (by simp [hq]))
   rw [yK,List.length_append,List.length_replicate,List.length_cons];omega
 exact key L h.1.2
theorem IsN.key {L:List (κ × Int)} {M:List κ} (h:IsN c L M):∀ p ∈ L,p.1 ∈ M:=fun p hp => h.2.mem_iff.1 (mem_expN hp (h.1.2 p hp))
def stepN (c:κ→κ→Int) (out:List (κ × Int)) (x:κ):List (κ × Int):=match out.getLast? with
 | some p => if c p.1 x = 0 then out.dropLast ++ [(p.1,p.2 + 1)] else out ++ [(x,1)]
 | none => [(x,1)]
def runsN (c:κ→κ→Int) (M:List κ):List (κ × Int):=M.foldl (stepN c) []
theorem stepN_eq {c:κ→κ→Int} (out:List (κ × Int)) (p:κ × Int) (x:κ) (h:c p.1 x = 0):stepN c (out ++ [p]) x = out ++ [(p.1,p.2 + 1)]:=by simp [stepN,h]
theorem stepN_ne {c:κ→κ→Int} (out:List (κ × Int)) (p:κ × Int) (x:κ) (h:¬ c p.1 x = 0):stepN c (out ++ [p]) x = out ++ [p] ++ [(x,1)]:=by simp [stepN,h]
theorem runsN_snoc (c:κ→κ→Int) (M:List κ) (x:κ):runsN c (M ++ [x]) = stepN c (runsN c M) x:=by unfold runsN;rw [List.foldl_append];rfl
theorem snocN {α:Type} {l:List α} (h:l ≠ []):∃ p z,l = p ++ [z]:=⟨l.dropLast,l.getLast h,(List.dropLast_concat_getLast h).symm⟩
include hc
theorem runsN_is:∀ (n:Nat) (M:List κ),M.length = n→M.Pairwise (fun a b => c a b ≤ 0)→IsN c (runsN c M) M
 | 0,M,hn,_ => by
  obtain rfl:=List.eq_nil_of_length_eq_zero hn
  exact IsN.nil
 | n + 1,M,hn,hM => by
  obtain ⟨M,x,rfl⟩:=snocN (l:=M) (by rintro rfl;cases hn)
  rw [List.pairwise_append] at hM
  have ih:=runsN_is n M (by simpa using hn) hM.1
  have hx:∀ a ∈ M,c a x ≤ 0:=fun a ha => hM.2.2 a ha x (by simp)
  rw [runsN_snoc]
  by_cases h0:runsN c M = []
  ·rw [h0] at ih ⊢
   obtain rfl:M = []:=List.nil_perm.1 ih.2
   exact ⟨⟨by simp [stepN],fun q hq => by
    have:q = (x,1):=by simpa [stepN] using hq
    rw [this];exact Int.le_refl _⟩,by simp [stepN,expN]⟩
  ·obtain ⟨out,p,e⟩:=snocN h0
   rw [e] at ih ⊢
   obtain ⟨⟨i1,i2⟩,i3⟩:=ih
   rw [List.pairwise_append] at i1
   have hp1:=i2 p (by simp)
   have hpx:=hx p.1 (i3.mem_iff.1 (mem_expN (by simp) hp1))
   by_cases hq:c p.1 x = 0
   ·rw [stepN_eq _ _ _ hq]
    refine ⟨⟨List.pairwise_append.2 ⟨i1.1,by simp,fun a ha b hb => ?_⟩,fun q hq => ?_⟩,?_⟩
    ·obtain rfl:=List.mem_singleton.1 hb
     exact i1.2.2 a ha p (by simp)
    ·rcases List.mem_append.1 hq with hq|hq
     ·exact i2 q (by simp [hq])
     ·obtain rfl:=List.mem_singleton.1 hq
      show 1 ≤ p.2 + 1;omega
    ·obtain rfl:=hc.zero _ _ hq
     rw [qX0] at i3 ⊢
     have:expN [(p.1,p.2 + 1)] = expN [p] ++ [p.1]:=by
      show List.replicate (p.2 + 1).toNat p.1 ++ [] = (List.replicate p.2.toNat p.1 ++ []) ++ [p.1]
      rw [show (p.2 + 1).toNat = p.2.toNat + 1 by omega,List.replicate_succ'];simp
     rw [this,← List.append_assoc]
     exact (List.perm_append_right_iff _).2 i3
   ·rw [stepN_ne _ _ _ hq]
    refine ⟨⟨List.pairwise_append.2 ⟨List.pairwise_append.2 i1,by simp,fun a ha b hb => ?_⟩,fun q hq => ?_⟩,?_⟩
    ·obtain rfl:=List.mem_singleton.1 hb
     show c a.1 x < 0
     have hpx':c p.1 x < 0:=by omega
     rcases List.mem_append.1 ha with ha|ha
     ·exact hc.lt_tr (i1.2.2 a ha p (by simp)) hpx'
     ·obtain rfl:=List.mem_singleton.1 ha
      exact hpx'
    ·rcases List.mem_append.1 hq with hq|hq
     ·exact i2 q hq
     ·obtain rfl:=List.mem_singleton.1 hq
      exact Int.le_refl _
    ·rw [qX0]
     exact (List.perm_append_right_iff _).2 i3
theorem runsN_sorted {S M:List κ} (hp:S.Perm M) (hs:S.Pairwise (fun a b => c a b ≤ 0)):IsN c (runsN c S) M:=(runsN_is hc _ S rfl hs).perm hp
end
end
section
abbrev Spl:=List (List Int) × List (List Int)
def pairC {α β:Type} (c:α→α→Int) (d:β→β→Int) (a b:α × β):Int:=if c a.1 b.1 = 0 then d a.2 b.2 else c a.1 b.1
theorem pairC_cmp {α β:Type} {c:α→α→Int} {d:β→β→Int} (hc:Cmp c) (hd:Cmp d):Cmp (pairC c d) where
 zero:=by
  intro a b h
  unfold pairC at h
  split at h
  ·rename_i e;exact Prod.ext (hc.zero _ _ e) (hd.zero _ _ h)
  ·omega
 refl:=by intro a;unfold pairC;rw [if_pos (hc.refl _)];exact hd.refl _
 anti:=by
  intro a b
  unfold pairC
  by_cases e:c a.1 b.1 = 0
  ·rw [if_pos e,if_pos (hc.eq_swap e)];exact hd.anti _ _
  ·have e2:c b.1 a.1 ≠ 0:=fun h => e (hc.eq_swap h)
   rw [if_neg e,if_neg e2];exact hc.anti _ _
 trans:=by
  intro a b d' h1 h2
  unfold pairC at h1 h2 ⊢
  by_cases e1:c a.1 b.1 = 0
  ·rw [if_pos e1] at h1
   have eab:=hc.zero _ _ e1
   by_cases e2:c b.1 d'.1 = 0
   ·rw [if_pos e2] at h2
    rw [eab,if_pos e2];exact hd.trans _ _ _ h1 h2
   ·rw [if_neg e2] at h2
    rw [eab,if_neg e2];exact h2
  ·rw [if_neg e1] at h1
   by_cases e2:c b.1 d'.1 = 0
   ·rw [← hc.zero _ _ e2,if_neg e1];exact h1
   ·rw [if_neg e2] at h2
    have:=hc.lt_tr (a:=a.1) (b:=b.1) (d:=d'.1) (by omega) (by omega)
    rw [if_neg (by omega)];omega
theorem cmpN_cmp:Cmp cmpN:=thenC_cmp (lexC_cmp yF)
def cmpS:Spl→Spl→Int:=pairC cmpF cmpN
theorem xC:Cmp cmpS:=pairC_cmp jV cmpN_cmp
def catS (s c:Spl):Spl:=(s.1 ++ c.1,s.2 ++ c.2)
def mulS (s c:Spl):Spl:=(mulF s.1 c.1,mulF s.2 c.2)
def nrmS (s:Spl):Spl:=(sortC cmpT s.1,sortC cmpT s.2)
def prodS (Ls:List (List Spl)):List Spl:=Ls.foldl (fun A L => A.flatMap fun s => L.map (catS s)) [([],[])]
theorem sort_sort (f g:List (List Int)):sortC cmpT (sortC cmpT f ++ sortC cmpT g) = sortC cmpT (f ++ g) :=
 qN0 yF ((jH _).append (jH _))
theorem nrm_cat (s c:Spl):nrmS (catS s c) = mulS (nrmS s) (nrmS c):=by
 unfold nrmS catS mulS mulF
 simp only [sort_sort]
theorem qD0 (A L:List Spl):(A.flatMap fun s => L.map (catS s)).map nrmS = (A.map nrmS).flatMap fun s => (L.map nrmS).map (mulS s):=by
 induction A with
 | nil => rfl
 | cons a A ih =>
  rw [List.flatMap_cons,List.map_append,ih,List.map_cons,List.flatMap_cons]
  congr 1
  rw [List.map_map,List.map_map]
  exact List.map_congr_left fun c _ => nrm_cat a c
theorem nrm_comm (a b d:Spl):nrmS (catS (catS a b) d) = nrmS (catS (catS a d) b):=by
 unfold nrmS catS
 refine Prod.ext (qN0 yF ?_) (qN0 yF ?_)
 all_goals
  simp only [List.append_assoc]
  exact (List.perm_append_left_iff _).2 List.perm_append_comm
theorem flat_comm {α β γ:Type} (f:α→β→γ):∀ (A:List α) (B:List β),(A.flatMap fun a => B.map (f a)).Perm (B.flatMap fun b => A.map fun a => f a b)
 | [],B => by simp
 | a :: A,B => by
  rw [List.flatMap_cons]
  refine ((List.perm_append_left_iff _).2 (flat_comm f A B)).trans ?_
  clear flat_comm
  induction B with
  | nil => simp
  | cons b B ih =>
   simp only [List.map_cons,List.flatMap_cons,List.cons_append]
   refine List.Perm.cons _ ?_
   refine List.Perm.trans ?_ ((List.perm_append_left_iff _).2 ih)
   rw [← List.append_assoc,← List.append_assoc]
   exact (List.perm_append_right_iff _).2 List.perm_append_comm
def foldS (A:List Spl) (Ls:List (List Spl)):List Spl:=Ls.foldl (fun A L => A.flatMap fun s => L.map (catS s)) A
theorem foldS_perm {A A':List Spl}:∀ (Ls:List (List Spl)),(A.map nrmS).Perm (A'.map nrmS)→((foldS A Ls).map nrmS).Perm ((foldS A' Ls).map nrmS)
 | [],h => h
 | L :: Ls,h => by
  refine foldS_perm Ls (A:=A.flatMap fun s => L.map (catS s)) (A':=A'.flatMap fun s => L.map (catS s)) ?_
  rw [qD0,qD0]
  exact h.flatMap_right _
theorem flat2 (A L M:List Spl):((A.flatMap fun s => L.map (catS s)).flatMap fun s => M.map (catS s)) = A.flatMap fun a => L.flatMap fun b => M.map fun d => catS (catS a b) d:=by
 rw [List.flatMap_assoc]
 congr 1;funext a
 rw [List.flatMap_map]
theorem prodS_perm {Ls Ls':List (List Spl)} (h:Ls.Perm Ls'):∀ A:List Spl,((foldS A Ls).map nrmS).Perm ((foldS A Ls').map nrmS):=by
 induction h with
 | nil => intro A;exact List.Perm.refl _
 | cons L _ ih => intro A;exact ih _
 | swap L M Ls =>
  intro A
  refine foldS_perm Ls (A:=(A.flatMap fun s => M.map (catS s)).flatMap fun s => L.map (catS s)) (A':=(A.flatMap fun s => L.map (catS s)).flatMap fun s => M.map (catS s)) ?_
  rw [flat2,flat2,List.map_flatMap,List.map_flatMap]
  refine yD0 _ fun a _ => ?_
  rw [List.map_flatMap,List.map_flatMap]
  have e:∀ (M L:List Spl),(M.flatMap fun b => (L.map fun d => catS (catS a b) d).map nrmS) = M.flatMap fun b => L.map fun d => nrmS (catS (catS a b) d):=fun M L => by
   congr 1;funext b;rw [List.map_map];rfl
  rw [e,e]
  refine (flat_comm _ M L).trans ?_
  refine yD0 _ fun b _ => ?_
  rw [List.map_congr_left fun d _ => nrm_comm a d b]
 | trans _ _ h1 h2 => intro A;exact (h1 A).trans (h2 A)
theorem prodS_congr {α:Type} (f g:α→List Spl):∀ (bs:List α),(∀ b ∈ bs,((f b).map nrmS).Perm ((g b).map nrmS))→∀ A A':List Spl,(A.map nrmS).Perm (A'.map nrmS)→((foldS A (bs.map f)).map nrmS).Perm ((foldS A' (bs.map g)).map nrmS)
 | [],_,A,A',h => h
 | b :: bs,hb,A,A',h => by
  refine prodS_congr f g bs (fun x hx => hb x (by simp [hx])) (A.flatMap fun s => (f b).map (catS s)) (A'.flatMap fun s => (g b).map (catS s)) ?_
  rw [qD0,qD0]
  exact perm_prod mulS h (hb b (by simp))
def splitF:Nat→List Int→List Spl
 | 0,_ => []
 | n + 1,t => ((prodS ((brs t).map (splitF n))).map fun s => (s.1,[canon (qB s.2)])) ++ [([canon t],[])]
def split (t:List Int):List Spl:=splitF t.length t
theorem splitF_eq:∀ (f:Nat) {t:List Int},qZ t→t.length ≤ f→splitF f t = split t:=by
 have key:∀ (n f g:Nat) (t:List Int),qZ t→t.length ≤ n→t.length ≤ f→t.length ≤ g→splitF f t = splitF g t:=by
  intro n
  induction n with
  | zero => intro f g t h hn;have:=h.pos;omega
  | succ n ih =>
   intro f g t h hn hf hg
   have hp:=h.pos
   obtain ⟨f,rfl⟩:∃ f',f = f' + 1:=⟨f - 1,by omega⟩
   obtain ⟨g,rfl⟩:∃ g',g = g' + 1:=⟨g - 1,by omega⟩
   simp only [splitF]
   congr 3
   apply List.map_congr_left
   intro b hb
   have:=yN h b hb
   exact ih f g b (jC h b hb) (by omega) (by omega) (by omega)
 intro f t h hf
 exact key t.length f t.length t h (Nat.le_refl _) hf (Nat.le_refl _)
theorem wK {t:List Int} (h:qZ t):split t = ((prodS ((brs t).map split)).map fun s => (s.1,[canon (qB s.2)])) ++ [([canon t],[])]:=by
 have hp:=h.pos
 obtain ⟨n,hn⟩:∃ n,t.length = n + 1:=⟨t.length - 1,by omega⟩
 conv => lhs;unfold split;rw [hn];simp only [splitF]
 congr 3
 apply List.map_congr_left
 intro b hb
 have:=yN h b hb
 exact splitF_eq n (jC h b hb) (by omega)
def yS (n:Nat) (s:Spl):Prop:=(∀ t ∈ s.1 ++ s.2,qZ t∧canon t = t)∧qQ s.1 + qQ s.2 = n
theorem yX0 {α:Type} (f:α→List Spl) (m:α→Nat):∀ (bs:List α) (A:List Spl) (n:Nat),(∀ b ∈ bs,∀ s ∈ f b,yS (m b) s)→(∀ s ∈ A,yS n s)→∀ s ∈ foldS A (bs.map f),yS (n + (bs.map m).sum) s
 | [],A,n,_,hA => by simpa [foldS] using hA
 | b :: bs,A,n,hb,hA => by
  intro s hs
  have:=yX0 f m bs (A.flatMap fun s => (f b).map (catS s)) (n + m b) (fun x hx => hb x (by simp [hx])) (fun s hs => by
   obtain ⟨a,ha,hs⟩:=List.mem_flatMap.1 hs
   obtain ⟨d,hd,rfl⟩:=List.mem_map.1 hs
   obtain ⟨a1,a2⟩:=hA a ha
   obtain ⟨d1,d2⟩:=hb b (by simp) d hd
   refine ⟨fun t ht => ?_,?_⟩
   ·unfold catS at ht
    simp only [List.mem_append] at ht
    rcases ht with (ht|ht)|ht|ht
    ·exact a1 t (by simp [ht])
    ·exact d1 t (by simp [ht])
    ·exact a1 t (by simp [ht])
    ·exact d1 t (by simp [ht])
   ·unfold catS
    simp only [kE];omega) s hs
  rw [List.map_cons,List.sum_cons,← Nat.add_assoc]
  exact this
theorem xI:∀ (n:Nat) {t:List Int},t.length ≤ n→qZ t→∀ s ∈ split t,yS t.length s
 | 0,t,hn,h => by have:=h.pos;omega
 | n + 1,t,hn,h => by
  intro s hs
  rw [wK h] at hs
  rcases List.mem_append.1 hs with hs|hs
  ·obtain ⟨a,ha,rfl⟩:=List.mem_map.1 hs
   have hg:=yX0 split List.length (brs t) [([],[])] 0 (fun b hb => xI n (by have:=yN h b hb;omega) (jC h b hb)) (fun s hs => by
    obtain rfl:=List.mem_singleton.1 hs
    exact ⟨by simp,rfl⟩) a ha
   rw [Nat.zero_add,show ((brs t).map List.length).sum = qQ (brs t) from rfl] at hg
   have hb:=kG h
   obtain ⟨g1,g2⟩:=hg
   have hl:qZ (qB a.2):=vU fun b hb => (g1 b (by simp [hb])).1
   refine ⟨fun u hu => ?_,?_⟩
   ·simp only [List.mem_append,List.mem_singleton] at hu
    rcases hu with hu|rfl
    ·exact g1 u (by simp [hu])
    ·exact ⟨xG hl,wV hl⟩
   ·show qQ a.1 + qQ [canon (qB a.2)] = t.length
    have:qQ [canon (qB a.2)] = qQ a.2 + 1:=by
     show (canon (qB a.2)).length + 0 = _
     rw [wX hl,xS]
    omega
  ·obtain rfl:=List.mem_singleton.1 hs
   refine ⟨fun u hu => ?_,?_⟩
   ·simp only [List.append_nil,List.mem_singleton] at hu
    rw [hu];exact ⟨xG h,wV h⟩
   ·show (canon t).length + 0 + 0 = _
    rw [wX h];rfl
theorem canon_root {bs cs:List (List Int)} (h:∀ b ∈ bs,qZ b) (hp:bs.Perm cs):canon (qB bs) = canon (qB cs):=by
 have h':∀ b ∈ cs,qZ b:=fun b hb => h b (hp.mem_iff.2 hb)
 rw [kY (vU h),kY (vU h'),wP h,wP h']
 rw [qN0 cmpD_cmp (hp.map canon)]
def rootS (s:Spl):Spl:=(s.1,[canon (qB s.2)])
theorem nrm_root {s:Spl} (h:∀ t ∈ s.1 ++ s.2,qZ t):nrmS (rootS s) = rootS (nrmS s):=by
 unfold nrmS rootS
 refine Prod.ext rfl ?_
 show sortC cmpT [canon (qB s.2)] = [canon (qB (sortC cmpT s.2))]
 rw [canon_root (bs:=s.2) (fun b hb => h b (by simp [hb])) (jH _).symm]
 rfl
theorem nrm_roots {A B:List Spl} (hA:∀ s ∈ A,∀ t ∈ s.1 ++ s.2,qZ t) (hB:∀ s ∈ B,∀ t ∈ s.1 ++ s.2,qZ t) (h:(A.map nrmS).Perm (B.map nrmS)):((A.map rootS).map nrmS).Perm ((B.map rootS).map nrmS):=by
 have e:∀ {A:List Spl},(∀ s ∈ A,∀ t ∈ s.1 ++ s.2,qZ t)→(A.map rootS).map nrmS = (A.map nrmS).map rootS:=fun {A} hA => by
  rw [List.map_map,List.map_map]
  exact List.map_congr_left fun s hs => nrm_root (hA s hs)
 rw [e hA,e hB]
 exact h.map _
theorem qM0 {bs:List (List Int)} (h:∀ b ∈ bs,qZ b):∀ s ∈ prodS (bs.map split),∀ t ∈ s.1 ++ s.2,qZ t:=fun s hs t ht =>
 ((yX0 split List.length bs [([],[])] 0 (fun b hb => xI _ (Nat.le_refl _) (h b hb)) (fun s hs => by
   obtain rfl:=List.mem_singleton.1 hs
   exact ⟨by simp,rfl⟩) s hs).1 t ht).1
theorem split_canon:∀ (n:Nat) {t:List Int},t.length ≤ n→qZ t→((split (canon t)).map nrmS).Perm ((split t).map nrmS)
 | 0,t,hn,h => by have:=h.pos;omega
 | n + 1,t,hn,h => by
  have hb:=fun b hb => jC h b hb
  have hcb:∀ b ∈ sortC cmpD ((brs t).map canon),qZ b:=fun b hb' => by
   rw [yW,List.mem_map] at hb'
   obtain ⟨x,hx,rfl⟩:=hb'
   exact xG (hb x hx)
  have hcm:∀ b ∈ (brs t).map canon,qZ b:=fun b hb' => hcb b (by rw [yW];exact hb')
  have eb:brs (canon t) = sortC cmpD ((brs t).map canon):=by rw [kY h,wP hcb]
  rw [wK (xG h),wK h,List.map_append,List.map_append,wV h,eb]
  refine List.Perm.append ?_ (List.Perm.refl _)
  refine nrm_roots (qM0 hcb) (qM0 hb) ?_
  refine (prodS_perm ((jH ((brs t).map canon)).map split) _).trans ?_
  rw [List.map_map]
  exact prodS_congr (split ∘ canon) split (brs t) (fun b hb' => split_canon n (by have:=yN h b hb';omega) (hb b hb')) _ _ (List.Perm.refl _)
def gathS (L:List Spl):List (Spl × Int):=runsN cmpS (sortC cmpS (L.map nrmS))
theorem yY (L:List Spl):IsN cmpS (gathS L) (L.map nrmS):=runsN_sorted xC (jH _) (kK xC _)
def forS (f:List Int→List (Spl × Int)) (bs:List (List Int)):List (Spl × Int):=bs.foldl (fun out b => timesN cmpS mulS out (f b)) [(([],[]),1)]
def putsS (t:List Int) (below:List (Spl × Int)):List (Spl × Int):=below.foldl (fun s p => putN cmpS s p.2 (rootS p.1)) [(([t],[]),1)]
theorem forS_is (f:List Int→List (Spl × Int)) (g:List Int→List Spl):∀ (bs:List (List Int)),(∀ b ∈ bs,IsN cmpS (f b) ((g b).map nrmS))→∀ (L:List (Spl × Int)) (A:List Spl),IsN cmpS L (A.map nrmS) →
  IsN cmpS (bs.foldl (fun out b => timesN cmpS mulS out (f b)) L) ((foldS A (bs.map g)).map nrmS)
 | [],_,L,A,h => h
 | b :: bs,hb,L,A,h => by
  refine forS_is f g bs (fun x hx => hb x (by simp [hx])) _ (A.flatMap fun s => (g b).map (catS s)) ?_
  rw [qD0]
  exact IsN.times xC mulS h (hb b (by simp))
theorem one_is:IsN cmpS [((([],[]):Spl),1)] ([([],[])].map nrmS):=⟨⟨by simp,by simp⟩,List.Perm.refl _⟩
theorem nrm_one {t:List Int}:nrmS ([t],[]) = ([t],[]):=rfl
theorem spec_tree {t:List Int} (h:qZ t) (hc:canon t = t) (f:List Int→List (Spl × Int)) (hf:∀ b ∈ brs t,IsN cmpS (f b) ((split b).map nrmS)):putsS t (forS f (sortC cmpT (brs t))) = gathS (split t):=by
 refine IsN.ext xC (M:=[nrmS ([t],[])] ++ ((prodS ((sortC cmpT (brs t)).map split)).map nrmS).map rootS) ?_ (yY (split t)) ?_
 ·have h1:=forS_is f split (sortC cmpT (brs t)) (fun b hb => hf b (yW.1 hb)) _ _ one_is
  unfold putsS
  have h2:=IsN.puts xC ((forS f (sortC cmpT (brs t))).map fun p => (rootS p.1,p.2)) (L:=[(([t],[]),1)]) (M:=[nrmS ([t],[])]) ⟨⟨by simp,by simp⟩,by rw [nrm_one];exact List.Perm.refl _⟩ (fun p hp => by
   obtain ⟨q,hq,rfl⟩:=List.mem_map.1 hp
   exact h1.1.2 q hq)
  rw [List.foldl_map] at h2
  refine h2.perm ((List.perm_append_left_iff _).2 ?_)
  have e:∀ L:List (Spl × Int),expN (L.map fun p => (rootS p.1,p.2)) = (expN L).map rootS:=fun L => by
   unfold expN
   rw [List.flatMap_map,List.map_flatMap]
   congr 1;funext p;simp
  rw [e]
  exact h1.2.map rootS
 ·have hb:=fun b hb => jC h b hb
  have hs:∀ b ∈ sortC cmpT (brs t),qZ b:=fun b hb' => hb b (yW.1 hb')
  rw [wK h,List.map_append,hc]
  refine List.perm_append_comm.trans ?_
  refine List.Perm.append ?_ (List.Perm.refl _)
  have e:((prodS ((sortC cmpT (brs t)).map split)).map nrmS).map rootS = ((prodS ((sortC cmpT (brs t)).map split)).map rootS).map nrmS:=by
   rw [List.map_map,List.map_map]
   exact List.map_congr_left fun s hs' => (nrm_root (qM0 hs s hs')).symm
  rw [e]
  exact nrm_roots (qM0 hs) (qM0 hb) (prodS_perm ((jH (brs t)).map split) _)
theorem spec_forest (bs:List (List Int)) (f:List Int→List (Spl × Int)) (hf:∀ b ∈ bs,f b = gathS (split b)):forS f bs = gathS (prodS (bs.map split)) :=
 IsN.ext xC (forS_is f split bs (fun b hb => by rw [hf b hb];exact yY _) _ _ one_is) (yY _) (List.Perm.refl _)
end
section
def slT2 (t:TypeId):Option TyI :=
 if t = 22 then some ⟨5,[.raw (.int .u8 0)],1⟩ else
 if t = 32 then some ⟨90,[.raw (.string ⟨#[]⟩),.int 0],24⟩ else
 if t = 65 then some ⟨69,[.int 0,.sl 1 [],.sl 1 []],56⟩ else
 if t = 29 then some ⟨38,[.sl 1 [],.sl 1 [],.int 0],56⟩ else
 if t = 33 then some ⟨42,[.sl 1 [],.sl 1 [],.int 0],56⟩ else
 if t = 174 then some ⟨176,[.int 0,.sl 1 [],.int 0],40⟩ else
 if t = 129 then some ⟨174,[.sl 3 []],24⟩ else
 if t = 180 then some ⟨183,[.int 0,.sl 1 [],.int 0],40⟩ else
 if t = 135 then some ⟨180,[.sl 3 []],24⟩ else
 none
def slT (t:TypeId):Option TyI :=
 if t = 24 then some ⟨2,[.int 0],8⟩ else
 if t = 170 then some ⟨3,[.int 0],8⟩ else
 if t = 36 then some ⟨24,[.sl 1 []],24⟩ else
 if t = 189 then some ⟨36,[.sl 1 []],24⟩ else
 if t = 50 then some ⟨71,[.int 0,.sl 1 []],32⟩ else
 if t = 48 then some ⟨99,[.int 0,.sl 1 []],32⟩ else
 if t = 163 then some ⟨50,[.sl 2 []],24⟩ else
 slT2 t
def tyT3 (t:TypeId):Option (List D × Bool) :=
 if t = 9 then some ([.raw (.string ⟨#[]⟩)],false) else
 if t = 32 then some ([.sl 2 []],false) else
 if t = 90 then some ([.raw (.string ⟨#[]⟩),.int 0],true) else
 if t = 22 then some ([.sl 1 []],false) else
 if t = 176 then some ([.int 0,.sl 1 [],.int 0],true) else
 if t = 174 then some ([.sl 3 []],false) else
 if t = 129 then some ([.sl 1 []],false) else
 if t = 131 then some ([.sl 1 [],.sl 1 []],true) else
 if t = 183 then some ([.int 0,.sl 1 [],.int 0],true) else
 if t = 180 then some ([.sl 3 []],false) else
 if t = 135 then some ([.sl 1 []],false) else
 none
def tyT2 (t:TypeId):Option (List D × Bool) :=
 if t = 50 then some ([.sl 2 []],false) else
 if t = 71 then some ([.int 0,.sl 1 []],true) else
 if t = 48 then some ([.sl 2 []],false) else
 if t = 163 then some ([.sl 1 []],false) else
 if t = 99 then some ([.int 0,.sl 1 []],true) else
 if t = 65 then some ([.sl 3 []],false) else
 if t = 69 then some ([.int 0,.sl 1 [],.sl 1 []],true) else
 if t = 29 then some ([.sl 3 []],false) else
 if t = 38 then some ([.sl 1 [],.sl 1 [],.int 0],true) else
 if t = 33 then some ([.sl 3 []],false) else
 if t = 42 then some ([.sl 1 [],.sl 1 [],.int 0],true) else
 tyT3 t
def tyT (t:TypeId):Option (List D × Bool) :=
 if t = 2 then some ([.int 0],false) else
 if t = 3 then some ([.int 0],false) else
 if t = 4 then some ([.bool false],false) else
 if t = 24 then some ([.sl 1 []],false) else
 if t = 170 then some ([.sl 1 []],false) else
 if t = 36 then some ([.sl 1 []],false) else
 if t = 189 then some ([.sl 1 []],false) else
 tyT2 t
def fsT (t:TypeId):Option (List (Nat × Nat)) :=
 if t = 71 then some [(0,1),(1,1)] else
 if t = 99 then some [(0,1),(1,1)] else
 if t = 69 then some [(0,1),(1,1),(2,1)] else
 if t = 90 then some [(0,1),(1,1)] else
 if t = 38 then some [(0,1),(1,1),(2,1)] else
 if t = 42 then some [(0,1),(1,1),(2,1)] else
 if t = 176 then some [(0,1),(1,1),(2,1)] else
 if t = 131 then some [(0,1),(1,1)] else
 if t = 183 then some [(0,1),(1,1),(2,1)] else
 none
def cfg (n:Nat) (H:HidC:=HidC.non):Cfg:=⟨n,slT,tyT,fsT,fun t => t == 2 || t == 3,H⟩
def zvOf:Bool→List D→Value
 | true,z => .agg (z.map zval).toArray
 | false,z => zval (z.headD (.int 0))
theorem xV {P:Program} {t:TypeId} {i:TyI} (h1:P.underlying t = some (.slice i.e)) (h2:(P.info? i.e).map (fun j => (j.zero,j.size,j.bytes)) = some (some (zvOf (decide (1 < i.z.length)) i.z),i.z.length,i.bytes))
  (h3:(zvOf (decide (1 < i.z.length)) i.z).cells.toList = i.z.map zval) (h4:i.z.all jM = true) (h5:0 < i.z.length):∃ z:Value,ST P t i.e z i.z.length i.bytes∧ZeroOK z i.z :=
 ⟨_,ST.mk' h1 h2 (by rw [← Array.length_toList,h3,List.length_map]) h5,h3,h4⟩
theorem ty_ok {P:Program} {t:TypeId} {z:List D} {st:Bool} (h1:(P.info? t).map (fun i => (i.zero,i.size)) = some (some (zvOf st z),z.length)) (h2:(zvOf st z).cells.toList = z.map zval) (h3:z.all jM = true) (h4:0 < z.length)
  (h5:(P.underlying t).map TypeDesc.isRow = some st) (h6:st = false→z.length = 1):∃ zv ti d,P.info? t = some ti∧ti.zero = some zv∧ti.size = z.length∧ZeroOK zv z∧0 < z.length∧P.underlying t = some d∧d.isRow = st∧(st = false→z.length = 1):=by
 obtain ⟨ti,k1,k2⟩:=map_some h1
 obtain ⟨d,k3,k4⟩:=map_some h5
 simp only [Prod.mk.injEq] at k2
 exact ⟨_,ti,d,k1,k2.1,k2.2,⟨h2,h3⟩,h4,k3,k4,h6⟩
theorem fs_ok {P:Program} {t:TypeId} {fs:List (Nat × Nat)} (h:(match P.underlying t with|some (.struct fields) => fields.toList.mapM (fun f => (P.info? f.type).map fun i => (f.offset,i.size))|_ => none) = some fs) (h2:∀ p ∈ fs,0 < p.2) :
  ∃ fields,P.underlying t = some (.struct fields)∧fields.toList.mapM (fun f => (P.info? f.type).map fun i => (f.offset,i.size)) = some fs∧∀ p ∈ fs,0 < p.2:=by
 split at h
 ·rename_i fields e
  exact ⟨fields,e,h,h2⟩
 ·cases h
theorem i64_a:Tryz.prog.underlying 2 = some (.int .i64):=by kernel_rfl
theorem i64_b:Tryz.prog.underlying 3 = some (.int .i64):=by kernel_rfl
theorem cfg_okH (n:Nat) (H:HidC):CfgOK Tryz.prog (cfg n H) where
 sl:=by
  intro t i h
  have h:slT t = some i:=h
  unfold slT at h
  split at h
  ·rename_i e;subst e;cases h;exact xV (by kernel_rfl) (by kernel_rfl) (by rfl) (by rfl) (by decide)
  split at h
  ·rename_i e;subst e;cases h;exact xV (by kernel_rfl) (by kernel_rfl) (by rfl) (by rfl) (by decide)
  split at h
  ·rename_i e;subst e;cases h;exact xV (by kernel_rfl) (by kernel_rfl) (by rfl) (by rfl) (by decide)
  split at h
  ·rename_i e;subst e;cases h;exact xV (by kernel_rfl) (by kernel_rfl) (by rfl) (by rfl) (by decide)
  split at h
  ·rename_i e;subst e;cases h;exact xV (by kernel_rfl) (by kernel_rfl) (by rfl) (by rfl) (by decide)
  split at h
  ·rename_i e;subst e;cases h;exact xV (by kernel_rfl) (by kernel_rfl) (by rfl) (by rfl) (by decide)
  split at h
  ·rename_i e;subst e;cases h;exact xV (by kernel_rfl) (by kernel_rfl) (by rfl) (by rfl) (by decide)
  have h:slT2 t = some i:=h
  unfold slT2 at h
  split at h
  ·rename_i e;subst e;cases h;exact xV (by kernel_rfl) (by kernel_rfl) (by rfl) (by rfl) (by decide)
  split at h
  ·rename_i e;subst e;cases h;exact xV (by kernel_rfl) (by kernel_rfl) (by rfl) (by rfl) (by decide)
  split at h
  ·rename_i e;subst e;cases h;exact xV (by kernel_rfl) (by kernel_rfl) (by rfl) (by rfl) (by decide)
  split at h
  ·rename_i e;subst e;cases h;exact xV (by kernel_rfl) (by kernel_rfl) (by rfl) (by rfl) (by decide)
  split at h
  ·rename_i e;subst e;cases h;exact xV (by kernel_rfl) (by kernel_rfl) (by rfl) (by rfl) (by decide)
  split at h
  ·rename_i e;subst e;cases h;exact xV (by kernel_rfl) (by kernel_rfl) (by rfl) (by rfl) (by decide)
  split at h
  ·rename_i e;subst e;cases h;exact xV (by kernel_rfl) (by kernel_rfl) (by rfl) (by rfl) (by decide)
  split at h
  ·rename_i e;subst e;cases h;exact xV (by kernel_rfl) (by kernel_rfl) (by rfl) (by rfl) (by decide)
  split at h
  ·rename_i e;subst e;cases h;exact xV (by kernel_rfl) (by kernel_rfl) (by rfl) (by rfl) (by decide)
  cases h
 ty:=by
  intro t z st h
  have h:tyT t = some (z,st):=h
  have h3:∀ {t:TypeId} {z:List D} {st:Bool},tyT3 t = some (z,st)→∃ zv ti d,Tryz.prog.info? t = some ti∧ti.zero = some zv∧ti.size = z.length∧ZeroOK zv z∧0 < z.length∧Tryz.prog.underlying t = some d∧d.isRow = st∧(st = false→z.length = 1):=by
   intro t z st h
   unfold tyT3 at h
   repeat' split at h
   all_goals first
    | (cases h;done)
    | (rename_i e;subst e;cases h;exact ty_ok (by kernel_rfl) (by rfl) (by rfl) (by decide) (by kernel_rfl) (by decide))
  have h2:∀ {t:TypeId} {z:List D} {st:Bool},tyT2 t = some (z,st)→∃ zv ti d,Tryz.prog.info? t = some ti∧ti.zero = some zv∧ti.size = z.length∧ZeroOK zv z∧0 < z.length∧Tryz.prog.underlying t = some d∧d.isRow = st∧(st = false→z.length = 1):=by
   intro t z st h
   unfold tyT2 at h
   repeat' split at h
   all_goals first
    | (cases h;done)
    | (exact h3 h)
    | (rename_i e;subst e;cases h;exact ty_ok (by kernel_rfl) (by rfl) (by rfl) (by decide) (by kernel_rfl) (by decide))
  unfold tyT at h
  repeat' split at h
  all_goals first
   | (cases h;done)
   | (exact h2 h)
   | (rename_i e;subst e;cases h;exact ty_ok (by kernel_rfl) (by rfl) (by rfl) (by decide) (by kernel_rfl) (by decide))
 fs:=by
  intro t fs h
  have h:fsT t = some fs:=h
  unfold fsT at h
  repeat' split at h
  all_goals first
   | (cases h;done)
   | (rename_i e;subst e;cases h;exact fs_ok (by kernel_rfl) (by decide))
 i64:=by
  intro t h
  have h:(t == 2 || t == 3) = true:=h
  simp only [Bool.or_eq_true,beq_iff_eq] at h
  rcases h with rfl|rfl
  ·exact i64_a
  ·exact i64_b
theorem qX (n:Nat):CfgOK Tryz.prog (cfg n):=cfg_okH n _
def dL (xs:List Int):D:=.sl 1 (xs.map eI)
theorem rd_dL {A:Nat→Prop} {w:World} {v:Value} {xs:List Int}:rdV A w v (dL xs) ↔ (RS RI).rd A w [v] xs:=((encS encI).rdV (x:=xs) rfl).symm
end
section
structure Cod (α:Type) where
 e:α→List D
 d:List D→Option α
 de:∀ x,d (e x) = some x
 ed:∀ c x,d c = some x→c = e x
def dI:List D→Option Int
 | [.int n] => some n
 | _ => none
def dB:List D→Option Bool
 | [.bool n] => some n
 | _ => none
theorem dI_spec {c:List D} {x:Int} (h:dI c = some x):c = eI x:=by
 unfold dI at h
 split at h
 ·cases h;rfl
 ·cases h
theorem dB_spec {c:List D} {x:Bool} (h:dB c = some x):c = eB x:=by
 unfold dB at h
 split at h
 ·cases h;rfl
 ·cases h
def codI:Cod Int:=⟨eI,dI,fun _ => rfl,fun _ _ => dI_spec⟩
def codB:Cod Bool:=⟨eB,dB,fun _ => rfl,fun _ _ => dB_spec⟩
def dAll {α:Type} (d:List D→Option α):List (List D)→Option (List α)
 | [] => some []
 | c :: cs => (d c).bind fun x => (dAll d cs).map fun xs => x :: xs
def dSl {α:Type} (k:Nat) (d:List D→Option α):List D→Option (List α)
 | [.sl j cs] => if j = k then dAll d cs else none
 | _ => none
theorem dAll_map {α:Type} {e:α→List D} {d:List D→Option α} (h:∀ x,d (e x) = some x):∀ xs:List α,dAll d (xs.map e) = some xs
 | [] => rfl
 | x :: xs => by simp only [List.map_cons,dAll,h,Option.bind_some,dAll_map h xs,Option.map_some]
theorem dAll_spec {α:Type} {e:α→List D} {d:List D→Option α} (h:∀ c x,d c = some x→c = e x):∀ {cs:List (List D)} {xs:List α},dAll d cs = some xs→cs = xs.map e
 | [],xs,hx => by simp only [dAll,Option.some.injEq] at hx;subst hx;rfl
 | c :: cs,xs,hx => by
  simp only [dAll] at hx
  obtain ⟨x,h1,hx⟩:=bind_some hx
  obtain ⟨ys,h2,rfl⟩:=map_some hx
  rw [h c x h1,dAll_spec h h2];rfl
def codS {α:Type} (k:Nat) (C:Cod α):Cod (List α):=⟨eS k C.e,dSl k C.d,fun xs => by
  show dSl k C.d [.sl k (xs.map C.e)] = some xs
  simp only [dSl,if_true,dAll_map C.de],fun c xs h => by
  unfold dSl at h
  split at h
  ·split at h
   ·rename_i e;subst e;rw [dAll_spec C.ed h];rfl
   ·cases h
  ·cases h⟩
def codP {α β:Type} (k:Nat) (C:Cod α) (D':Cod β) (hk:∀ x,(C.e x).length = k):Cod (α × β):=⟨eP C.e D'.e,fun c => (C.d (c.take k)).bind fun x => (D'.d (c.drop k)).map fun y => (x,y),fun x => by
  show (C.d ((C.e x.1 ++ D'.e x.2).take k)).bind (fun x_1 => (D'.d ((C.e x.1 ++ D'.e x.2).drop k)).map fun y => (x_1,y)) = _
  rw [List.take_left' (hk _),List.drop_left' (hk _),C.de,D'.de];rfl,fun c x h => by
  obtain ⟨a,h1,h⟩:=bind_some h
  obtain ⟨b,h2,rfl⟩:=map_some h
  show c = C.e a ++ D'.e b
  rw [← C.ed _ _ h1,← D'.ed _ _ h2,List.take_append_drop]⟩
def eL (xs:List Int):List D:=[.sl 1 (xs.map eI)]
def eLL (xs:List (List Int)):List D:=[.sl 1 (xs.map eL)]
def codL:Cod (List Int):=codS 1 codI
def codLL:Cod (List (List Int)):=codS 1 codL
def eCt (x:List Int × Int):List D:=[.sl 1 (x.1.map eI),.int x.2]
def codCt:Cod (List Int × Int):=codP 1 codL codI (fun _ => rfl)
theorem codL_d (xs:List Int):codL.d [.sl 1 (xs.map eI)] = some xs:=codL.de xs
theorem codLL_d (xs:List (List Int)):codLL.d [.sl 1 (xs.map eL)] = some xs:=codLL.de xs
theorem codI_d (x:Int):codI.d [.int x] = some x:=rfl
theorem codB_d (x:Bool):codB.d [.bool x] = some x:=rfl
theorem codCts_d (xs:List (List Int × Int)):(codS 2 codCt).d [.sl 2 (xs.map eCt)] = some xs:=(codS 2 codCt).de xs
def tab1 {α:Type} (A:Cod α) (f:α→Option (List Res)):List (List D)→Option (List Res)
 | [a] => (A.d a).bind f
 | _ => none
def tab2 {α β:Type} (A:Cod α) (B:Cod β) (f:α→β→Option (List Res)):List (List D)→Option (List Res)
 | [a,b] => (A.d a).bind fun x => (B.d b).bind (f x)
 | _ => none
def tab3 {α β γ:Type} (A:Cod α) (B:Cod β) (C:Cod γ) (f:α→β→γ→Option (List Res)):List (List D)→Option (List Res)
 | [a,b,c] => (A.d a).bind fun x => (B.d b).bind fun y => (C.d c).bind (f x y)
 | _ => none
theorem yA {P:Program} {g:FuncId} {α:Type} {A:Cod α} {f:α→Option (List Res)} (h:∀ x rs,f x = some rs→AFn P g [A.e x] (· = rs)) (ds:List (List D)) (rs:List Res) (e:tab1 A f ds = some rs):AFn P g ds (· = rs):=by
 unfold tab1 at e
 split at e
 ·obtain ⟨x,h1,h2⟩:=bind_some e
  rw [A.ed _ _ h1];exact h x rs h2
 ·cases e
theorem yH {P:Program} {g:FuncId} {α β:Type} {A:Cod α} {B:Cod β} {f:α→β→Option (List Res)} (h:∀ x y rs,f x y = some rs→AFn P g [A.e x,B.e y] (· = rs)) (ds:List (List D)) (rs:List Res) (e:tab2 A B f ds = some rs):AFn P g ds (· = rs):=by
 unfold tab2 at e
 split at e
 ·obtain ⟨x,h1,e⟩:=bind_some e
  obtain ⟨y,h2,e⟩:=bind_some e
  rw [A.ed _ _ h1,B.ed _ _ h2];exact h x y rs e
 ·cases e
theorem tab3_ok {P:Program} {g:FuncId} {α β γ:Type} {A:Cod α} {B:Cod β} {C:Cod γ} {f:α→β→γ→Option (List Res)} (h:∀ x y z rs,f x y z = some rs→AFn P g [A.e x,B.e y,C.e z] (· = rs)) (ds:List (List D)) (rs:List Res) (e:tab3 A B C f ds = some rs):AFn P g ds (· = rs):=by
 unfold tab3 at e
 split at e
 ·obtain ⟨x,h1,e⟩:=bind_some e
  obtain ⟨y,h2,e⟩:=bind_some e
  obtain ⟨z,h3,e⟩:=bind_some e
  rw [A.ed _ _ h1,B.ed _ _ h2,C.ed _ _ h3];exact h x y z rs e
 ·cases e
theorem AFn.of_q {P:Program} {f:FuncId} {ds:List (List D)} {d:D} {v:Value} (eg:∀ args w,(callFunc f args).run P w = .ok (.enter f args) w) (hd:∀ A w,rdV A w v d)
  (h:∀ (w:World) (A:Nat→Prop) vs,jX A w ds vs→Calls P f vs.toArray w (RetQ w v)):AFn P f ds (· = [.val d]):=by
 refine ⟨eg,fun A w vs hA hv => (h w A vs hv).mono ?_⟩
 rintro e w' ⟨rfl,n,rfl⟩
 exact ⟨v,_,rfl,rfl,Below.drewN _ _ _,[v],[],[],rfl,List.nodup_nil,by simp,v,[],[],[],[],[],rfl,rfl,rfl,(hd (fun _ => True) w).one,⟨hd _ _,rfl,rfl⟩,rfl,rfl,rfl⟩
theorem AFn.of_s {P:Program} {f:FuncId} {ds:List (List D)} {d:D} {v:Value} (eg:∀ args w,(callFunc f args).run P w = .ok (.enter f args) w) (hd:∀ A w,rdV A w v d)
  (h:∀ (w:World) (A:Nat→Prop) vs,jX A w ds vs→Calls P f vs.toArray w (RetS w v)):AFn P f ds (· = [.val d]):=by
 refine ⟨eg,fun A w vs hA hv => (h w A vs hv).mono ?_⟩
 rintro e w' ⟨rfl,rfl⟩
 exact ⟨v,_,rfl,rfl,Below.refl _ _,[v],[],[],rfl,List.nodup_nil,by simp,v,[],[],[],[],[],rfl,rfl,rfl,(hd (fun _ => True) w).one,⟨hd _ _,rfl,rfl⟩,rfl,rfl,rfl⟩
theorem AFn.of_o {P:Program} {α:Type} {R:Rep α} {e:α→List D} (E:Enc R e) {f:FuncId} {ds:List (List D)} {xs:List α} (eg:∀ args w,(callFunc f args).run P w = .ok (.enter f args) w)
  (h:∀ (w:World) (A:Nat→Prop) vs,jX A w ds vs→Calls P f vs.toArray w (RetO (RS R) w xs)):AFn P f ds (· = [.own R.k (xs.map e) true]):=by
 refine ⟨eg,fun A w vs hA hv => (h w A vs hv).mono ?_⟩
 rintro e' w' ⟨v,rfl,⟨F,⟨v',og,ds',G,e1,hrow,hel,rfl⟩,hn,hlt⟩,hb⟩
 obtain rfl:v = v':=by simpa using e1
 obtain ⟨d,hel'⟩:=enc_ownL E hel
 obtain ⟨oa,c,ev,k1,k2,k3,k4⟩:=hrow.value
 have hv':v = slv og xs.length c:=by
  cases og with
  | none =>
   have h0:=hrow.len0
   have hoa:oa = none:=k4
   rw [ev,hoa,h0,k3 hoa];rfl
  | some g => rw [ev,k4];rfl
 refine ⟨v,_,rfl,rfl,hb,[v],og.toList ++ G,og.toList,rfl,hn,fun b hb' => (hlt b hb').1,v,[],og.toList ++ G,[],og.toList,[],rfl,by simp,by simp,by rw [ev];rfl,?_,rfl,rfl,rfl⟩
 exact ⟨og,c,G,ds',by rw [List.length_map];exact hv',by rw [List.length_map];exact hrow,R.kpos,rfl,rfl,d,R.kpos,hel'⟩
theorem jW {n:Nat} (h:n ≤ 1000000000):(n ≤ 140737488355328) = True:=eq_true (by omega)
theorem jZ {n c:Nat} (hc:c ≤ 100000) (h:n ≤ 1000000000):(n * c ≤ 140737488355328) = True :=
 eq_true (Nat.le_trans (Nat.mul_le_mul h hc) (by decide))
theorem qE {α β:Type} {f:α→β} {xs:List α} {i:Nat} (h:i < xs.length):(xs.map f)[i]? = some (f xs[i]):=by
 rw [List.getElem?_map,List.getElem?_eq_getElem h];rfl
theorem qL {n:Int} (h:-9223372036854775808 ≤ n∧n ≤ 9223372036854775807):w64 n = n:=by unfold w64;exact IntWalk.i64_in n h
theorem qD {n:Nat} (h:n < 9223372036854775807):w64 ((n:Int) + 1) = ((n + 1:Nat):Int):=by rw [qL (by omega)];rfl
theorem rd1 {A:Nat→Prop} {w:World} {xs:List Int} {v:Value} (h:vL A w (eL xs) v):(RS RI).rd A w [v] xs:=rd_dL.1 h
end
section
section
variable {α:Type}
def swpL (xs:List α) (i j:Nat):List α:=match xs[i]?,xs[j]? with
 | some a,some b => (xs.set i b).set j a
 | _,_ => xs
theorem swpL_eq (xs:List α) (i j:Nat) (hi:i < xs.length) (hj:j < xs.length):swpL xs i j = (xs.set i xs[j]).set j xs[i]:=by
 unfold swpL
 rw [List.getElem?_eq_getElem hi,List.getElem?_eq_getElem hj]
theorem yA0 (xs:List α) (i j:Nat):(swpL xs i j).length = xs.length:=by
 unfold swpL
 split <;> simp
theorem split2 (xs:List α) (i j:Nat) (hij:i < j) (hj:j < xs.length):∃ p a q b r,xs = p ++ (a :: (q ++ (b :: r)))∧p.length = i∧i + q.length + 1 = j∧xs[i] = a∧xs[j] = b:=by
 refine ⟨xs.take i,xs[i],(xs.take j).drop (i + 1),xs[j],xs.drop (j + 1),?_,by simp;omega,by simp;omega,rfl,rfl⟩
 have h1:xs = xs.take j ++ (xs[j] :: xs.drop (j + 1)):=by rw [← List.drop_eq_getElem_cons hj,List.take_append_drop]
 have h2:xs.take j = xs.take i ++ (xs[i] :: (xs.take j).drop (i + 1)):=by
  have e:(xs.take j)[i]'(by simp;omega) = xs[i]:=by simp
  rw [← e,← List.drop_eq_getElem_cons (by simp;omega)]
  have e2:(xs.take j).take i = xs.take i:=by rw [List.take_take,Nat.min_eq_left (by omega)]
  rw [← e2,List.take_append_drop]
 conv => lhs;rw [h1,h2]
 simp
theorem swpL_split (p q r:List α) (a b:α) (i j:Nat) (hi:p.length = i) (hj:i + q.length + 1 = j):swpL (p ++ (a :: (q ++ (b :: r)))) i j = p ++ (b :: (q ++ (a :: r))):=by
 subst hi
 subst hj
 have h1:(p ++ (a :: (q ++ (b :: r))))[p.length]? = some a:=by simp
 have h2:(p ++ (a :: (q ++ (b :: r))))[p.length + q.length + 1]? = some b:=by
  rw [List.getElem?_append_right (by omega),show p.length + q.length + 1 - p.length = q.length + 1 by omega]
  simp
 unfold swpL
 rw [h1,h2]
 simp only
 rw [List.set_append_right _ _ (Nat.le_refl _),Nat.sub_self,List.set_cons_zero,List.set_append_right _ _ (by omega),show p.length + q.length + 1 - p.length = q.length + 1 by omega,List.set_cons_succ,List.set_append_right _ _ (Nat.le_refl _),Nat.sub_self,List.set_cons_zero]
theorem swpL_perm (xs:List α) (i j:Nat) (hij:i < j) (hj:j < xs.length):(swpL xs i j).Perm xs:=by
 obtain ⟨p,a,q,b,r,e,h1,h2,_,_⟩:=split2 xs i j hij hj
 subst e
 rw [swpL_split p q r a b i j h1 h2]
 refine List.Perm.append_left p ?_
 refine ((List.perm_middle (l₁:=q) (a:=a) (l₂:=r)).cons b).trans ?_
 refine (List.Perm.swap a b _).trans ?_
 exact ((List.perm_middle (l₁:=q) (a:=b) (l₂:=r)).symm).cons a
theorem swpL_get (xs:List α) (i j:Nat) (hi:i < xs.length) (hj:j < xs.length) (k:Nat) (hk:k < xs.length):(swpL xs i j)[k]'(by rw [yA0];exact hk) = if k = j then xs[i] else if k = i then xs[j] else xs[k]:=by
 have e:=swpL_eq xs i j hi hj
 simp only [e,List.getElem_set]
 by_cases h1:j = k
 ·subst h1;simp
 ·by_cases h2:i = k
  ·subst h2;simp [h1,Ne.symm h1]
  ·simp [h1,h2,Ne.symm h1,Ne.symm h2]
theorem swpL_out (xs:List α) (i j k:Nat) (h1:k ≠ i) (h2:k ≠ j):(swpL xs i j)[k]? = xs[k]?:=by
 unfold swpL
 split
 ·rw [List.getElem?_set_ne (Ne.symm h2),List.getElem?_set_ne (Ne.symm h1)]
 ·rfl
variable {c:α→α→Int}
def SegOk (c:α→α→Int) (a i:Nat) (ys:List α):Prop:=∀ p q (hp:p < ys.length) (hq:q < ys.length),a ≤ p→p < q→q < i→c ys[p] ys[q] ≤ 0
def SinkOk (c:α→α→Int) (a i j:Nat) (ys:List α):Prop:=∀ p q (hp:p < ys.length) (hq:q < ys.length),a ≤ p→p < q→q < i + 1→q ≠ j→c ys[p] ys[q] ≤ 0
theorem SegOk.sink {a i:Nat} {ys:List α} (h:SegOk c a i ys):SinkOk c a i i ys:=fun p q hp hq h1 h2 h3 h4 => h p q hp hq h1 h2 (by omega)
theorem SinkOk.swap {a i j:Nat} {ys:List α} (h:SinkOk c a i j ys) (hj0:a < j) (hji:j ≤ i) (hj:j < ys.length) (hlt:c ys[j] (ys[j - 1]'(by omega)) < 0):SinkOk c a i (j - 1) (swpL ys (j - 1) j):=by
 intro p q hp hq h1 h2 h3 h4
 have hp':p < ys.length:=by rw [yA0] at hp;exact hp
 have hq':q < ys.length:=by rw [yA0] at hq;exact hq
 rw [swpL_get ys (j - 1) j (by omega) hj p hp',swpL_get ys (j - 1) j (by omega) hj q hq']
 by_cases hqj:q = j
 ·subst hqj
  rw [if_pos rfl,if_neg (by omega)]
  by_cases hp1:p = q - 1
  ·rw [if_pos hp1];omega
  ·rw [if_neg hp1];exact h p (q - 1) hp' (by omega) h1 (by omega) (by omega) (by omega)
 ·rw [if_neg hqj,if_neg h4]
  by_cases hpj:p = j
  ·subst hpj
   rw [if_pos rfl]
   exact h (p - 1) q (by omega) hq' (by omega) (by omega) h3 hqj
  ·rw [if_neg hpj]
   by_cases hp1:p = j - 1
   ·rw [if_pos hp1]
    exact h j q hj hq' (by omega) (by omega) h3 hqj
   ·rw [if_neg hp1]
    exact h p q hp' hq' h1 h2 h3 hqj
theorem SinkOk.done (hc:Cmp c) {a i j:Nat} {ys:List α} (h:SinkOk c a i j ys) (hj:j < ys.length) (hs:j ≤ a ∨ ¬ c ys[j] (ys[j - 1]'(by omega)) < 0) (_hji:j ≤ i):SegOk c a (i + 1) ys:=by
 intro p q hp hq h1 h2 h3
 by_cases hqj:q = j
 ·subst hqj
  rcases hs with hs|hs
  ·omega
  ·have hle:=hc.le_of_not_lt hs
   by_cases hp1:p = q - 1
   ·subst hp1;exact hle
   ·exact hc.trans _ _ _ (h p (q - 1) hp (by omega) h1 (by omega) (by omega) (by omega)) hle
 ·exact h p q hp hq h1 h2 (by omega) hqj
theorem SegOk.pairwise {ys:List α} {n:Nat} (h:SegOk c 0 n ys) (hn:ys.length ≤ n):ys.Pairwise (fun a b => c a b ≤ 0):=by
 rw [List.pairwise_iff_getElem]
 intro i j hi hj hij
 exact h i j hi hj (Nat.zero_le _) hij (by omega)
structure PermIn (a b:Nat) (xs ys:List α):Prop where
 perm:ys.Perm xs
 out:∀ p,(p < a ∨ b ≤ p)→ys[p]? = xs[p]?
theorem PermIn.refl (a b:Nat) (xs:List α):PermIn a b xs xs:=⟨List.Perm.refl _,fun _ _ => rfl⟩
theorem PermIn.trans {a b:Nat} {xs ys zs:List α} (h:PermIn a b xs ys) (k:PermIn a b ys zs):PermIn a b xs zs:=⟨k.perm.trans h.perm,fun p hp => (k.out p hp).trans (h.out p hp)⟩
theorem PermIn.len {a b:Nat} {xs ys:List α} (h:PermIn a b xs ys):ys.length = xs.length:=h.perm.length_eq
theorem PermIn.swp {a b:Nat} (xs:List α) (i j:Nat) (hij:i < j) (hj:j < xs.length) (ha:a ≤ i) (hb:j < b):PermIn a b xs (swpL xs i j) :=
 ⟨swpL_perm xs i j hij hj,fun p hp => swpL_out xs i j p (by omega) (by omega)⟩
theorem PermIn.mono {a b a' b':Nat} {xs ys:List α} (h:PermIn a b xs ys) (h1:a' ≤ a) (h2:b ≤ b'):PermIn a' b' xs ys:=⟨h.perm,fun p hp => h.out p (by omega)⟩
variable {R:Rep α} {w:World}
theorem ownL.unappend:∀ {xs ys:List α} {ds:List Value} {F:List Nat},ownL R w ds (xs ++ ys) F →
  ∃ d1 d2 F1 F2,ds = d1 ++ d2∧F = F1 ++ F2∧ownL R w d1 xs F1∧ownL R w d2 ys F2
 | [],ys,ds,F,h => ⟨[],ds,[],F,rfl,rfl,⟨rfl,rfl⟩,h⟩
 | x :: xs,ys,ds,F,⟨c,d,G,H,e,e',h1,h2⟩ => by
  obtain ⟨d1,d2,F1,F2,k1,k2,k3,k4⟩:=ownL.unappend h2
  exact ⟨c ++ d1,d2,G ++ F1,F2,by rw [e,k1,List.append_assoc],by rw [e',k2,List.append_assoc],⟨c,d1,G,F1,rfl,rfl,h1,k3⟩,k4⟩
theorem Own.of_heap {β:Type} {S:Rep β} {w w':World} {cs:List Value} {x:β} {lo hi:Nat} (h:Own S lo hi w cs x) (e:w'.heap = w.heap):Own S lo hi w' cs x :=
 h.frame fun b _ _ => by rw [e]
theorem Rd.of_heap {β:Type} {S:Rep β} {w w':World} {cs:List Value} {x:β} (h:Rd S w cs x) (e:w'.heap = w.heap):Rd S w' cs x :=
 S.rd_mono (S.rd_frame h fun b _ _ => by rw [e]) (fun b hb _ => by rw [e];exact hb)
theorem Chg.of_heap {lo hi:Nat} {w w' w'':World} (h:Chg lo hi w w') (e:w''.heap = w'.heap) (e1:w''.os = w'.os) (e2:w''.tape = w'.tape) (e3:w''.output = w'.output):Chg lo hi w w'' :=
 ⟨e1.trans h.os,e2.trans h.tape,e3.trans h.output,by rw [e];exact h.size,fun k hk hn => by rw [e];exact h.block k hk hn⟩
theorem Own.swap {v:Value} {xs:List α} {lo hi:Nat} (h:Own (RS R) lo hi w [v] xs) (hk:R.k = 1) (i j:Nat) (hij:i < j) (hj:j < xs.length) :
  ∃ g cap a b,v = .slice (some ⟨g,0,none⟩) xs.length cap∧xs.length ≤ cap∧cap ≤ 9223372036854775807∧g < w.heap.size ∧
   w.cell? ⟨g,i,none⟩ = some a∧w.cell? ⟨g,j,none⟩ = some b∧w.frozen? ⟨g,i,none⟩ = false∧w.frozen? ⟨g,j,none⟩ = false∧Rd R w [a] xs[i]∧Rd R w [b] xs[j] ∧
   (w.setCell ⟨g,j,none⟩ a).cell? ⟨g,i,none⟩ = some a ∧
   Own (RS R) lo hi ((w.setCell ⟨g,j,none⟩ a).setCell ⟨g,i,none⟩ b) [v] (swpL xs i j)∧Chg lo hi w ((w.setCell ⟨g,j,none⟩ a).setCell ⟨g,i,none⟩ b):=by
 obtain ⟨og,ds,F,hrow,hel,hF,hlt⟩:=h.open
 obtain ⟨g,rfl⟩:=hrow.some_of hj
 obtain ⟨cap,hv,hc1,hc2⟩:=hrow.slice
 obtain ⟨p,x,q,y,r,e,hp,hq,hxi,hxj⟩:=split2 xs i j hij hj
 rw [hxi,hxj]
 have hel0:=hel
 rw [e] at hel0
 obtain ⟨d1,d2,F1,F2,rfl,rfl,h1,⟨ca,d3,G,H,rfl,rfl,h2,h3⟩⟩:=ownL.unappend hel0
 obtain ⟨d4,d5,F4,F5,rfl,rfl,h4,⟨cb,d6,G2,H2,rfl,rfl,h5,h6⟩⟩:=ownL.unappend h3
 have la:=R.rd_len (R.own_rd h2)
 have lb:=R.rd_len (R.own_rd h5)
 rw [hk] at la lb
 match ca,la,cb,lb with
 | [a],_,[b],_ =>
  have l1:d1.length = i:=by rw [h1.len,hk,Nat.mul_one,hp]
  have l4:i + d4.length + 1 = j:=by rw [h4.len,hk,Nat.mul_one];exact hq
  have hlen:xs.length = p.length + (1 + (q.length + (1 + r.length))):=by rw [e];simp only [List.length_append,List.length_cons];omega
  have hrow':Row w v 1 xs.length (d1 ++ (a :: (d4 ++ (b :: d6)))) (some g):=by rw [← hk];exact hrow
  have ga:w.cell? ⟨g,i,none⟩ = some a:=hrow'.cells i a (by rw [← l1];simp)
  have gb:w.cell? ⟨g,j,none⟩ = some b:=hrow'.cells j b (by
   rw [List.getElem?_append_right (by omega),l1,show j - i = d4.length + 1 by omega];simp)
  obtain ⟨s1,r1⟩:=hrow'.store j a
  obtain ⟨s2,r2⟩:=s1.store i b
  have hset:((d1 ++ (a :: (d4 ++ (b :: d6)))).set j a).set i b = d1 ++ (b :: (d4 ++ (a :: d6))):=by
   rw [List.set_append_right _ _ (by omega),l1,show j - i = d4.length + 1 by omega,List.set_cons_succ,List.set_append_right _ _ (Nat.le_refl _),Nat.sub_self,List.set_cons_zero]
   rw [List.set_append_right _ _ (by omega),l1,Nat.sub_self,List.set_cons_zero]
  rw [hset] at s2
  have hfr:∀ z,z ∈ F1 ++ (G ++ (F4 ++ (G2 ++ H2)))→((w.setCell ⟨g,j,none⟩ a).setCell ⟨g,i,none⟩ b).heap[z]? = w.heap[z]?:=by
   intro z hz
   have hne:z ≠ g:=by
    intro e;subst e
    exact (List.nodup_append.1 hF).2.2 z (by simp) z hz rfl
   rw [heap_setCell_other _ ⟨g,i,none⟩ z b hne,heap_setCell_other _ ⟨g,j,none⟩ z a hne]
  have hown:ownL R ((w.setCell ⟨g,j,none⟩ a).setCell ⟨g,i,none⟩ b) (d1 ++ (b :: (d4 ++ (a :: d6)))) (swpL xs i j) (F1 ++ (G2 ++ (F4 ++ (G ++ H2)))):=by
   rw [e,swpL_split p q r x y i j hp hq]
   refine ownL.append (h1.frame fun z hz => hfr z (by simp [hz])) ?_
   refine ⟨[b],d4 ++ (a :: d6),G2,F4 ++ (G ++ H2),rfl,rfl,R.own_frame h5 (fun z hz => hfr z (by simp [hz])),?_⟩
   refine ownL.append (h4.frame fun z hz => hfr z (by simp [hz])) ?_
   exact ⟨[a],d6,G,H2,rfl,rfl,R.own_frame h2 (fun z hz => hfr z (by simp [hz])),h6.frame fun z hz => hfr z (by simp [hz])⟩
  have hperm:(F1 ++ (G2 ++ (F4 ++ (G ++ H2)))).Perm (F1 ++ (G ++ (F4 ++ (G2 ++ H2)))):=by
   refine List.Perm.append_left F1 ?_
   have e1:(G2 ++ (F4 ++ (G ++ H2))).Perm (G ++ (G2 ++ (F4 ++ H2))):=by
    rw [← List.append_assoc,← List.append_assoc]
    refine (List.perm_append_comm.append_right H2).trans ?_
    rw [List.append_assoc,List.append_assoc]
   refine e1.trans (List.Perm.append_left G ?_)
   rw [← List.append_assoc,← List.append_assoc]
   exact List.perm_append_comm.append_right H2
  have hg:=hlt g (by simp)
  have hgs:=hrow.lt g rfl
  refine ⟨g,cap,a,b,hv,hc1,by unfold maxLen at hc2;omega,hgs,ga,gb,hrow'.frozen i,hrow'.frozen j,Rd.of (R.own_rd h2),Rd.of (R.own_rd h5),?_,?_,?_⟩
  ·rw [World.cell?_setCell_other _ _ _ _ (by intro e;simp only [Addr.mk.injEq] at e;omega)];exact ga
  ·refine Own.mk' (og:=some g) (ds:=d1 ++ (b :: (d4 ++ (a :: d6)))) (F:=F1 ++ (G2 ++ (F4 ++ (G ++ H2)))) (by rw [hk,yA0];exact s2) hown ?_ ?_
   ·exact (List.Perm.nodup_iff (hperm.append_left _)).2 hF
   ·intro z hz
    exact hlt z ((hperm.append_left _).mem_iff.1 hz)
  ·exact (Chg.of_grown r1 (fun z hz => by cases hz;exact hg)).trans (Chg.of_grown r2 (fun z hz => by cases hz;exact hg))
end
end
section
def isNum (n:Int):Bool:=inR n 0 10006
theorem c_impl_IsNumber (n:Int) (w:World):Calls Tryz.prog 86 #[.int .i64 n] w (RetS w (.bool (isNum n))):=by
 go_enter Tryz.func86,Tryz.ntmps86
 go_wp2_with (go_at_call 112;refine (xT0 _ _ _ _).mono ?_;rintro e w' ⟨rfl,rfl⟩)
 go_ret
 exact ⟨rfl,rfl⟩
def isMap (xs:List Int):Bool:=decide (xs.length = 38) && xs.all isNum
end
end Go.Proofs.YtedgfkpfhonlpaaGreat
